/- Chapter 13, plain: both rings hold the same behind a state. -/
import Derived.Test.YtfjcflmhboepmaaF13q
open Go Go.RowKit
namespace Go.Proofs.Ytfjcflmhboepmaa
set_option linter.unusedSimpArgs false
set_option linter.unusedVariables false
theorem gd_app1 {l : List Sta} {s : Sta} {i : Nat} (h : i < l.length) : gd (l ++ [s]) i = gd l i := by
  simp [gd, List.getElem?_append_left h]
theorem gd_app2 {l : List Sta} {s : Sta} : gd (l ++ [s]) l.length = s := by simp [gd]
theorem gd_take {l : List Sta} {p i : Nat} (h : i < p) : gd (l.take p) i = gd l i := by
  simp [gd, h]
theorem gd_drop {l : List Sta} {i : Nat} : gd (l.drop 1) i = gd l (i + 1) := by
  simp [gd, Nat.add_comm]
theorem at_set {g : Rg} (hg : g.ok) {s : Sta} {lo hi : Int} {f : Int} (hf : f = s.frame) : (Rg.mk g.n lo hi (g.ss.set (s.frame.toNat % g.n) s)).at f = s := by
  subst hf
  have : s.frame.toNat % g.n < g.ss.length := by rw [hg.len]; exact Nat.mod_lt _ (by have := hg.n1; omega)
  simp [Rg.at, List.getD, this]
theorem at_set_ne {g : Rg} (hg : g.ok) {s : Sta} {lo hi : Int} {f : Int} (h0 : 0 ≤ f) (h1 : f < s.frame) (h2 : s.frame < f + g.n) : (Rg.mk g.n lo hi (g.ss.set (s.frame.toNat % g.n) s)).at f = g.at f := by
  have hne : s.frame.toNat % g.n ≠ f.toNat % g.n := by
    intro he
    have h3 : (s.frame.toNat - f.toNat) % g.n = 0 := Nat.sub_mod_eq_zero_of_mod_eq he
    have h4 : (s.frame.toNat - f.toNat) % g.n = s.frame.toNat - f.toNat := Nat.mod_eq_of_lt (by omega)
    omega
  simp only [Rg.at]
  rw [List.getD, List.getElem?_set_ne hne]; rfl
theorem RelR.put {g : Rg} {l : List Sta} (hr : RelR g l) (hg : g.ok) (s : Sta) : RelR (g.put s) (putL g l s) := by
  have n1 := hg.n1
  cases hb : g.putB s
  · simpa [Rg.put, putL, hb] using hr
  · obtain ⟨hs, hp⟩ := putB_iff.1 hb
    obtain ⟨f0, f1, _⟩ := (isS_iff s).1 hs
    have e1 : g.put s = ⟨g.n, max (if g.hi < 0 then s.frame else g.lo) (s.frame - g.n + 1), s.frame, g.ss.set (s.frame.toNat % g.n) s⟩ := by simp [Rg.put, hb]
    have e2 : putL g l s = if g.n < (l.take (putK g s) ++ [s]).length then (l.take (putK g s) ++ [s]).drop 1 else l.take (putK g s) ++ [s] := by simp [putL, hb]
    rw [e1, e2]
    rcases hr with ⟨rfl, a, b⟩ | ⟨hne, h0, h1, h2, h3⟩
    · have hlt : g.hi < 0 := by omega
      rw [if_pos hlt]
      have : putK g s = 0 := by simp [putK, hlt]
      rw [this]
      have hd1 : ¬ g.n < 1 := by omega
      simp only [List.take_zero, List.nil_append, List.length_singleton, hd1, if_false]
      refine .inr ⟨by simp, by dsimp only; omega, by dsimp only [List.length_singleton]; omega, by dsimp only [List.length_singleton]; omega, fun i hi => ?_⟩
      have : i = 0 := by simp at hi; omega
      subst this
      have em : max s.frame (s.frame - g.n + 1) + ((0 : Nat) : Int) = s.frame := by omega
      refine ⟨by dsimp only; rw [em]; rfl, ?_⟩
      dsimp only
      rw [em]
      exact at_set hg rfl
    · have hnl : ¬ g.hi < 0 := by have := List.length_pos_iff.2 hne; omega
      rw [if_neg hnl]
      have hpk : putK g s = (s.frame - g.lo).toNat := by simp [putK, hnl]
      obtain ⟨p, hp2⟩ : ∃ p : Nat, s.frame = g.lo + p := ⟨(s.frame - g.lo).toNat, by omega⟩
      have hpk' : putK g s = p := by omega
      rw [hpk']
      have hpl : p ≤ l.length := by omega
      have hlen : (l.take p ++ [s]).length = p + 1 := by simp; omega
      have hlt : (l.take p).length = p := by rw [List.length_take]; omega
      rw [hlen]
      by_cases hd : g.n < p + 1
      · rw [if_pos hd]
        have hpn : p = g.n := by omega
        have hm : max g.lo (s.frame - g.n + 1) = g.lo + 1 := by omega
        rw [hm]
        refine .inr ⟨?_, by dsimp only; omega, by dsimp only; rw [List.length_drop, hlen]; omega, by dsimp only; rw [List.length_drop, hlen]; omega, fun i hi => ?_⟩
        · intro e
          have := congrArg List.length e
          rw [List.length_drop, hlen] at this
          simp at this; omega
        · rw [List.length_drop, hlen] at hi
          rw [gd_drop]
          dsimp only
          rcases Nat.lt_or_ge (i + 1) p with h | h
          · rw [gd_app1 (by omega), gd_take h]
            obtain ⟨c, d⟩ := h3 (i + 1) (by omega)
            refine ⟨by omega, ?_⟩
            rw [at_set_ne hg (by omega) (by omega) (by omega), ← d]
            congr 1; omega
          · have hi1 : i + 1 = (l.take p).length := by omega
            rw [hi1, gd_app2]
            refine ⟨by omega, at_set hg (by omega)⟩
      · rw [if_neg hd]
        have hm : max g.lo (s.frame - g.n + 1) = g.lo := by omega
        rw [hm]
        refine .inr ⟨by simp, by dsimp only; omega, by dsimp only; rw [hlen]; omega, by dsimp only; rw [hlen]; omega, fun i hi => ?_⟩
        rw [hlen] at hi
        dsimp only
        rcases Nat.lt_or_ge i p with h | h
        · rw [gd_app1 (by omega), gd_take h]
          obtain ⟨c, d⟩ := h3 i (by omega)
          refine ⟨c, ?_⟩
          rw [at_set_ne hg (by omega) (by omega) (by omega), ← d]
        · have hi1 : i = (l.take p).length := by omega
          rw [hi1, gd_app2]
          refine ⟨by omega, at_set hg (by omega)⟩
/-- both rings behind the first states of a row -/
def pr (n : Nat) (l : List Sta) : Nat → Rg × List Sta
  | 0 => (rg0 n, [])
  | i + 1 => ((pr n l i).1.put (gd l i), putL (pr n l i).1 (pr n l i).2 (gd l i))
theorem pr_ok {n : Nat} (h1 : 1 ≤ n) (h2 : n ≤ 256) (l : List Sta) : ∀ i, (pr n l i).1.ok ∧ RelR (pr n l i).1 (pr n l i).2 ∧ (pr n l i).1.n = n
  | 0 => ⟨rg0_ok h1 h2, .inl ⟨rfl, rfl, rfl⟩, rfl⟩
  | i + 1 => by
    obtain ⟨a, b, c⟩ := pr_ok h1 h2 l i
    exact ⟨put_ok a _, b.put a _, by rw [pr, put_n]; exact c⟩
theorem RelR.wide {g : Rg} {l : List Sta} (hr : RelR g l) (hg : g.ok) : g.hi - g.lo < g.n := by
  have := hg.n1
  rcases hr with ⟨_, a, b⟩ | ⟨_, _, a, b, _⟩ <;> omega
end Go.Proofs.Ytfjcflmhboepmaa
