/- From the logic to the rows of the laws: sixteen bytes, a string. -/
import Derived.Test.YtbkmmelhfkcmgaaRwH
import Derived.Test.YtbkmmelhfkcmgaaRwF
open Go Go.RowKit Go.ChangeShapes Go.WideShapes
namespace Go.Proofs.Ytbkmmelhfkcmgaa
set_option linter.unusedVariables false
theorem u8_inv : ∀ (n : Nat) {l : List Value}, All2 okW (List.replicate n (some .u8)) l → ∃ t : List UInt8, l.map D.val = byt t ∧ t.length = n
  | 0, l, h => by cases h; exact ⟨[], rfl, rfl⟩
  | n + 1, l, h => by
    obtain ⟨v, l', rfl, ⟨m, rfl, hm⟩, h2⟩ := h.cons_inv
    obtain ⟨xs, e, hx⟩ := u8_inv n h2
    have hu : ((UInt8.ofNat m.toNat).toNat : Int) = m := by
      simp only [Lit.wf, Bool.and_eq_true, decide_eq_true_eq] at hm
      have e1 : IntKind.u8.min = 0 := by kernel_rfl
      have e2 : IntKind.u8.max = 255 := by kernel_rfl
      rw [e1, e2] at hm
      rw [UInt8.toNat_ofNat']; omega
    refine ⟨UInt8.ofNat m.toNat :: xs, ?_, by simp [hx]⟩
    rw [List.map_cons, e]
    simp only [byt, List.map_cons, hu]
theorem flatB16 : flatK Try.prog 8 24 = some (List.replicate 16 (some .u8)) := by kernel_rfl
theorem open_b16 {H : Type} {enc : TypeId × Value → H} {W : World} {v : Value} {d : DataW H} {ps : List MemPlace} {r : Reach} {b0 : Nat}
    (hv : Value.okWide Try.prog W r b0 24 v) (h : DataW.Trod enc Try.prog W 0 (fun _ => true) true 24 v d ps) :
    ∃ t : List UInt8, RelW (ghOf W) (.agg ((byt t).map D.toC)) v ∧ t.length = 16 := by
  simp only [Value.okWide, Try.underlying24] at hv
  obtain ⟨cs, rfl, _⟩ := hv
  obtain ⟨h1, h2⟩ := open_flat flatB16 h
  obtain ⟨t, e, hl⟩ := u8_inv 16 h1
  refine ⟨t, ?_, hl⟩
  have e2 : (byt t).map D.toC = cs.toList.map C.val := by rw [← e, List.map_map]; rfl
  rw [e2]
  exact h2
theorem open_str {H : Type} {enc : TypeId × Value → H} {W : World} {v : Value} {d : DataW H} {ps : List MemPlace} {r : Reach} {b0 : Nat}
    (hv : Value.okWide Try.prog W r b0 9 v) (h : DataW.Trod enc Try.prog W 0 (fun _ => true) true 9 v d ps) :
    ∃ bs : List UInt8, RelW (ghOf W) (.c (.val (.string (strB bs)))) v := by
  obtain ⟨s, rfl⟩ := okWide_string Try.underlying9 hv
  refine ⟨s.data.toList, ?_⟩
  have e : strB s.data.toList = s := by simp [strB]
  rw [e]
  exact ⟨rfl, rfl⟩
end Go.Proofs.Ytbkmmelhfkcmgaa
