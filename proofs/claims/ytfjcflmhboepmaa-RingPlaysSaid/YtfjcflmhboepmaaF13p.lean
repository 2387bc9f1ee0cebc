/- Chapter 13 in the logic: the document's ring. -/
import Derived.Test.YtfjcflmhboepmaaF13j
import Derived.Test.YtfjcflmhboepmaaAwK
open Go Go.RowKit
namespace Go.Proofs.Ytfjcflmhboepmaa
set_option linter.unusedSimpArgs false
set_option linter.unusedVariables false
def gd (l : List Sta) (i : Nat) : Sta := l.getD i (stz 0 0)
@[go_sem ↓ 1200] theorem e_IAs' {V' : V → Prop} {l : List Sta} {o : Own} {nl : Option Bool} {a : Int} {t : TypeId} (h0 : 0 ≤ a) (h1 : a < l.length) : aIA (some (none, t, 20)) (.cell (.lst o nl 20 (sds l))) a V' = V' (.cell (.mem (sd (l.getD a.toNat (stz 0 0)) ++ sds (l.drop (a.toNat + 1))))) := e_IAs (d := stz 0 0) h0 h1
theorem gd_eq {l : List Sta} {i : Nat} : l.getD i (stz 0 0) = gd l i := rfl
abbrev rfH (i : Id) (n : Nat) (l : List Sta) : List (Id × List C) := [(i, [.val (.int .i64 n), .lst .no none 20 (sds l)])]
/-- both rings hold the same -/
def RelR (g : Rg) (l : List Sta) : Prop :=
  (l = [] ∧ g.lo = -1 ∧ g.hi = -1) ∨ (l ≠ [] ∧ 0 ≤ g.lo ∧ g.hi = g.lo + l.length - 1 ∧ l.length ≤ g.n ∧ ∀ i, i < l.length → (gd l i).frame = g.lo + i ∧ g.at (g.lo + i) = gd l i)
theorem RelR.len {g : Rg} {l : List Sta} (h : RelR g l) (hg : g.ok) : l.length ≤ 256 := by
  rcases h with ⟨rfl, _⟩ | ⟨_, _, _, h, _⟩
  · simp
  · have := hg.n2; omega
theorem RelR.ne {g : Rg} {l : List Sta} (h : RelR g l) {i : Nat} (hi : i < l.length) : 0 ≤ g.lo ∧ g.hi = g.lo + l.length - 1 ∧ l.length ≤ g.n ∧ ∀ i, i < l.length → (gd l i).frame = g.lo + i ∧ g.at (g.lo + i) = gd l i := by
  rcases h with ⟨rfl, _⟩ | ⟨_, h⟩
  · simp at hi
  · exact h
theorem RelR.hit {g : Rg} {l : List Sta} (h : RelR g l) {i : Nat} (hi : i < l.length) : g.getE (gd l i).frame = true ∧ g.get (gd l i).frame = gd l i := by
  obtain ⟨h0, h1, h2, h3⟩ := h.ne hi
  obtain ⟨a, b⟩ := h3 i hi
  have e : g.getE (gd l i).frame = true := by
    simp only [Rg.getE, a, h1, Bool.not_eq_true', Bool.or_eq_false_iff, decide_eq_false_iff_not]
    omega
  exact ⟨e, by rw [Rg.get, if_pos e, a, b]⟩
theorem RelR.miss {g : Rg} {l : List Sta} (h : RelR g l) {f : Int} (hf : ∀ j, j < l.length → (gd l j).frame ≠ f) : g.getE f = false := by
  rcases h with ⟨rfl, h1, h2⟩ | ⟨hne, h0, h1, h2, h3⟩
  · simp [Rg.getE, h2]
  · cases e : g.getE f
    · rfl
    · simp only [Rg.getE, h1, Bool.not_eq_true', Bool.or_eq_false_iff, decide_eq_false_iff_not] at e
      have hl : (f - g.lo).toNat < l.length := by omega
      refine absurd ?_ (hf _ hl)
      rw [(h3 _ hl).1]
      omega
theorem new_badR (n : Int) (h : n < 1 ∨ 256 < n) : Holds Try.prog 39 [.int .i64 n] [] (fun r h' => r = .tup [.c (.val (.pointer none)), .int .i64 1] ∧ h' = []) := by
  refine holds_of_awp Try.func39 rfl (by decide +kernel) mixed Try.ntmps39 Try.results39 ?_
  simp only [entrySt, List.map_cons, List.map_nil, List.length_cons, List.length_nil, Nat.reduceAdd, Nat.reduceSub, List.replicate_succ, List.replicate_zero, List.cons_append, List.nil_append]
  cases e1 : decide (n < 1)
  · have e2 : decide (256 < n) = true := by have := of_decide_eq_false e1; exact decide_eq_true (by omega)
    simp (maxSteps := 2000000) (disch := omega) only [go_sem, true_and, and_true, Nat.reduceAdd, Nat.reduceSub, Nat.reduceMul, Nat.reduceBEq, Nat.reduceEqDiff, Nat.reduceLT, Nat.reduceLeDiff, Nat.reduceDiv, reduceIte, Nat.zero_add, Nat.add_zero, Int.toNat_natCast, Option.some.injEq, exists_eq_left', reduceCtorEq, Int.natCast_add, Int.natCast_mul, Int.cast_ofNat_Int, List.replicate_succ, List.replicate_zero, List.cons_append, List.nil_append, e1, e2]
  · simp (maxSteps := 2000000) (disch := omega) only [go_sem, true_and, and_true, Nat.reduceAdd, Nat.reduceSub, Nat.reduceMul, Nat.reduceBEq, Nat.reduceEqDiff, Nat.reduceLT, Nat.reduceLeDiff, Nat.reduceDiv, reduceIte, Nat.zero_add, Nat.add_zero, Int.toNat_natCast, Option.some.injEq, exists_eq_left', reduceCtorEq, Int.natCast_add, Int.natCast_mul, Int.cast_ofNat_Int, List.replicate_succ, List.replicate_zero, List.cons_append, List.nil_append, e1]
theorem new_okR (n : Nat) (h1 : 1 ≤ n) (h2 : n ≤ 256) : Holds Try.prog 39 [.int .i64 n] [] (fun r h' => r = .tup [.c (.ptr (.loc [12]) 0), .int .i64 0] ∧ h' = rfH (.loc [12]) n []) := by
  refine holds_of_awp Try.func39 rfl (by decide +kernel) mixed Try.ntmps39 Try.results39 ?_
  simp only [entrySt, List.map_cons, List.map_nil, List.length_cons, List.length_nil, Nat.reduceAdd, Nat.reduceSub, List.replicate_succ, List.replicate_zero, List.cons_append, List.nil_append]
  have e1 : decide ((n : Int) < 1) = false := decide_eq_false (by omega)
  have e2 : decide (256 < (n : Int)) = false := decide_eq_false (by omega)
  simp (maxSteps := 2000000) (disch := omega) only [go_sem, true_and, and_true, Nat.reduceAdd, Nat.reduceSub, Nat.reduceMul, Nat.reduceBEq, Nat.reduceEqDiff, Nat.reduceLT, Nat.reduceLeDiff, Nat.reduceDiv, reduceIte, Nat.zero_add, Nat.add_zero, Int.toNat_natCast, Option.some.injEq, exists_eq_left', reduceCtorEq, Int.natCast_add, Int.natCast_mul, Int.cast_ofNat_Int, List.replicate_succ, List.replicate_zero, List.cons_append, List.nil_append, e1, e2]
  simp [leC, leCs, C.byt, Own.lax]
theorem framesR (g : Rg) (l : List Sta) (hr : RelR g l) (hg : g.ok) : Holds Try.prog 44 [.ptr (.arg 0) 0] (rfH (.arg 0) g.n l) (fun r h' => r = .tup [.int .i64 g.lo, .int .i64 g.hi] ∧ h' = rfH (.arg 0) g.n l) := by
  have hl := hr.len hg
  refine holds_of_awp Try.func44 rfl (by decide +kernel) mixed Try.ntmps44 Try.results44 ?_
  simp only [entrySt, List.map_cons, List.map_nil, List.length_cons, List.length_nil, Nat.reduceAdd, Nat.reduceSub, List.replicate_succ, List.replicate_zero, List.cons_append, List.nil_append]
  (simp (maxSteps := 2000000) (disch := omega) only [go_sem, true_and, and_true, Nat.reduceAdd, Nat.reduceSub, Nat.reduceMul, Nat.reduceBEq, Nat.reduceEqDiff, Nat.reduceLT, Nat.reduceLeDiff, Nat.reduceDiv, reduceIte, Nat.zero_add, Nat.add_zero, Int.toNat_natCast, Option.some.injEq, exists_eq_left', reduceCtorEq, Int.natCast_add, Int.natCast_mul, Int.cast_ofNat_Int, List.replicate_succ, List.replicate_zero, List.cons_append, List.nil_append]; repeat (with_reducible refine a_apA ?_; simp (maxSteps := 2000000) (disch := omega) only [go_sem, true_and, and_true, Nat.reduceAdd, Nat.reduceSub, Nat.reduceMul, Nat.reduceBEq, Nat.reduceEqDiff, Nat.reduceLT, Nat.reduceLeDiff, Nat.reduceDiv, reduceIte, Nat.zero_add, Nat.add_zero, Int.toNat_natCast, Option.some.injEq, exists_eq_left', reduceCtorEq, Int.natCast_add, Int.natCast_mul, Int.cast_ofNat_Int, List.replicate_succ, List.replicate_zero, List.cons_append, List.nil_append]))
  rcases hr with ⟨rfl, e1, e2⟩ | ⟨hne, h0, h1, h2, h3⟩
  · refine c_dec (fun h => ?_) (fun h => absurd rfl h)
    rw [e1, e2]
    (simp (maxSteps := 2000000) (disch := omega) only [go_sem, true_and, and_true, Nat.reduceAdd, Nat.reduceSub, Nat.reduceMul, Nat.reduceBEq, Nat.reduceEqDiff, Nat.reduceLT, Nat.reduceLeDiff, Nat.reduceDiv, reduceIte, Nat.zero_add, Nat.add_zero, Int.toNat_natCast, Option.some.injEq, exists_eq_left', reduceCtorEq, Int.natCast_add, Int.natCast_mul, Int.cast_ofNat_Int, List.replicate_succ, List.replicate_zero, List.cons_append, List.nil_append]; repeat (with_reducible refine a_apA ?_; simp (maxSteps := 2000000) (disch := omega) only [go_sem, true_and, and_true, Nat.reduceAdd, Nat.reduceSub, Nat.reduceMul, Nat.reduceBEq, Nat.reduceEqDiff, Nat.reduceLT, Nat.reduceLeDiff, Nat.reduceDiv, reduceIte, Nat.zero_add, Nat.add_zero, Int.toNat_natCast, Option.some.injEq, exists_eq_left', reduceCtorEq, Int.natCast_add, Int.natCast_mul, Int.cast_ofNat_Int, List.replicate_succ, List.replicate_zero, List.cons_append, List.nil_append]))
  · have hp : 0 < l.length := List.length_pos_iff.2 hne
    refine c_dec (fun h => absurd h (by omega)) (fun h => ?_)
    refine a_quiet (by kernel_rfl) (by kernel_rfl) (by kernel_rfl) ?_
    have a := (h3 0 hp).1
    have b := (h3 (l.length - 1) (by omega)).1
    simp (maxSteps := 2000000) (disch := omega) only [go_sem, true_and, and_true, Nat.reduceAdd, Nat.reduceSub, Nat.reduceMul, Nat.reduceBEq, Nat.reduceEqDiff, Nat.reduceLT, Nat.reduceLeDiff, Nat.reduceDiv, reduceIte, Nat.zero_add, Nat.add_zero, Int.toNat_natCast, Option.some.injEq, exists_eq_left', reduceCtorEq, Int.natCast_add, Int.natCast_mul, Int.cast_ofNat_Int, List.replicate_succ, List.replicate_zero, List.cons_append, List.nil_append, gd_eq]
    rw [show ((l.length : Int) - 1).toNat = l.length - 1 by omega]
    simp only [show (0 : Int).toNat = 0 from rfl, a, b]
    have c1 : g.lo + ((0 : Nat) : Int) = g.lo := by omega
    have c2 : g.lo + ((l.length - 1 : Nat) : Int) = g.hi := by omega
    rw [c1, c2]
    try (simp (maxSteps := 2000000) (disch := omega) only [go_sem, true_and, and_true, Nat.reduceAdd, Nat.reduceSub, Nat.reduceMul, Nat.reduceBEq, Nat.reduceEqDiff, Nat.reduceLT, Nat.reduceLeDiff, Nat.reduceDiv, reduceIte, Nat.zero_add, Nat.add_zero, Int.toNat_natCast, Option.some.injEq, exists_eq_left', reduceCtorEq, Int.natCast_add, Int.natCast_mul, Int.cast_ofNat_Int, List.replicate_succ, List.replicate_zero, List.cons_append, List.nil_append]; repeat (with_reducible refine a_apA ?_; simp (maxSteps := 2000000) (disch := omega) only [go_sem, true_and, and_true, Nat.reduceAdd, Nat.reduceSub, Nat.reduceMul, Nat.reduceBEq, Nat.reduceEqDiff, Nat.reduceLT, Nat.reduceLeDiff, Nat.reduceDiv, reduceIte, Nat.zero_add, Nat.add_zero, Int.toNat_natCast, Option.some.injEq, exists_eq_left', reduceCtorEq, Int.natCast_add, Int.natCast_mul, Int.cast_ofNat_Int, List.replicate_succ, List.replicate_zero, List.cons_append, List.nil_append]))
theorem getR (g : Rg) (l : List Sta) (hr : RelR g l) (hg : g.ok) (f : Int) : Holds Try.prog 48 [.ptr (.arg 0) 0, .int .i64 f] (rfH (.arg 0) g.n l) (fun r h' => r = .tup [.agg ((sd (g.get f)).map D.toC), .c (.val (.bool (g.getE f)))] ∧ h' = rfH (.arg 0) g.n l) := by
  have hl := hr.len hg
  refine holds_of_awp Try.func48 rfl (by decide +kernel) mixed Try.ntmps48 Try.results48 ?_
  simp only [entrySt, List.map_cons, List.map_nil, List.length_cons, List.length_nil, Nat.reduceAdd, Nat.reduceSub, List.replicate_succ, List.replicate_zero, List.cons_append, List.nil_append]
  (simp (maxSteps := 2000000) (disch := omega) only [go_sem, true_and, and_true, Nat.reduceAdd, Nat.reduceSub, Nat.reduceMul, Nat.reduceBEq, Nat.reduceEqDiff, Nat.reduceLT, Nat.reduceLeDiff, Nat.reduceDiv, reduceIte, Nat.zero_add, Nat.add_zero, Int.toNat_natCast, Option.some.injEq, exists_eq_left', reduceCtorEq, Int.natCast_add, Int.natCast_mul, Int.cast_ofNat_Int, List.replicate_succ, List.replicate_zero, List.cons_append, List.nil_append]; repeat (with_reducible refine a_apA ?_; simp (maxSteps := 2000000) (disch := omega) only [go_sem, true_and, and_true, Nat.reduceAdd, Nat.reduceSub, Nat.reduceMul, Nat.reduceBEq, Nat.reduceEqDiff, Nat.reduceLT, Nat.reduceLeDiff, Nat.reduceDiv, reduceIte, Nat.zero_add, Nat.add_zero, Int.toNat_natCast, Option.some.injEq, exists_eq_left', reduceCtorEq, Int.natCast_add, Int.natCast_mul, Int.cast_ofNat_Int, List.replicate_succ, List.replicate_zero, List.cons_append, List.nil_append]))
  refine a_loopk (fun i : Nat => ⟨[.w (.ptr (.arg 0) 0), .w (.int .i64 f), .undef, .undef, .w (.c (.ptr (.loc [4]) 0)), V.bool false, V.int .i64 i, .undef, .undef, .undef, .undef, .undef, .undef, .undef, .undef, .undef, .undef, .undef, .undef, .undef, .undef, .undef, .undef, .undef, .undef, .undef, .undef, .undef, .undef, .undef, .undef, .undef, .undef, .undef], [(.loc [4], (sd (stz 0 0)).map D.toC), (.arg 0, [.val (.int .i64 g.n), .lst .no none 20 (sds l)])]⟩) (fun i => i ≤ l.length ∧ ∀ j, j < i → (gd l j).frame ≠ f) (l.length - ·) 0 ⟨by omega, fun j h => absurd h (by omega)⟩ ?_ ?_
  · (simp (maxSteps := 2000000) (disch := omega) only [go_sem, true_and, and_true, Nat.reduceAdd, Nat.reduceSub, Nat.reduceMul, Nat.reduceBEq, Nat.reduceEqDiff, Nat.reduceLT, Nat.reduceLeDiff, Nat.reduceDiv, reduceIte, Nat.zero_add, Nat.add_zero, Int.toNat_natCast, Option.some.injEq, exists_eq_left', reduceCtorEq, Int.natCast_add, Int.natCast_mul, Int.cast_ofNat_Int, List.replicate_succ, List.replicate_zero, List.cons_append, List.nil_append]; repeat (with_reducible refine a_apA ?_; simp (maxSteps := 2000000) (disch := omega) only [go_sem, true_and, and_true, Nat.reduceAdd, Nat.reduceSub, Nat.reduceMul, Nat.reduceBEq, Nat.reduceEqDiff, Nat.reduceLT, Nat.reduceLeDiff, Nat.reduceDiv, reduceIte, Nat.zero_add, Nat.add_zero, Int.toNat_natCast, Option.some.injEq, exists_eq_left', reduceCtorEq, Int.natCast_add, Int.natCast_mul, Int.cast_ofNat_Int, List.replicate_succ, List.replicate_zero, List.cons_append, List.nil_append]))
  · rintro i ⟨hi, hno⟩
    (simp (maxSteps := 2000000) (disch := omega) only [go_sem, true_and, and_true, Nat.reduceAdd, Nat.reduceSub, Nat.reduceMul, Nat.reduceBEq, Nat.reduceEqDiff, Nat.reduceLT, Nat.reduceLeDiff, Nat.reduceDiv, reduceIte, Nat.zero_add, Nat.add_zero, Int.toNat_natCast, Option.some.injEq, exists_eq_left', reduceCtorEq, Int.natCast_add, Int.natCast_mul, Int.cast_ofNat_Int, List.replicate_succ, List.replicate_zero, List.cons_append, List.nil_append]; repeat (with_reducible refine a_apA ?_; simp (maxSteps := 2000000) (disch := omega) only [go_sem, true_and, and_true, Nat.reduceAdd, Nat.reduceSub, Nat.reduceMul, Nat.reduceBEq, Nat.reduceEqDiff, Nat.reduceLT, Nat.reduceLeDiff, Nat.reduceDiv, reduceIte, Nat.zero_add, Nat.add_zero, Int.toNat_natCast, Option.some.injEq, exists_eq_left', reduceCtorEq, Int.natCast_add, Int.natCast_mul, Int.cast_ofNat_Int, List.replicate_succ, List.replicate_zero, List.cons_append, List.nil_append]))
    refine c_dec (fun h => ?_) (fun h => ?_)
    · have hi' : i < l.length := by omega
      simp (maxSteps := 2000000) (disch := omega) only [go_sem, true_and, and_true, Nat.reduceAdd, Nat.reduceSub, Nat.reduceMul, Nat.reduceBEq, Nat.reduceEqDiff, Nat.reduceLT, Nat.reduceLeDiff, Nat.reduceDiv, reduceIte, Nat.zero_add, Nat.add_zero, Int.toNat_natCast, Option.some.injEq, exists_eq_left', reduceCtorEq, Int.natCast_add, Int.natCast_mul, Int.cast_ofNat_Int, List.replicate_succ, List.replicate_zero, List.cons_append, List.nil_append, gd_eq]
      refine c_dec (fun he => ?_) (fun he => ?_)
      · simp (maxSteps := 2000000) (disch := omega) only [go_sem, true_and, and_true, Nat.reduceAdd, Nat.reduceSub, Nat.reduceMul, Nat.reduceBEq, Nat.reduceEqDiff, Nat.reduceLT, Nat.reduceLeDiff, Nat.reduceDiv, reduceIte, Nat.zero_add, Nat.add_zero, Int.toNat_natCast, Option.some.injEq, exists_eq_left', reduceCtorEq, Int.natCast_add, Int.natCast_mul, Int.cast_ofNat_Int, List.replicate_succ, List.replicate_zero, List.cons_append, List.nil_append, gd_eq]
        obtain ⟨a, b⟩ := hr.hit hi'
        rw [he] at a b
        rw [a, b]
        exact ⟨by omega, leCs_refl _, rfl⟩
      · (simp (maxSteps := 2000000) (disch := omega) only [go_sem, true_and, and_true, Nat.reduceAdd, Nat.reduceSub, Nat.reduceMul, Nat.reduceBEq, Nat.reduceEqDiff, Nat.reduceLT, Nat.reduceLeDiff, Nat.reduceDiv, reduceIte, Nat.zero_add, Nat.add_zero, Int.toNat_natCast, Option.some.injEq, exists_eq_left', reduceCtorEq, Int.natCast_add, Int.natCast_mul, Int.cast_ofNat_Int, List.replicate_succ, List.replicate_zero, List.cons_append, List.nil_append]; repeat (with_reducible refine a_apA ?_; simp (maxSteps := 2000000) (disch := omega) only [go_sem, true_and, and_true, Nat.reduceAdd, Nat.reduceSub, Nat.reduceMul, Nat.reduceBEq, Nat.reduceEqDiff, Nat.reduceLT, Nat.reduceLeDiff, Nat.reduceDiv, reduceIte, Nat.zero_add, Nat.add_zero, Int.toNat_natCast, Option.some.injEq, exists_eq_left', reduceCtorEq, Int.natCast_add, Int.natCast_mul, Int.cast_ofNat_Int, List.replicate_succ, List.replicate_zero, List.cons_append, List.nil_append]))
        refine ⟨i + 1, by omega, ⟨by omega, fun j hj => ?_⟩, by simp⟩
        rcases Nat.lt_or_ge j i with h | h
        · exact hno j h
        · have : j = i := by omega
          subst this; exact he
    · (simp (maxSteps := 2000000) (disch := omega) only [go_sem, true_and, and_true, Nat.reduceAdd, Nat.reduceSub, Nat.reduceMul, Nat.reduceBEq, Nat.reduceEqDiff, Nat.reduceLT, Nat.reduceLeDiff, Nat.reduceDiv, reduceIte, Nat.zero_add, Nat.add_zero, Int.toNat_natCast, Option.some.injEq, exists_eq_left', reduceCtorEq, Int.natCast_add, Int.natCast_mul, Int.cast_ofNat_Int, List.replicate_succ, List.replicate_zero, List.cons_append, List.nil_append]; repeat (with_reducible refine a_apA ?_; simp (maxSteps := 2000000) (disch := omega) only [go_sem, true_and, and_true, Nat.reduceAdd, Nat.reduceSub, Nat.reduceMul, Nat.reduceBEq, Nat.reduceEqDiff, Nat.reduceLT, Nat.reduceLeDiff, Nat.reduceDiv, reduceIte, Nat.zero_add, Nat.add_zero, Int.toNat_natCast, Option.some.injEq, exists_eq_left', reduceCtorEq, Int.natCast_add, Int.natCast_mul, Int.cast_ofNat_Int, List.replicate_succ, List.replicate_zero, List.cons_append, List.nil_append]))
      have := hr.miss (f := f) (fun j hj => hno j (by omega))
      rw [Rg.get, this]
      exact ⟨leCs_refl _, rfl⟩
theorem newestR (g : Rg) (l : List Sta) (hr : RelR g l) (hg : g.ok) : Holds Try.prog 46 [.ptr (.arg 0) 0] (rfH (.arg 0) g.n l) (fun r h' => r = .tup [.agg ((sd (g.get g.hi)).map D.toC), .c (.val (.bool (g.getE g.hi)))] ∧ h' = rfH (.arg 0) g.n l) := by
  have hl := hr.len hg
  refine holds_of_awp Try.func46 rfl (by decide +kernel) mixed Try.ntmps46 Try.results46 ?_
  simp only [entrySt, List.map_cons, List.map_nil, List.length_cons, List.length_nil, Nat.reduceAdd, Nat.reduceSub, List.replicate_succ, List.replicate_zero, List.cons_append, List.nil_append]
  (simp (maxSteps := 2000000) (disch := omega) only [go_sem, true_and, and_true, Nat.reduceAdd, Nat.reduceSub, Nat.reduceMul, Nat.reduceBEq, Nat.reduceEqDiff, Nat.reduceLT, Nat.reduceLeDiff, Nat.reduceDiv, reduceIte, Nat.zero_add, Nat.add_zero, Int.toNat_natCast, Option.some.injEq, exists_eq_left', reduceCtorEq, Int.natCast_add, Int.natCast_mul, Int.cast_ofNat_Int, List.replicate_succ, List.replicate_zero, List.cons_append, List.nil_append]; repeat (with_reducible refine a_apA ?_; simp (maxSteps := 2000000) (disch := omega) only [go_sem, true_and, and_true, Nat.reduceAdd, Nat.reduceSub, Nat.reduceMul, Nat.reduceBEq, Nat.reduceEqDiff, Nat.reduceLT, Nat.reduceLeDiff, Nat.reduceDiv, reduceIte, Nat.zero_add, Nat.add_zero, Int.toNat_natCast, Option.some.injEq, exists_eq_left', reduceCtorEq, Int.natCast_add, Int.natCast_mul, Int.cast_ofNat_Int, List.replicate_succ, List.replicate_zero, List.cons_append, List.nil_append]))
  rcases hr with ⟨rfl, e1, e2⟩ | ⟨hne, h0, h1, h2, h3⟩
  · refine c_dec (fun h => ?_) (fun h => absurd rfl h)
    have : g.getE g.hi = false := by simp [Rg.getE, e2]
    rw [Rg.get, this]
    (simp (maxSteps := 2000000) (disch := omega) only [go_sem, true_and, and_true, Nat.reduceAdd, Nat.reduceSub, Nat.reduceMul, Nat.reduceBEq, Nat.reduceEqDiff, Nat.reduceLT, Nat.reduceLeDiff, Nat.reduceDiv, reduceIte, Nat.zero_add, Nat.add_zero, Int.toNat_natCast, Option.some.injEq, exists_eq_left', reduceCtorEq, Int.natCast_add, Int.natCast_mul, Int.cast_ofNat_Int, List.replicate_succ, List.replicate_zero, List.cons_append, List.nil_append]; repeat (with_reducible refine a_apA ?_; simp (maxSteps := 2000000) (disch := omega) only [go_sem, true_and, and_true, Nat.reduceAdd, Nat.reduceSub, Nat.reduceMul, Nat.reduceBEq, Nat.reduceEqDiff, Nat.reduceLT, Nat.reduceLeDiff, Nat.reduceDiv, reduceIte, Nat.zero_add, Nat.add_zero, Int.toNat_natCast, Option.some.injEq, exists_eq_left', reduceCtorEq, Int.natCast_add, Int.natCast_mul, Int.cast_ofNat_Int, List.replicate_succ, List.replicate_zero, List.cons_append, List.nil_append]))
  · have hp : 0 < l.length := List.length_pos_iff.2 hne
    refine c_dec (fun h => absurd h (by omega)) (fun h => ?_)
    obtain ⟨a, b⟩ := RelR.hit (.inr ⟨hne, h0, h1, h2, h3⟩) (show l.length - 1 < l.length by omega)
    rw [(h3 (l.length - 1) (by omega)).1, show g.lo + ((l.length - 1 : Nat) : Int) = g.hi by omega] at a b
    refine a_draw (.take 0 (.take 1 (.take 2 (.take 4 (.take 5 (.take 6 (.both [(3, .both [(7, .take 8 (.take 9 (.take 10 (.both [(11, .both [(12, .take 13 (.done))])]))))]), (7, .take 8 (.take 9 (.both [(3, .take 10 (.both [(11, .both [(12, .take 13 (.done))])]))])))]))))))) (by kernel_rfl) (by kernel_rfl) ?_
    simp (maxSteps := 2000000) (disch := omega) only [go_sem, true_and, and_true, Nat.reduceAdd, Nat.reduceSub, Nat.reduceMul, Nat.reduceBEq, Nat.reduceEqDiff, Nat.reduceLT, Nat.reduceLeDiff, Nat.reduceDiv, reduceIte, Nat.zero_add, Nat.add_zero, Int.toNat_natCast, Option.some.injEq, exists_eq_left', reduceCtorEq, Int.natCast_add, Int.natCast_mul, Int.cast_ofNat_Int, List.replicate_succ, List.replicate_zero, List.cons_append, List.nil_append, gd_eq]
    rw [a, b, show ((l.length : Int) - 1).toNat = l.length - 1 by omega]
    exact ⟨by omega, leCs_refl _, rfl⟩
end Go.Proofs.Ytfjcflmhboepmaa
