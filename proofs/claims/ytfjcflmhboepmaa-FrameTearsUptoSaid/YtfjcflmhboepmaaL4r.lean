/- The law FrameRows in the logic. -/
import Derived.Test.YtfjcflmhboepmaaF4t
open Go Go.RowKit
namespace Go.Proofs.Ytfjcflmhboepmaa
set_option linter.unusedSimpArgs false
set_option linter.unusedVariables false
attribute [go_sem] Bool.not_true Bool.not_false
theorem recs_take {l : List (List UInt8)} {k : Nat} (h : k < l.length) : recs (l.take k) ++ record (l.getD k []) = recs (l.take (k + 1)) := by
  rw [List.take_succ_eq_append_getElem h, recs_snoc]; simp [List.getD, h]
theorem take_all {α : Type} {l : List α} {k : Nat} {d : α} {J : α → Prop} (h : k < l.length) (h1 : ∀ p ∈ l.take k, J p) (h2 : J (l.getD k d)) : ∀ p ∈ l.take (k + 1), J p := by
  rw [List.take_succ_eq_append_getElem h]
  intro p hp
  rw [List.mem_append] at hp
  rcases hp with hp | hp
  · exact h1 p hp
  · simp at hp; subst hp; simpa [List.getD, h] using h2
set_option maxHeartbeats 2000000 in
theorem frameRows_h (l : List (List UInt8)) (junk : List UInt8) (hl : l.length ≤ 9223372036854775807) (hj : junk.length ≤ 9223372036854775807) (hs : ∀ p ∈ l, p.length ≤ 9223372036854775807) : Holds Try.prog 11 [.rws l, .byt junk] [] (fun r h' => r = V.bool true ∧ h' = []) := by
  refine holds_of_awp Try.func11 rfl (by decide +kernel) mixed Try.ntmps11 Try.results11 ?_
  simp only [entrySt, List.map_cons, List.map_nil, List.length_cons, List.length_nil, Nat.reduceAdd, Nat.reduceSub, List.replicate_succ, List.replicate_zero, List.cons_append, List.nil_append]
  simp (maxSteps := 2000000) (disch := omega) only [go_sem, true_and, and_true, Nat.reduceAdd, Nat.reduceSub, Nat.reduceMul, Nat.reduceBEq, Nat.reduceEqDiff, Nat.reduceLT, Nat.reduceLeDiff, Nat.reduceDiv, reduceIte, Nat.zero_add, Nat.add_zero, Int.toNat_natCast, Option.some.injEq, exists_eq_left', reduceCtorEq, Int.natCast_add, Int.natCast_mul, Int.cast_ofNat_Int, List.replicate_succ, List.replicate_zero, List.cons_append, List.nil_append]
  refine a_loopk (fun k : Nat => ⟨[.w (.rws l), .w (.byt junk), .undef, .undef, .undef, V.own [37] (recs (l.take k)), V.int .i64 k, .undef, .undef, .undef, .undef, .undef, .undef, .undef, .undef, .undef, .undef, .undef, .undef, .undef, .undef, .undef, .undef, .undef, .undef, .undef, .undef, .undef, .undef, .undef, .undef, .undef, .undef, .undef, .undef, .undef, .undef, .undef, .undef, .undef, .undef, .undef, .undef, .undef, .undef, .undef, .undef, .undef, .undef, .undef, .undef, .undef, .undef, .undef, .undef, .undef, .undef, .undef, .undef, .undef, .undef, .undef, .undef, .undef, .undef, .undef, .undef, .undef, .undef, .undef, .undef, .undef, .undef, .undef, .undef, .undef, .undef, .undef, .undef, .undef, .undef, .undef, .undef, .undef, .undef, .undef, .undef, .undef, .undef], []⟩)
    (fun k => k ≤ l.length ∧ (recs (l.take k)).length ≤ 4000 ∧ ∀ p ∈ l.take k, p.length ≤ 4000) (l.length - ·) 0 ⟨by omega, by simp [recs], by simp⟩ (by simp (maxSteps := 2000000) (disch := omega) only [go_sem, true_and, and_true, Nat.reduceAdd, Nat.reduceSub, Nat.reduceMul, Nat.reduceBEq, Nat.reduceEqDiff, Nat.reduceLT, Nat.reduceLeDiff, Nat.reduceDiv, reduceIte, Nat.zero_add, Nat.add_zero, Int.toNat_natCast, Option.some.injEq, exists_eq_left', reduceCtorEq, Int.natCast_add, Int.natCast_mul, Int.cast_ofNat_Int, List.replicate_succ, List.replicate_zero, List.cons_append, List.nil_append]; rfl) ?_
  rintro k ⟨h1, h2, h3⟩
  simp (maxSteps := 2000000) (disch := omega) only [go_sem, true_and, and_true, Nat.reduceAdd, Nat.reduceSub, Nat.reduceMul, Nat.reduceBEq, Nat.reduceEqDiff, Nat.reduceLT, Nat.reduceLeDiff, Nat.reduceDiv, reduceIte, Nat.zero_add, Nat.add_zero, Int.toNat_natCast, Option.some.injEq, exists_eq_left', reduceCtorEq, Int.natCast_add, Int.natCast_mul, Int.cast_ofNat_Int, List.replicate_succ, List.replicate_zero, List.cons_append, List.nil_append]
  refine c_dec (fun h => ?_) (fun h => ?_)
  · have hk : k < l.length := by omega
    have hm := hs _ (getD_mem (d := []) hk)
    simp (maxSteps := 2000000) (disch := omega) only [go_sem, true_and, and_true, Nat.reduceAdd, Nat.reduceSub, Nat.reduceMul, Nat.reduceBEq, Nat.reduceEqDiff, Nat.reduceLT, Nat.reduceLeDiff, Nat.reduceDiv, reduceIte, Nat.zero_add, Nat.add_zero, Int.toNat_natCast, Option.some.injEq, exists_eq_left', reduceCtorEq, Int.natCast_add, Int.natCast_mul, Int.cast_ofNat_Int, List.replicate_succ, List.replicate_zero, List.cons_append, List.nil_append]
    refine c_dec (fun h4 => ?_) (fun h4 => ?_)
    · simp (maxSteps := 2000000) (disch := omega) only [go_sem, true_and, and_true, Nat.reduceAdd, Nat.reduceSub, Nat.reduceMul, Nat.reduceBEq, Nat.reduceEqDiff, Nat.reduceLT, Nat.reduceLeDiff, Nat.reduceDiv, reduceIte, Nat.zero_add, Nat.add_zero, Int.toNat_natCast, Option.some.injEq, exists_eq_left', reduceCtorEq, Int.natCast_add, Int.natCast_mul, Int.cast_ofNat_Int, List.replicate_succ, List.replicate_zero, List.cons_append, List.nil_append]
    · simp (maxSteps := 2000000) (disch := omega) only [go_sem, true_and, and_true, Nat.reduceAdd, Nat.reduceSub, Nat.reduceMul, Nat.reduceBEq, Nat.reduceEqDiff, Nat.reduceLT, Nat.reduceLeDiff, Nat.reduceDiv, reduceIte, Nat.zero_add, Nat.add_zero, Int.toNat_natCast, Option.some.injEq, exists_eq_left', reduceCtorEq, Int.natCast_add, Int.natCast_mul, Int.cast_ofNat_Int, List.replicate_succ, List.replicate_zero, List.cons_append, List.nil_append]
      refine a_call [] (encode_h (l.getD k []) (by omega)) ok0 ?_ ?_ ?_
      · simp (maxSteps := 2000000) (disch := omega) only [go_sem, true_and, and_true, Nat.reduceAdd, Nat.reduceSub, Nat.reduceMul, Nat.reduceBEq, Nat.reduceEqDiff, Nat.reduceLT, Nat.reduceLeDiff, Nat.reduceDiv, reduceIte, Nat.zero_add, Nat.add_zero, Int.toNat_natCast, Option.some.injEq, exists_eq_left', reduceCtorEq, Int.natCast_add, Int.natCast_mul, Int.cast_ofNat_Int, List.replicate_succ, List.replicate_zero, List.cons_append, List.nil_append]
      · simp (maxSteps := 2000000) (disch := omega) only [go_sem, true_and, and_true, Nat.reduceAdd, Nat.reduceSub, Nat.reduceMul, Nat.reduceBEq, Nat.reduceEqDiff, Nat.reduceLT, Nat.reduceLeDiff, Nat.reduceDiv, reduceIte, Nat.zero_add, Nat.add_zero, Int.toNat_natCast, Option.some.injEq, exists_eq_left', reduceCtorEq, Int.natCast_add, Int.natCast_mul, Int.cast_ofNat_Int, List.replicate_succ, List.replicate_zero, List.cons_append, List.nil_append]
      rintro _ _ ⟨rfl, rfl⟩
      simp (maxSteps := 2000000) (disch := omega) only [go_sem, true_and, and_true, Nat.reduceAdd, Nat.reduceSub, Nat.reduceMul, Nat.reduceBEq, Nat.reduceEqDiff, Nat.reduceLT, Nat.reduceLeDiff, Nat.reduceDiv, reduceIte, Nat.zero_add, Nat.add_zero, Int.toNat_natCast, Option.some.injEq, exists_eq_left', reduceCtorEq, Int.natCast_add, Int.natCast_mul, Int.cast_ofNat_Int, List.replicate_succ, List.replicate_zero, List.cons_append, List.nil_append]
      have e1 := recs_take hk
      have lr := record_len (l.getD k [])
      rw [e1]
      refine ⟨by omega, ?_⟩
      refine c_dec (fun h5 => ?_) (fun h5 => ?_)
      · simp (maxSteps := 2000000) (disch := omega) only [go_sem, true_and, and_true, Nat.reduceAdd, Nat.reduceSub, Nat.reduceMul, Nat.reduceBEq, Nat.reduceEqDiff, Nat.reduceLT, Nat.reduceLeDiff, Nat.reduceDiv, reduceIte, Nat.zero_add, Nat.add_zero, Int.toNat_natCast, Option.some.injEq, exists_eq_left', reduceCtorEq, Int.natCast_add, Int.natCast_mul, Int.cast_ofNat_Int, List.replicate_succ, List.replicate_zero, List.cons_append, List.nil_append]
      · simp (maxSteps := 2000000) (disch := omega) only [go_sem, true_and, and_true, Nat.reduceAdd, Nat.reduceSub, Nat.reduceMul, Nat.reduceBEq, Nat.reduceEqDiff, Nat.reduceLT, Nat.reduceLeDiff, Nat.reduceDiv, reduceIte, Nat.zero_add, Nat.add_zero, Int.toNat_natCast, Option.some.injEq, exists_eq_left', reduceCtorEq, Int.natCast_add, Int.natCast_mul, Int.cast_ofNat_Int, List.replicate_succ, List.replicate_zero, List.cons_append, List.nil_append]
        refine ⟨k + 1, by omega, ⟨by omega, by omega, take_all (d := []) hk h3 (by omega)⟩, ?_⟩
        simp (maxSteps := 2000000) (disch := omega) only [go_sem, true_and, and_true, Nat.reduceAdd, Nat.reduceSub, Nat.reduceMul, Nat.reduceBEq, Nat.reduceEqDiff, Nat.reduceLT, Nat.reduceLeDiff, Nat.reduceDiv, reduceIte, Nat.zero_add, Nat.add_zero, Int.toNat_natCast, Option.some.injEq, exists_eq_left', reduceCtorEq, Int.natCast_add, Int.natCast_mul, Int.cast_ofNat_Int, List.replicate_succ, List.replicate_zero, List.cons_append, List.nil_append]
  · have hk : k = l.length := by omega
    subst hk
    rw [List.take_length] at h2 h3
    rw [List.take_length]
    have s1 : scan (recs l) = (l, (recs l).length) := by
      have := scan_recs l [] (fun p hp => by have := h3 p hp; omega)
      simpa [scan_nil] using this
    have s2 := scan_recs l junk (fun p hp => by have := h3 p hp; omega)
    have l2 := recs_len l
    simp (maxSteps := 2000000) (disch := omega) only [go_sem, true_and, and_true, Nat.reduceAdd, Nat.reduceSub, Nat.reduceMul, Nat.reduceBEq, Nat.reduceEqDiff, Nat.reduceLT, Nat.reduceLeDiff, Nat.reduceDiv, reduceIte, Nat.zero_add, Nat.add_zero, Int.toNat_natCast, Option.some.injEq, exists_eq_left', reduceCtorEq, Int.natCast_add, Int.natCast_mul, Int.cast_ofNat_Int, List.replicate_succ, List.replicate_zero, List.cons_append, List.nil_append]
    refine c_dec (fun h4 => ?_) (fun h4 => ?_)
    · simp (maxSteps := 2000000) (disch := omega) only [go_sem, true_and, and_true, Nat.reduceAdd, Nat.reduceSub, Nat.reduceMul, Nat.reduceBEq, Nat.reduceEqDiff, Nat.reduceLT, Nat.reduceLeDiff, Nat.reduceDiv, reduceIte, Nat.zero_add, Nat.add_zero, Int.toNat_natCast, Option.some.injEq, exists_eq_left', reduceCtorEq, Int.natCast_add, Int.natCast_mul, Int.cast_ofNat_Int, List.replicate_succ, List.replicate_zero, List.cons_append, List.nil_append]
    · simp (maxSteps := 2000000) (disch := omega) only [go_sem, true_and, and_true, Nat.reduceAdd, Nat.reduceSub, Nat.reduceMul, Nat.reduceBEq, Nat.reduceEqDiff, Nat.reduceLT, Nat.reduceLeDiff, Nat.reduceDiv, reduceIte, Nat.zero_add, Nat.add_zero, Int.toNat_natCast, Option.some.injEq, exists_eq_left', reduceCtorEq, Int.natCast_add, Int.natCast_mul, Int.cast_ofNat_Int, List.replicate_succ, List.replicate_zero, List.cons_append, List.nil_append]
      refine a_call [] (scan_h (recs l) (by omega)) ok0 ?_ ?_ ?_
      · simp (maxSteps := 2000000) (disch := omega) only [go_sem, true_and, and_true, Nat.reduceAdd, Nat.reduceSub, Nat.reduceMul, Nat.reduceBEq, Nat.reduceEqDiff, Nat.reduceLT, Nat.reduceLeDiff, Nat.reduceDiv, reduceIte, Nat.zero_add, Nat.add_zero, Int.toNat_natCast, Option.some.injEq, exists_eq_left', reduceCtorEq, Int.natCast_add, Int.natCast_mul, Int.cast_ofNat_Int, List.replicate_succ, List.replicate_zero, List.cons_append, List.nil_append]
      · simp (maxSteps := 2000000) (disch := omega) only [go_sem, true_and, and_true, Nat.reduceAdd, Nat.reduceSub, Nat.reduceMul, Nat.reduceBEq, Nat.reduceEqDiff, Nat.reduceLT, Nat.reduceLeDiff, Nat.reduceDiv, reduceIte, Nat.zero_add, Nat.add_zero, Int.toNat_natCast, Option.some.injEq, exists_eq_left', reduceCtorEq, Int.natCast_add, Int.natCast_mul, Int.cast_ofNat_Int, List.replicate_succ, List.replicate_zero, List.cons_append, List.nil_append]
      rintro _ _ ⟨rfl, rfl⟩
      rw [s1]
      simp (maxSteps := 2000000) (disch := omega) only [go_sem, true_and, and_true, Nat.reduceAdd, Nat.reduceSub, Nat.reduceMul, Nat.reduceBEq, Nat.reduceEqDiff, Nat.reduceLT, Nat.reduceLeDiff, Nat.reduceDiv, reduceIte, Nat.zero_add, Nat.add_zero, Int.toNat_natCast, Option.some.injEq, exists_eq_left', reduceCtorEq, Int.natCast_add, Int.natCast_mul, Int.cast_ofNat_Int, List.replicate_succ, List.replicate_zero, List.cons_append, List.nil_append]
      refine a_call [] (rows_h l l (by omega) (by omega) (fun p hp => by have := h3 p hp; omega) (fun p hp => by have := h3 p hp; omega)) ok0 ?_ ?_ ?_
      · simp (maxSteps := 2000000) (disch := omega) only [go_sem, true_and, and_true, Nat.reduceAdd, Nat.reduceSub, Nat.reduceMul, Nat.reduceBEq, Nat.reduceEqDiff, Nat.reduceLT, Nat.reduceLeDiff, Nat.reduceDiv, reduceIte, Nat.zero_add, Nat.add_zero, Int.toNat_natCast, Option.some.injEq, exists_eq_left', reduceCtorEq, Int.natCast_add, Int.natCast_mul, Int.cast_ofNat_Int, List.replicate_succ, List.replicate_zero, List.cons_append, List.nil_append]
      · simp (maxSteps := 2000000) (disch := omega) only [go_sem, true_and, and_true, Nat.reduceAdd, Nat.reduceSub, Nat.reduceMul, Nat.reduceBEq, Nat.reduceEqDiff, Nat.reduceLT, Nat.reduceLeDiff, Nat.reduceDiv, reduceIte, Nat.zero_add, Nat.add_zero, Int.toNat_natCast, Option.some.injEq, exists_eq_left', reduceCtorEq, Int.natCast_add, Int.natCast_mul, Int.cast_ofNat_Int, List.replicate_succ, List.replicate_zero, List.cons_append, List.nil_append]
      rintro _ _ ⟨rfl, rfl⟩
      simp (maxSteps := 2000000) (disch := omega) only [go_sem, true_and, and_true, Nat.reduceAdd, Nat.reduceSub, Nat.reduceMul, Nat.reduceBEq, Nat.reduceEqDiff, Nat.reduceLT, Nat.reduceLeDiff, Nat.reduceDiv, reduceIte, Nat.zero_add, Nat.add_zero, Int.toNat_natCast, Option.some.injEq, exists_eq_left', reduceCtorEq, Int.natCast_add, Int.natCast_mul, Int.cast_ofNat_Int, List.replicate_succ, List.replicate_zero, List.cons_append, List.nil_append]
      refine ⟨by omega, by omega, ?_⟩
      have lj : (recs l ++ junk).length = (recs l).length + junk.length := by simp
      refine a_call [] (scan_h (recs l ++ junk) (by omega)) ok0 ?_ ?_ ?_
      · simp (maxSteps := 2000000) (disch := omega) only [go_sem, true_and, and_true, Nat.reduceAdd, Nat.reduceSub, Nat.reduceMul, Nat.reduceBEq, Nat.reduceEqDiff, Nat.reduceLT, Nat.reduceLeDiff, Nat.reduceDiv, reduceIte, Nat.zero_add, Nat.add_zero, Int.toNat_natCast, Option.some.injEq, exists_eq_left', reduceCtorEq, Int.natCast_add, Int.natCast_mul, Int.cast_ofNat_Int, List.replicate_succ, List.replicate_zero, List.cons_append, List.nil_append]
      · simp (maxSteps := 2000000) (disch := omega) only [go_sem, true_and, and_true, Nat.reduceAdd, Nat.reduceSub, Nat.reduceMul, Nat.reduceBEq, Nat.reduceEqDiff, Nat.reduceLT, Nat.reduceLeDiff, Nat.reduceDiv, reduceIte, Nat.zero_add, Nat.add_zero, Int.toNat_natCast, Option.some.injEq, exists_eq_left', reduceCtorEq, Int.natCast_add, Int.natCast_mul, Int.cast_ofNat_Int, List.replicate_succ, List.replicate_zero, List.cons_append, List.nil_append]
      rintro _ _ ⟨rfl, rfl⟩
      rw [s2]
      simp (maxSteps := 2000000) (disch := omega) only [go_sem, true_and, and_true, Nat.reduceAdd, Nat.reduceSub, Nat.reduceMul, Nat.reduceBEq, Nat.reduceEqDiff, Nat.reduceLT, Nat.reduceLeDiff, Nat.reduceDiv, reduceIte, Nat.zero_add, Nat.add_zero, Int.toNat_natCast, Option.some.injEq, exists_eq_left', reduceCtorEq, Int.natCast_add, Int.natCast_mul, Int.cast_ofNat_Int, List.replicate_succ, List.replicate_zero, List.cons_append, List.nil_append]
      have g1 : decide (((recs l).length : Int) ≤ ((recs l).length : Int) + ((scan junk).2 : Int)) = true := decide_eq_true (by omega)
      simp only [g1]
      simp (maxSteps := 2000000) (disch := omega) only [go_sem, true_and, and_true, Nat.reduceAdd, Nat.reduceSub, Nat.reduceMul, Nat.reduceBEq, Nat.reduceEqDiff, Nat.reduceLT, Nat.reduceLeDiff, Nat.reduceDiv, reduceIte, Nat.zero_add, Nat.add_zero, Int.toNat_natCast, Option.some.injEq, exists_eq_left', reduceCtorEq, Int.natCast_add, Int.natCast_mul, Int.cast_ofNat_Int, List.replicate_succ, List.replicate_zero, List.cons_append, List.nil_append]
      have g2 : decide ((l.length : Int) ≤ ((l ++ (scan junk).1).length : Int)) = true := decide_eq_true (by simp; omega)
      simp only [g2]
      simp (maxSteps := 2000000) (disch := omega) only [go_sem, true_and, and_true, Nat.reduceAdd, Nat.reduceSub, Nat.reduceMul, Nat.reduceBEq, Nat.reduceEqDiff, Nat.reduceLT, Nat.reduceLeDiff, Nat.reduceDiv, reduceIte, Nat.zero_add, Nat.add_zero, Int.toNat_natCast, Option.some.injEq, exists_eq_left', reduceCtorEq, Int.natCast_add, Int.natCast_mul, Int.cast_ofNat_Int, List.replicate_succ, List.replicate_zero, List.cons_append, List.nil_append]
      have l3 : l.length ≤ (l ++ (scan junk).1).length := by simp
      try simp (maxSteps := 2000000) (disch := omega) only [go_sem, true_and, and_true, Nat.reduceAdd, Nat.reduceSub, Nat.reduceMul, Nat.reduceBEq, Nat.reduceEqDiff, Nat.reduceLT, Nat.reduceLeDiff, Nat.reduceDiv, reduceIte, Nat.zero_add, Nat.add_zero, Int.toNat_natCast, Option.some.injEq, exists_eq_left', reduceCtorEq, Int.natCast_add, Int.natCast_mul, Int.cast_ofNat_Int, List.replicate_succ, List.replicate_zero, List.cons_append, List.nil_append]
      have e3 : (l ++ (scan junk).1).take l.length = l := by simp
      rw [e3]
      refine a_call [] (rows_h l l (by omega) (by omega) (fun p hp => by have := h3 p hp; omega) (fun p hp => by have := h3 p hp; omega)) ok0 ?_ ?_ ?_
      · simp (maxSteps := 2000000) (disch := omega) only [go_sem, true_and, and_true, Nat.reduceAdd, Nat.reduceSub, Nat.reduceMul, Nat.reduceBEq, Nat.reduceEqDiff, Nat.reduceLT, Nat.reduceLeDiff, Nat.reduceDiv, reduceIte, Nat.zero_add, Nat.add_zero, Int.toNat_natCast, Option.some.injEq, exists_eq_left', reduceCtorEq, Int.natCast_add, Int.natCast_mul, Int.cast_ofNat_Int, List.replicate_succ, List.replicate_zero, List.cons_append, List.nil_append]
      · simp (maxSteps := 2000000) (disch := omega) only [go_sem, true_and, and_true, Nat.reduceAdd, Nat.reduceSub, Nat.reduceMul, Nat.reduceBEq, Nat.reduceEqDiff, Nat.reduceLT, Nat.reduceLeDiff, Nat.reduceDiv, reduceIte, Nat.zero_add, Nat.add_zero, Int.toNat_natCast, Option.some.injEq, exists_eq_left', reduceCtorEq, Int.natCast_add, Int.natCast_mul, Int.cast_ofNat_Int, List.replicate_succ, List.replicate_zero, List.cons_append, List.nil_append]
      rintro _ _ ⟨rfl, rfl⟩
      simp (maxSteps := 2000000) (disch := omega) only [go_sem, true_and, and_true, Nat.reduceAdd, Nat.reduceSub, Nat.reduceMul, Nat.reduceBEq, Nat.reduceEqDiff, Nat.reduceLT, Nat.reduceLeDiff, Nat.reduceDiv, reduceIte, Nat.zero_add, Nat.add_zero, Int.toNat_natCast, Option.some.injEq, exists_eq_left', reduceCtorEq, Int.natCast_add, Int.natCast_mul, Int.cast_ofNat_Int, List.replicate_succ, List.replicate_zero, List.cons_append, List.nil_append]
      refine a_call [] (known_h) ok0 ?_ ?_ ?_
      · simp (maxSteps := 2000000) (disch := omega) only [go_sem, true_and, and_true, Nat.reduceAdd, Nat.reduceSub, Nat.reduceMul, Nat.reduceBEq, Nat.reduceEqDiff, Nat.reduceLT, Nat.reduceLeDiff, Nat.reduceDiv, reduceIte, Nat.zero_add, Nat.add_zero, Int.toNat_natCast, Option.some.injEq, exists_eq_left', reduceCtorEq, Int.natCast_add, Int.natCast_mul, Int.cast_ofNat_Int, List.replicate_succ, List.replicate_zero, List.cons_append, List.nil_append]
      · simp (maxSteps := 2000000) (disch := omega) only [go_sem, true_and, and_true, Nat.reduceAdd, Nat.reduceSub, Nat.reduceMul, Nat.reduceBEq, Nat.reduceEqDiff, Nat.reduceLT, Nat.reduceLeDiff, Nat.reduceDiv, reduceIte, Nat.zero_add, Nat.add_zero, Int.toNat_natCast, Option.some.injEq, exists_eq_left', reduceCtorEq, Int.natCast_add, Int.natCast_mul, Int.cast_ofNat_Int, List.replicate_succ, List.replicate_zero, List.cons_append, List.nil_append]
      rintro _ _ ⟨rfl, rfl⟩
      simp (maxSteps := 2000000) (disch := omega) only [go_sem, true_and, and_true, Nat.reduceAdd, Nat.reduceSub, Nat.reduceMul, Nat.reduceBEq, Nat.reduceEqDiff, Nat.reduceLT, Nat.reduceLeDiff, Nat.reduceDiv, reduceIte, Nat.zero_add, Nat.add_zero, Int.toNat_natCast, Option.some.injEq, exists_eq_left', reduceCtorEq, Int.natCast_add, Int.natCast_mul, Int.cast_ofNat_Int, List.replicate_succ, List.replicate_zero, List.cons_append, List.nil_append]
end Go.Proofs.Ytfjcflmhboepmaa
