/- Chapter 4 in the logic: the reference's Decode. -/
import Derived.Test.YtfjcflmhboepmaaF4e
open Go Go.RowKit
namespace Go.Proofs.Ytfjcflmhboepmaa
set_option linter.unusedSimpArgs false
set_option linter.unusedVariables false
set_option maxHeartbeats 2000000 in
theorem rdecode_h (b : List UInt8) (hb : b.length ≤ 100000) : Holds Try.prog 33 [.byt b] [] (fun r h' => r = decV (.tag (.slot [42])) (dec b) ∧ h' = []) := by
  refine holds_of_awp Try.func33 rfl (by decide +kernel) mixed Try.ntmps33 Try.results33 ?_
  simp only [entrySt, List.map_cons, List.map_nil, List.length_cons, List.length_nil, Nat.reduceAdd, Nat.reduceSub, List.replicate_succ, List.replicate_zero, List.cons_append, List.nil_append]
  simp (maxSteps := 2000000) (disch := omega) only [go_sem, true_and, and_true, Nat.reduceAdd, Nat.reduceSub, Nat.reduceMul, Nat.reduceBEq, Nat.reduceEqDiff, Nat.reduceLT, Nat.reduceLeDiff, Nat.reduceDiv, reduceIte, Nat.zero_add, Nat.add_zero, Int.toNat_natCast, Option.some.injEq, exists_eq_left', reduceCtorEq, Int.natCast_add, Int.natCast_mul, Int.cast_ofNat_Int, List.replicate_succ, List.replicate_zero, List.cons_append, List.nil_append]
  refine c_dec (fun h => ?_) (fun h => ?_)
  · have e : dec b = .error 2 := by unfold dec; rw [if_pos (by omega)]
    rw [e]
    simp only [decV]
    simp (maxSteps := 2000000) (disch := omega) only [go_sem, true_and, and_true, Nat.reduceAdd, Nat.reduceSub, Nat.reduceMul, Nat.reduceBEq, Nat.reduceEqDiff, Nat.reduceLT, Nat.reduceLeDiff, Nat.reduceDiv, reduceIte, Nat.zero_add, Nat.add_zero, Int.toNat_natCast, Option.some.injEq, exists_eq_left', reduceCtorEq, Int.natCast_add, Int.natCast_mul, Int.cast_ofNat_Int, List.replicate_succ, List.replicate_zero, List.cons_append, List.nil_append]
  · have h8 : 8 ≤ b.length := by omega
    have l4 : (b.drop 4).length = b.length - 4 := by simp
    have k4 : (b.take 4).length = 4 := by simp; omega
    have hv := (rdn b 4).toNat_lt
    have hU : U32 (rdn b 4) = ((rdn b 4).toNat : Int) := rfl
    simp (maxSteps := 2000000) (disch := omega) only [go_sem, true_and, and_true, Nat.reduceAdd, Nat.reduceSub, Nat.reduceMul, Nat.reduceBEq, Nat.reduceEqDiff, Nat.reduceLT, Nat.reduceLeDiff, Nat.reduceDiv, reduceIte, Nat.zero_add, Nat.add_zero, Int.toNat_natCast, Option.some.injEq, exists_eq_left', reduceCtorEq, Int.natCast_add, Int.natCast_mul, Int.cast_ofNat_Int, List.replicate_succ, List.replicate_zero, List.cons_append, List.nil_append]
    refine a_draw (.take 0 (.take 1 (.take 3 (.take 4 (.both [(2, .both [(5, .take 6 (.done))])]))))) (by kernel_rfl) (by kernel_rfl) ?_
    simp (maxSteps := 2000000) (disch := omega) only [go_sem, true_and, and_true, Nat.reduceAdd, Nat.reduceSub, Nat.reduceMul, Nat.reduceBEq, Nat.reduceEqDiff, Nat.reduceLT, Nat.reduceLeDiff, Nat.reduceDiv, reduceIte, Nat.zero_add, Nat.add_zero, Int.toNat_natCast, Option.some.injEq, exists_eq_left', reduceCtorEq, Int.natCast_add, Int.natCast_mul, Int.cast_ofNat_Int, List.replicate_succ, List.replicate_zero, List.cons_append, List.nil_append]
    refine a_call [] (rfour4_h (b.drop 4) (by omega) (by omega)) ok0 ?_ ?_ ?_
    · simp (maxSteps := 2000000) (disch := omega) only [go_sem, true_and, and_true, Nat.reduceAdd, Nat.reduceSub, Nat.reduceMul, Nat.reduceBEq, Nat.reduceEqDiff, Nat.reduceLT, Nat.reduceLeDiff, Nat.reduceDiv, reduceIte, Nat.zero_add, Nat.add_zero, Int.toNat_natCast, Option.some.injEq, exists_eq_left', reduceCtorEq, Int.natCast_add, Int.natCast_mul, Int.cast_ofNat_Int, List.replicate_succ, List.replicate_zero, List.cons_append, List.nil_append]
    · simp (maxSteps := 2000000) (disch := omega) only [go_sem, true_and, and_true, Nat.reduceAdd, Nat.reduceSub, Nat.reduceMul, Nat.reduceBEq, Nat.reduceEqDiff, Nat.reduceLT, Nat.reduceLeDiff, Nat.reduceDiv, reduceIte, Nat.zero_add, Nat.add_zero, Int.toNat_natCast, Option.some.injEq, exists_eq_left', reduceCtorEq, Int.natCast_add, Int.natCast_mul, Int.cast_ofNat_Int, List.replicate_succ, List.replicate_zero, List.cons_append, List.nil_append]
    rintro _ _ ⟨rfl, rfl⟩
    simp (maxSteps := 2000000) (disch := omega) only [go_sem, true_and, and_true, Nat.reduceAdd, Nat.reduceSub, Nat.reduceMul, Nat.reduceBEq, Nat.reduceEqDiff, Nat.reduceLT, Nat.reduceLeDiff, Nat.reduceDiv, reduceIte, Nat.zero_add, Nat.add_zero, Int.toNat_natCast, Option.some.injEq, exists_eq_left', reduceCtorEq, Int.natCast_add, Int.natCast_mul, Int.cast_ofNat_Int, List.replicate_succ, List.replicate_zero, List.cons_append, List.nil_append]
    refine a_call [] (rsum_h (b.take 4) (by omega)) ok0 ?_ ?_ ?_
    · simp (maxSteps := 2000000) (disch := omega) only [go_sem, true_and, and_true, Nat.reduceAdd, Nat.reduceSub, Nat.reduceMul, Nat.reduceBEq, Nat.reduceEqDiff, Nat.reduceLT, Nat.reduceLeDiff, Nat.reduceDiv, reduceIte, Nat.zero_add, Nat.add_zero, Int.toNat_natCast, Option.some.injEq, exists_eq_left', reduceCtorEq, Int.natCast_add, Int.natCast_mul, Int.cast_ofNat_Int, List.replicate_succ, List.replicate_zero, List.cons_append, List.nil_append]
    · simp (maxSteps := 2000000) (disch := omega) only [go_sem, true_and, and_true, Nat.reduceAdd, Nat.reduceSub, Nat.reduceMul, Nat.reduceBEq, Nat.reduceEqDiff, Nat.reduceLT, Nat.reduceLeDiff, Nat.reduceDiv, reduceIte, Nat.zero_add, Nat.add_zero, Int.toNat_natCast, Option.some.injEq, exists_eq_left', reduceCtorEq, Int.natCast_add, Int.natCast_mul, Int.cast_ofNat_Int, List.replicate_succ, List.replicate_zero, List.cons_append, List.nil_append]
    rintro _ _ ⟨rfl, rfl⟩
    simp (maxSteps := 2000000) (disch := omega) only [go_sem, true_and, and_true, Nat.reduceAdd, Nat.reduceSub, Nat.reduceMul, Nat.reduceBEq, Nat.reduceEqDiff, Nat.reduceLT, Nat.reduceLeDiff, Nat.reduceDiv, reduceIte, Nat.zero_add, Nat.add_zero, Int.toNat_natCast, Option.some.injEq, exists_eq_left', reduceCtorEq, Int.natCast_add, Int.natCast_mul, Int.cast_ofNat_Int, List.replicate_succ, List.replicate_zero, List.cons_append, List.nil_append]
    refine c_dec (fun h4 => ?_) (fun h4 => ?_)
    · have h4' : ¬ rdn (b.drop 4) 4 = crc (b.take 4) := fun e => h4 (by rw [e])
      have e : dec b = .error 4 := by unfold dec; rw [if_neg (by omega), if_pos h4']
      rw [e]
      simp only [decV]
      simp (maxSteps := 2000000) (disch := omega) only [go_sem, true_and, and_true, Nat.reduceAdd, Nat.reduceSub, Nat.reduceMul, Nat.reduceBEq, Nat.reduceEqDiff, Nat.reduceLT, Nat.reduceLeDiff, Nat.reduceDiv, reduceIte, Nat.zero_add, Nat.add_zero, Int.toNat_natCast, Option.some.injEq, exists_eq_left', reduceCtorEq, Int.natCast_add, Int.natCast_mul, Int.cast_ofNat_Int, List.replicate_succ, List.replicate_zero, List.cons_append, List.nil_append]
    · have h4' : rdn (b.drop 4) 4 = crc (b.take 4) := U32_inj.1 (by simpa using h4)
      simp (maxSteps := 2000000) (disch := omega) only [go_sem, true_and, and_true, Nat.reduceAdd, Nat.reduceSub, Nat.reduceMul, Nat.reduceBEq, Nat.reduceEqDiff, Nat.reduceLT, Nat.reduceLeDiff, Nat.reduceDiv, reduceIte, Nat.zero_add, Nat.add_zero, Int.toNat_natCast, Option.some.injEq, exists_eq_left', reduceCtorEq, Int.natCast_add, Int.natCast_mul, Int.cast_ofNat_Int, List.replicate_succ, List.replicate_zero, List.cons_append, List.nil_append]
      refine a_call [] (rfour4_h b (by omega) (by omega)) ok0 ?_ ?_ ?_
      · simp (maxSteps := 2000000) (disch := omega) only [go_sem, true_and, and_true, Nat.reduceAdd, Nat.reduceSub, Nat.reduceMul, Nat.reduceBEq, Nat.reduceEqDiff, Nat.reduceLT, Nat.reduceLeDiff, Nat.reduceDiv, reduceIte, Nat.zero_add, Nat.add_zero, Int.toNat_natCast, Option.some.injEq, exists_eq_left', reduceCtorEq, Int.natCast_add, Int.natCast_mul, Int.cast_ofNat_Int, List.replicate_succ, List.replicate_zero, List.cons_append, List.nil_append]
      · simp (maxSteps := 2000000) (disch := omega) only [go_sem, true_and, and_true, Nat.reduceAdd, Nat.reduceSub, Nat.reduceMul, Nat.reduceBEq, Nat.reduceEqDiff, Nat.reduceLT, Nat.reduceLeDiff, Nat.reduceDiv, reduceIte, Nat.zero_add, Nat.add_zero, Int.toNat_natCast, Option.some.injEq, exists_eq_left', reduceCtorEq, Int.natCast_add, Int.natCast_mul, Int.cast_ofNat_Int, List.replicate_succ, List.replicate_zero, List.cons_append, List.nil_append]
      rintro _ _ ⟨rfl, rfl⟩
      simp (maxSteps := 2000000) (disch := omega) only [go_sem, true_and, and_true, Nat.reduceAdd, Nat.reduceSub, Nat.reduceMul, Nat.reduceBEq, Nat.reduceEqDiff, Nat.reduceLT, Nat.reduceLeDiff, Nat.reduceDiv, reduceIte, Nat.zero_add, Nat.add_zero, Int.toNat_natCast, Option.some.injEq, exists_eq_left', reduceCtorEq, Int.natCast_add, Int.natCast_mul, Int.cast_ofNat_Int, List.replicate_succ, List.replicate_zero, List.cons_append, List.nil_append]
      refine c_dec (fun h5 => ?_) (fun h5 => ?_)
      · have e : dec b = .error 5 := by unfold dec; rw [if_neg (by omega), if_neg (by simpa using h4'), if_pos (by omega)]
        rw [e]
        simp only [decV]
        simp (maxSteps := 2000000) (disch := omega) only [go_sem, true_and, and_true, Nat.reduceAdd, Nat.reduceSub, Nat.reduceMul, Nat.reduceBEq, Nat.reduceEqDiff, Nat.reduceLT, Nat.reduceLeDiff, Nat.reduceDiv, reduceIte, Nat.zero_add, Nat.add_zero, Int.toNat_natCast, Option.some.injEq, exists_eq_left', reduceCtorEq, Int.natCast_add, Int.natCast_mul, Int.cast_ofNat_Int, List.replicate_succ, List.replicate_zero, List.cons_append, List.nil_append]
      · obtain ⟨m, hm⟩ : ∃ m : Nat, (rdn b 4).toNat = m := ⟨_, rfl⟩
        have hUm : U32 (rdn b 4) = m := by rw [hU, hm]
        rw [hUm] at h5
        rw [hUm]
        simp (maxSteps := 2000000) (disch := omega) only [go_sem, true_and, and_true, Nat.reduceAdd, Nat.reduceSub, Nat.reduceMul, Nat.reduceBEq, Nat.reduceEqDiff, Nat.reduceLT, Nat.reduceLeDiff, Nat.reduceDiv, reduceIte, Nat.zero_add, Nat.add_zero, Int.toNat_natCast, Option.some.injEq, exists_eq_left', reduceCtorEq, Int.natCast_add, Int.natCast_mul, Int.cast_ofNat_Int, List.replicate_succ, List.replicate_zero, List.cons_append, List.nil_append]
        refine c_dec (fun h6 => ?_) (fun h6 => ?_)
        · have e : dec b = .error 2 := by unfold dec; rw [hm, if_neg (by omega), if_neg (by simpa using h4'), if_neg (by omega), if_pos (by omega)]
          rw [e]
          simp only [decV]
          simp (maxSteps := 2000000) (disch := omega) only [go_sem, true_and, and_true, Nat.reduceAdd, Nat.reduceSub, Nat.reduceMul, Nat.reduceBEq, Nat.reduceEqDiff, Nat.reduceLT, Nat.reduceLeDiff, Nat.reduceDiv, reduceIte, Nat.zero_add, Nat.add_zero, Int.toNat_natCast, Option.some.injEq, exists_eq_left', reduceCtorEq, Int.natCast_add, Int.natCast_mul, Int.cast_ofNat_Int, List.replicate_succ, List.replicate_zero, List.cons_append, List.nil_append]
        · have e8 : (8 + (m : Int)).toNat = 8 + m := by omega
          have lb : 12 + m ≤ b.length := by omega
          simp (maxSteps := 2000000) (disch := omega) only [go_sem, true_and, and_true, Nat.reduceAdd, Nat.reduceSub, Nat.reduceMul, Nat.reduceBEq, Nat.reduceEqDiff, Nat.reduceLT, Nat.reduceLeDiff, Nat.reduceDiv, reduceIte, Nat.zero_add, Nat.add_zero, Int.toNat_natCast, Option.some.injEq, exists_eq_left', reduceCtorEq, Int.natCast_add, Int.natCast_mul, Int.cast_ofNat_Int, List.replicate_succ, List.replicate_zero, List.cons_append, List.nil_append]
          refine a_draw (.take 0 (.take 1 (.take 2 (.take 3 (.take 5 (.take 6 (.take 7 (.take 8 (.both [(4, .both [(9, .take 10 (.done))])]))))))))) (by kernel_rfl) (by kernel_rfl) ?_
          simp (maxSteps := 2000000) (disch := omega) only [go_sem, true_and, and_true, Nat.reduceAdd, Nat.reduceSub, Nat.reduceMul, Nat.reduceBEq, Nat.reduceEqDiff, Nat.reduceLT, Nat.reduceLeDiff, Nat.reduceDiv, reduceIte, Nat.zero_add, Nat.add_zero, Int.toNat_natCast, Option.some.injEq, exists_eq_left', reduceCtorEq, Int.natCast_add, Int.natCast_mul, Int.cast_ofNat_Int, List.replicate_succ, List.replicate_zero, List.cons_append, List.nil_append]
          have d8 : (b.drop (8 + m)).length = b.length - (8 + m) := by simp
          have t8 : (b.take (8 + m)).length = 8 + m := by simp; omega
          rw [e8]
          refine a_call [] (rfour4_h (b.drop (8 + m)) (by omega) (by omega)) ok0 ?_ ?_ ?_
          · simp (maxSteps := 2000000) (disch := omega) only [go_sem, true_and, and_true, Nat.reduceAdd, Nat.reduceSub, Nat.reduceMul, Nat.reduceBEq, Nat.reduceEqDiff, Nat.reduceLT, Nat.reduceLeDiff, Nat.reduceDiv, reduceIte, Nat.zero_add, Nat.add_zero, Int.toNat_natCast, Option.some.injEq, exists_eq_left', reduceCtorEq, Int.natCast_add, Int.natCast_mul, Int.cast_ofNat_Int, List.replicate_succ, List.replicate_zero, List.cons_append, List.nil_append]
          · simp (maxSteps := 2000000) (disch := omega) only [go_sem, true_and, and_true, Nat.reduceAdd, Nat.reduceSub, Nat.reduceMul, Nat.reduceBEq, Nat.reduceEqDiff, Nat.reduceLT, Nat.reduceLeDiff, Nat.reduceDiv, reduceIte, Nat.zero_add, Nat.add_zero, Int.toNat_natCast, Option.some.injEq, exists_eq_left', reduceCtorEq, Int.natCast_add, Int.natCast_mul, Int.cast_ofNat_Int, List.replicate_succ, List.replicate_zero, List.cons_append, List.nil_append]
          rintro _ _ ⟨rfl, rfl⟩
          simp (maxSteps := 2000000) (disch := omega) only [go_sem, true_and, and_true, Nat.reduceAdd, Nat.reduceSub, Nat.reduceMul, Nat.reduceBEq, Nat.reduceEqDiff, Nat.reduceLT, Nat.reduceLeDiff, Nat.reduceDiv, reduceIte, Nat.zero_add, Nat.add_zero, Int.toNat_natCast, Option.some.injEq, exists_eq_left', reduceCtorEq, Int.natCast_add, Int.natCast_mul, Int.cast_ofNat_Int, List.replicate_succ, List.replicate_zero, List.cons_append, List.nil_append]
          refine a_call [] (rsum_h (b.take (8 + m)) (by omega)) ok0 ?_ ?_ ?_
          · simp (maxSteps := 2000000) (disch := omega) only [go_sem, true_and, and_true, Nat.reduceAdd, Nat.reduceSub, Nat.reduceMul, Nat.reduceBEq, Nat.reduceEqDiff, Nat.reduceLT, Nat.reduceLeDiff, Nat.reduceDiv, reduceIte, Nat.zero_add, Nat.add_zero, Int.toNat_natCast, Option.some.injEq, exists_eq_left', reduceCtorEq, Int.natCast_add, Int.natCast_mul, Int.cast_ofNat_Int, List.replicate_succ, List.replicate_zero, List.cons_append, List.nil_append]
          · simp (maxSteps := 2000000) (disch := omega) only [go_sem, true_and, and_true, Nat.reduceAdd, Nat.reduceSub, Nat.reduceMul, Nat.reduceBEq, Nat.reduceEqDiff, Nat.reduceLT, Nat.reduceLeDiff, Nat.reduceDiv, reduceIte, Nat.zero_add, Nat.add_zero, Int.toNat_natCast, Option.some.injEq, exists_eq_left', reduceCtorEq, Int.natCast_add, Int.natCast_mul, Int.cast_ofNat_Int, List.replicate_succ, List.replicate_zero, List.cons_append, List.nil_append]
          rintro _ _ ⟨rfl, rfl⟩
          simp (maxSteps := 2000000) (disch := omega) only [go_sem, true_and, and_true, Nat.reduceAdd, Nat.reduceSub, Nat.reduceMul, Nat.reduceBEq, Nat.reduceEqDiff, Nat.reduceLT, Nat.reduceLeDiff, Nat.reduceDiv, reduceIte, Nat.zero_add, Nat.add_zero, Int.toNat_natCast, Option.some.injEq, exists_eq_left', reduceCtorEq, Int.natCast_add, Int.natCast_mul, Int.cast_ofNat_Int, List.replicate_succ, List.replicate_zero, List.cons_append, List.nil_append]
          refine c_dec (fun h7 => ?_) (fun h7 => ?_)
          · have h7' : ¬ rdn (b.drop (8 + m)) 4 = crc (b.take (8 + m)) := fun e => h7 (by rw [e])
            have e : dec b = .error 4 := by unfold dec; rw [hm, if_neg (by omega), if_neg (by simpa using h4'), if_neg (by omega), if_neg (by omega), if_pos h7']
            rw [e]
            simp only [decV]
            simp (maxSteps := 2000000) (disch := omega) only [go_sem, true_and, and_true, Nat.reduceAdd, Nat.reduceSub, Nat.reduceMul, Nat.reduceBEq, Nat.reduceEqDiff, Nat.reduceLT, Nat.reduceLeDiff, Nat.reduceDiv, reduceIte, Nat.zero_add, Nat.add_zero, Int.toNat_natCast, Option.some.injEq, exists_eq_left', reduceCtorEq, Int.natCast_add, Int.natCast_mul, Int.cast_ofNat_Int, List.replicate_succ, List.replicate_zero, List.cons_append, List.nil_append]
          · have h7' : rdn (b.drop (8 + m)) 4 = crc (b.take (8 + m)) := U32_inj.1 (by simpa using h7)
            have e : dec b = .ok ((b.take (8 + m)).drop 8, 12 + m) := by unfold dec; rw [hm, if_neg (by omega), if_neg (by simpa using h4'), if_neg (by omega), if_neg (by omega), if_neg (by simpa using h7')]
            rw [e]
            simp only [decV]
            simp (maxSteps := 2000000) (disch := omega) only [go_sem, true_and, and_true, Nat.reduceAdd, Nat.reduceSub, Nat.reduceMul, Nat.reduceBEq, Nat.reduceEqDiff, Nat.reduceLT, Nat.reduceLeDiff, Nat.reduceDiv, reduceIte, Nat.zero_add, Nat.add_zero, Int.toNat_natCast, Option.some.injEq, exists_eq_left', reduceCtorEq, Int.natCast_add, Int.natCast_mul, Int.cast_ofNat_Int, List.replicate_succ, List.replicate_zero, List.cons_append, List.nil_append]
            rw [e8]
            exact ⟨by simp; omega, rfl⟩
end Go.Proofs.Ytfjcflmhboepmaa
