/- Chapter 17 in the logic: the known word; the words of the laws. -/
import Derived.Test.YtbkmmelhfkcmgaaF17f
open Go Go.RowKit
namespace Go.Proofs.Ytbkmmelhfkcmgaa
set_option linter.unusedSimpArgs false
set_option linter.unusedVariables false
theorem num_s (v : Int) (n : Nat) (h : (zz v).toNat = n) (hn : n < 128) : num (zz v) = [UInt8.ofNat n] := by
  rw [num_last (by omega)]
  congr 1
  rw [← UInt8.toNat_inj, c64to8_nat, h, UInt8.toNat_ofNat']
theorem tok_mac : tokM [107] 1 2 3 = (macS [107] [84, 2, 4, 6]).take 16 := by
  unfold tokM
  rw [numsL3, num_s 1 2 (by decide +kernel) (by omega), num_s 2 4 (by decide +kernel) (by omega), num_s 3 6 (by decide +kernel) (by omega)]
  rfl
theorem tok_ne : tokM [107] 1 2 3 ≠ zb 16 := by
  rw [tok_mac]
  decide +kernel
theorem txt0 : txtK (zb 16) 16 = [48, 48, 48, 48, 48, 48, 48, 48, 45, 48, 48, 48, 48, 48, 48, 48, 48, 45, 48, 48, 48, 48, 48, 48, 48, 48, 45, 48, 48, 48, 48, 48, 48, 48, 48] := by decide +kernel
theorem known_h17 : Holds Try.prog 12 [] [] (fun r h' => r = V.bool true ∧ h' = []) := by
  have z16 : (zb 16).length = 16 := rfl
  have e107 : [D.val (.int .u8 107)] = byt [107] := rfl
  have lt := tokM_len [107] 1 2 3
  have B : ∀ n : Int, -9223372036854775808 ≤ n → n ≤ 9223372036854775807 → B64 n := fun n a b => ⟨a, b⟩
  have m3 : List.take 16 (List.drop 0 (tokM [107] 1 2 3)) = tokM [107] 1 2 3 := by rw [List.drop_zero, List.take_of_length_le (by omega)]
  refine holds_of_awp Try.func12 rfl (by decide +kernel) mixed Try.ntmps12 Try.results12 ?_
  simp only [entrySt, List.map_cons, List.map_nil, List.length_cons, List.length_nil, Nat.reduceAdd, Nat.reduceSub, List.replicate_succ, List.replicate_zero, List.cons_append, List.nil_append]
  simp (maxSteps := 2000000) (disch := omega) only [go_sem, true_and, and_true, Nat.reduceAdd, Nat.reduceSub, Nat.reduceMul, Nat.reduceBEq, Nat.reduceEqDiff, Nat.reduceLT, Nat.reduceLeDiff, Nat.reduceDiv, reduceIte, Nat.zero_add, Nat.add_zero, Int.toNat_natCast, Option.some.injEq, exists_eq_left', reduceCtorEq, Int.natCast_add, Int.natCast_mul, Int.cast_ofNat_Int, List.replicate_succ, List.replicate_zero, List.cons_append, List.nil_append, e107]
  refine a_call [] (make_h [107] 1 2 3 (by simp) (B _ (by omega) (by omega)) (B _ (by omega) (by omega)) (B _ (by omega) (by omega))) ok0 ?_ ?_ ?_
  · (simp (maxSteps := 2000000) (disch := omega) only [go_sem, true_and, and_true, Nat.reduceAdd, Nat.reduceSub, Nat.reduceMul, Nat.reduceBEq, Nat.reduceEqDiff, Nat.reduceLT, Nat.reduceLeDiff, Nat.reduceDiv, reduceIte, Nat.zero_add, Nat.add_zero, Int.toNat_natCast, Option.some.injEq, exists_eq_left', reduceCtorEq, Int.natCast_add, Int.natCast_mul, Int.cast_ofNat_Int, List.replicate_succ, List.replicate_zero, List.cons_append, List.nil_append]; repeat (with_reducible refine a_apA ?_; simp (maxSteps := 2000000) (disch := omega) only [go_sem, true_and, and_true, Nat.reduceAdd, Nat.reduceSub, Nat.reduceMul, Nat.reduceBEq, Nat.reduceEqDiff, Nat.reduceLT, Nat.reduceLeDiff, Nat.reduceDiv, reduceIte, Nat.zero_add, Nat.add_zero, Int.toNat_natCast, Option.some.injEq, exists_eq_left', reduceCtorEq, Int.natCast_add, Int.natCast_mul, Int.cast_ofNat_Int, List.replicate_succ, List.replicate_zero, List.cons_append, List.nil_append]))
  · (simp (maxSteps := 2000000) (disch := omega) only [go_sem, true_and, and_true, Nat.reduceAdd, Nat.reduceSub, Nat.reduceMul, Nat.reduceBEq, Nat.reduceEqDiff, Nat.reduceLT, Nat.reduceLeDiff, Nat.reduceDiv, reduceIte, Nat.zero_add, Nat.add_zero, Int.toNat_natCast, Option.some.injEq, exists_eq_left', reduceCtorEq, Int.natCast_add, Int.natCast_mul, Int.cast_ofNat_Int, List.replicate_succ, List.replicate_zero, List.cons_append, List.nil_append]; repeat (with_reducible refine a_apA ?_; simp (maxSteps := 2000000) (disch := omega) only [go_sem, true_and, and_true, Nat.reduceAdd, Nat.reduceSub, Nat.reduceMul, Nat.reduceBEq, Nat.reduceEqDiff, Nat.reduceLT, Nat.reduceLeDiff, Nat.reduceDiv, reduceIte, Nat.zero_add, Nat.add_zero, Int.toNat_natCast, Option.some.injEq, exists_eq_left', reduceCtorEq, Int.natCast_add, Int.natCast_mul, Int.cast_ofNat_Int, List.replicate_succ, List.replicate_zero, List.cons_append, List.nil_append]))
  rintro _ _ ⟨rfl, rfl⟩
  simp (maxSteps := 2000000) (disch := omega) only [go_sem, true_and, and_true, Nat.reduceAdd, Nat.reduceSub, Nat.reduceMul, Nat.reduceBEq, Nat.reduceEqDiff, Nat.reduceLT, Nat.reduceLeDiff, Nat.reduceDiv, reduceIte, Nat.zero_add, Nat.add_zero, Int.toNat_natCast, Option.some.injEq, exists_eq_left', reduceCtorEq, Int.natCast_add, Int.natCast_mul, Int.cast_ofNat_Int, List.replicate_succ, List.replicate_zero, List.cons_append, List.nil_append, m3]
  refine ⟨by omega, by omega, ?_⟩
  refine a_call [] (text_h (zb 16) rfl) ok0 ?_ ?_ ?_
  · (simp (maxSteps := 2000000) (disch := omega) only [go_sem, true_and, and_true, Nat.reduceAdd, Nat.reduceSub, Nat.reduceMul, Nat.reduceBEq, Nat.reduceEqDiff, Nat.reduceLT, Nat.reduceLeDiff, Nat.reduceDiv, reduceIte, Nat.zero_add, Nat.add_zero, Int.toNat_natCast, Option.some.injEq, exists_eq_left', reduceCtorEq, Int.natCast_add, Int.natCast_mul, Int.cast_ofNat_Int, List.replicate_succ, List.replicate_zero, List.cons_append, List.nil_append]; repeat (with_reducible refine a_apA ?_; simp (maxSteps := 2000000) (disch := omega) only [go_sem, true_and, and_true, Nat.reduceAdd, Nat.reduceSub, Nat.reduceMul, Nat.reduceBEq, Nat.reduceEqDiff, Nat.reduceLT, Nat.reduceLeDiff, Nat.reduceDiv, reduceIte, Nat.zero_add, Nat.add_zero, Int.toNat_natCast, Option.some.injEq, exists_eq_left', reduceCtorEq, Int.natCast_add, Int.natCast_mul, Int.cast_ofNat_Int, List.replicate_succ, List.replicate_zero, List.cons_append, List.nil_append]))
  · (simp (maxSteps := 2000000) (disch := omega) only [go_sem, true_and, and_true, Nat.reduceAdd, Nat.reduceSub, Nat.reduceMul, Nat.reduceBEq, Nat.reduceEqDiff, Nat.reduceLT, Nat.reduceLeDiff, Nat.reduceDiv, reduceIte, Nat.zero_add, Nat.add_zero, Int.toNat_natCast, Option.some.injEq, exists_eq_left', reduceCtorEq, Int.natCast_add, Int.natCast_mul, Int.cast_ofNat_Int, List.replicate_succ, List.replicate_zero, List.cons_append, List.nil_append]; repeat (with_reducible refine a_apA ?_; simp (maxSteps := 2000000) (disch := omega) only [go_sem, true_and, and_true, Nat.reduceAdd, Nat.reduceSub, Nat.reduceMul, Nat.reduceBEq, Nat.reduceEqDiff, Nat.reduceLT, Nat.reduceLeDiff, Nat.reduceDiv, reduceIte, Nat.zero_add, Nat.add_zero, Int.toNat_natCast, Option.some.injEq, exists_eq_left', reduceCtorEq, Int.natCast_add, Int.natCast_mul, Int.cast_ofNat_Int, List.replicate_succ, List.replicate_zero, List.cons_append, List.nil_append]))
  rintro _ _ ⟨rfl, rfl⟩
  rw [txt0]
  simp (maxSteps := 2000000) (disch := omega) only [go_sem, true_and, and_true, Nat.reduceAdd, Nat.reduceSub, Nat.reduceMul, Nat.reduceBEq, Nat.reduceEqDiff, Nat.reduceLT, Nat.reduceLeDiff, Nat.reduceDiv, reduceIte, Nat.zero_add, Nat.add_zero, Int.toNat_natCast, Option.some.injEq, exists_eq_left', reduceCtorEq, Int.natCast_add, Int.natCast_mul, Int.cast_ofNat_Int, List.replicate_succ, List.replicate_zero, List.cons_append, List.nil_append, decide_true, e107, m3]
  refine ⟨by omega, ?_⟩
  refine a_call [] (check_h [107] (tokM [107] 1 2 3) 1 2 3 (by simp) lt (B _ (by omega) (by omega)) (B _ (by omega) (by omega)) (B _ (by omega) (by omega))) ok0 ?_ ?_ ?_
  · (simp (maxSteps := 2000000) (disch := omega) only [go_sem, true_and, and_true, Nat.reduceAdd, Nat.reduceSub, Nat.reduceMul, Nat.reduceBEq, Nat.reduceEqDiff, Nat.reduceLT, Nat.reduceLeDiff, Nat.reduceDiv, reduceIte, Nat.zero_add, Nat.add_zero, Int.toNat_natCast, Option.some.injEq, exists_eq_left', reduceCtorEq, Int.natCast_add, Int.natCast_mul, Int.cast_ofNat_Int, List.replicate_succ, List.replicate_zero, List.cons_append, List.nil_append]; repeat (with_reducible refine a_apA ?_; simp (maxSteps := 2000000) (disch := omega) only [go_sem, true_and, and_true, Nat.reduceAdd, Nat.reduceSub, Nat.reduceMul, Nat.reduceBEq, Nat.reduceEqDiff, Nat.reduceLT, Nat.reduceLeDiff, Nat.reduceDiv, reduceIte, Nat.zero_add, Nat.add_zero, Int.toNat_natCast, Option.some.injEq, exists_eq_left', reduceCtorEq, Int.natCast_add, Int.natCast_mul, Int.cast_ofNat_Int, List.replicate_succ, List.replicate_zero, List.cons_append, List.nil_append]))
  · (simp (maxSteps := 2000000) (disch := omega) only [go_sem, true_and, and_true, Nat.reduceAdd, Nat.reduceSub, Nat.reduceMul, Nat.reduceBEq, Nat.reduceEqDiff, Nat.reduceLT, Nat.reduceLeDiff, Nat.reduceDiv, reduceIte, Nat.zero_add, Nat.add_zero, Int.toNat_natCast, Option.some.injEq, exists_eq_left', reduceCtorEq, Int.natCast_add, Int.natCast_mul, Int.cast_ofNat_Int, List.replicate_succ, List.replicate_zero, List.cons_append, List.nil_append]; repeat (with_reducible refine a_apA ?_; simp (maxSteps := 2000000) (disch := omega) only [go_sem, true_and, and_true, Nat.reduceAdd, Nat.reduceSub, Nat.reduceMul, Nat.reduceBEq, Nat.reduceEqDiff, Nat.reduceLT, Nat.reduceLeDiff, Nat.reduceDiv, reduceIte, Nat.zero_add, Nat.add_zero, Int.toNat_natCast, Option.some.injEq, exists_eq_left', reduceCtorEq, Int.natCast_add, Int.natCast_mul, Int.cast_ofNat_Int, List.replicate_succ, List.replicate_zero, List.cons_append, List.nil_append]))
  rintro _ _ ⟨rfl, rfl⟩
  rw [if_pos rfl]
  have dn : decide (tokM [107] 1 2 3 = zb 16) = false := decide_eq_false tok_ne
  simp (maxSteps := 2000000) (disch := omega) only [go_sem, true_and, and_true, Nat.reduceAdd, Nat.reduceSub, Nat.reduceMul, Nat.reduceBEq, Nat.reduceEqDiff, Nat.reduceLT, Nat.reduceLeDiff, Nat.reduceDiv, reduceIte, Nat.zero_add, Nat.add_zero, Int.toNat_natCast, Option.some.injEq, exists_eq_left', reduceCtorEq, Int.natCast_add, Int.natCast_mul, Int.cast_ofNat_Int, List.replicate_succ, List.replicate_zero, List.cons_append, List.nil_append, decide_true, m3, dn]
  try omega
end Go.Proofs.Ytbkmmelhfkcmgaa
