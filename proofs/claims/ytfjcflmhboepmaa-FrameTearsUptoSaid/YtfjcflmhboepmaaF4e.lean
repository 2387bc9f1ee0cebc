/- Chapter 4 in the logic: what a record holds. -/
import Derived.Test.YtfjcflmhboepmaaF4m
open Go Go.RowKit
namespace Go.Proofs.Ytfjcflmhboepmaa
set_option linter.unusedSimpArgs false
set_option linter.unusedVariables false
theorem c_ndec {P : Program} {Q : AExit → St → Prop} {s : St} {p : Prop} [Decidable p] {a b : Code} (h1 : ¬ p → awp P a Q s) (h2 : p → awp P b Q s) : aCondC P (V.bool !decide p) a b Q s := ⟨fun h => h1 (by simpa using h), fun h => h2 (by simpa using h)⟩
theorem rdn_take {p : List UInt8} {n : Nat} (h : 4 ≤ n) : rdn (p.take n) 4 = rdn p 4 := by
  rw [rdn4, rdn4, getD_take (by omega), getD_take (by omega), getD_take (by omega), getD_take (by omega)]
/-- what bytes begin with: the payload and how long the record is, or why there is none -/
def dec (b : List UInt8) : Except Nat (List UInt8 × Nat) :=
  if b.length < 8 then .error 2
  else if ¬ rdn (b.drop 4) 4 = crc (b.take 4) then .error 4
  else if 65536 < (rdn b 4).toNat then .error 5
  else if b.length < 12 + (rdn b 4).toNat then .error 2
  else if ¬ rdn (b.drop (8 + (rdn b 4).toNat)) 4 = crc (b.take (8 + (rdn b 4).toNat)) then .error 4
  else .ok ((b.take (8 + (rdn b 4).toNat)).drop 8, 12 + (rdn b 4).toNat)
def decV (k : Own) : Except Nat (List UInt8 × Nat) → V
  | .error e => .tup [.c (.lst k none 1 (byt [])), .int .i64 0, .int .i64 e]
  | .ok (p, n) => .tup [.c (.lst k none 1 (byt p)), .int .i64 n, .int .i64 0]
set_option maxHeartbeats 2000000 in
theorem decode_h (b : List UInt8) (hb : b.length ≤ 100000) : Holds Try.prog 31 [.byt b] [] (fun r h' => r = decV (.tag (.slot [50, 0, 7])) (dec b) ∧ h' = []) := by
  refine holds_of_awp Try.func31 rfl (by decide +kernel) mixed Try.ntmps31 Try.results31 ?_
  simp only [entrySt, List.map_cons, List.map_nil, List.length_cons, List.length_nil, Nat.reduceAdd, Nat.reduceSub, List.replicate_succ, List.replicate_zero, List.cons_append, List.nil_append]
  simp (maxSteps := 2000000) (disch := omega) only [go_sem, true_and, and_true, Nat.reduceAdd, Nat.reduceSub, Nat.reduceMul, Nat.reduceBEq, Nat.reduceEqDiff, Nat.reduceLT, Nat.reduceLeDiff, Nat.reduceDiv, reduceIte, Nat.zero_add, Nat.add_zero, Int.toNat_natCast, Option.some.injEq, exists_eq_left', reduceCtorEq, Int.natCast_add, Int.natCast_mul, Int.cast_ofNat_Int, List.replicate_succ, List.replicate_zero, List.cons_append, List.nil_append]
  refine c_dec (fun h => ?_) (fun h => ?_)
  · have e : dec b = .error 2 := by unfold dec; rw [if_pos (by omega)]
    rw [e]
    simp only [decV]
    simp (maxSteps := 2000000) (disch := omega) only [go_sem, true_and, and_true, Nat.reduceAdd, Nat.reduceSub, Nat.reduceMul, Nat.reduceBEq, Nat.reduceEqDiff, Nat.reduceLT, Nat.reduceLeDiff, Nat.reduceDiv, reduceIte, Nat.zero_add, Nat.add_zero, Int.toNat_natCast, Option.some.injEq, exists_eq_left', reduceCtorEq, Int.natCast_add, Int.natCast_mul, Int.cast_ofNat_Int, List.replicate_succ, List.replicate_zero, List.cons_append, List.nil_append]
  · have h8 : 8 ≤ b.length := by omega
    have l8 : (b.take 8).length = 8 := by simp; omega
    simp (maxSteps := 2000000) (disch := omega) only [go_sem, true_and, and_true, Nat.reduceAdd, Nat.reduceSub, Nat.reduceMul, Nat.reduceBEq, Nat.reduceEqDiff, Nat.reduceLT, Nat.reduceLeDiff, Nat.reduceDiv, reduceIte, Nat.zero_add, Nat.add_zero, Int.toNat_natCast, Option.some.injEq, exists_eq_left', reduceCtorEq, Int.natCast_add, Int.natCast_mul, Int.cast_ofNat_Int, List.replicate_succ, List.replicate_zero, List.cons_append, List.nil_append]
    refine a_call [] (newReader_h (b.take 8) (by omega)) ok0 ?_ ?_ ?_
    · simp (maxSteps := 2000000) (disch := omega) only [go_sem, true_and, and_true, Nat.reduceAdd, Nat.reduceSub, Nat.reduceMul, Nat.reduceBEq, Nat.reduceEqDiff, Nat.reduceLT, Nat.reduceLeDiff, Nat.reduceDiv, reduceIte, Nat.zero_add, Nat.add_zero, Int.toNat_natCast, Option.some.injEq, exists_eq_left', reduceCtorEq, Int.natCast_add, Int.natCast_mul, Int.cast_ofNat_Int, List.replicate_succ, List.replicate_zero, List.cons_append, List.nil_append]
    · simp (maxSteps := 2000000) (disch := omega) only [go_sem, true_and, and_true, Nat.reduceAdd, Nat.reduceSub, Nat.reduceMul, Nat.reduceBEq, Nat.reduceEqDiff, Nat.reduceLT, Nat.reduceLeDiff, Nat.reduceDiv, reduceIte, Nat.zero_add, Nat.add_zero, Int.toNat_natCast, Option.some.injEq, exists_eq_left', reduceCtorEq, Int.natCast_add, Int.natCast_mul, Int.cast_ofNat_Int, List.replicate_succ, List.replicate_zero, List.cons_append, List.nil_append]
    rintro _ _ ⟨rfl, rfl⟩
    simp (maxSteps := 2000000) (disch := omega) only [go_sem, true_and, and_true, Nat.reduceAdd, Nat.reduceSub, Nat.reduceMul, Nat.reduceBEq, Nat.reduceEqDiff, Nat.reduceLT, Nat.reduceLeDiff, Nat.reduceDiv, reduceIte, Nat.zero_add, Nat.add_zero, Int.toNat_natCast, Option.some.injEq, exists_eq_left', reduceCtorEq, Int.natCast_add, Int.natCast_mul, Int.cast_ofNat_Int, List.replicate_succ, List.replicate_zero, List.cons_append, List.nil_append]
    refine a_call [.loc [12, 0, 6]] (four_h (b.take 8) (by omega) (by omega)) (ok1 rfl) ?_ ?_ ?_
    · simp (maxSteps := 2000000) (disch := omega) only [go_sem, true_and, and_true, Nat.reduceAdd, Nat.reduceSub, Nat.reduceMul, Nat.reduceBEq, Nat.reduceEqDiff, Nat.reduceLT, Nat.reduceLeDiff, Nat.reduceDiv, reduceIte, Nat.zero_add, Nat.add_zero, Int.toNat_natCast, Option.some.injEq, exists_eq_left', reduceCtorEq, Int.natCast_add, Int.natCast_mul, Int.cast_ofNat_Int, List.replicate_succ, List.replicate_zero, List.cons_append, List.nil_append]
    · simp (maxSteps := 2000000) (disch := omega) only [go_sem, true_and, and_true, Nat.reduceAdd, Nat.reduceSub, Nat.reduceMul, Nat.reduceBEq, Nat.reduceEqDiff, Nat.reduceLT, Nat.reduceLeDiff, Nat.reduceDiv, reduceIte, Nat.zero_add, Nat.add_zero, Int.toNat_natCast, Option.some.injEq, exists_eq_left', reduceCtorEq, Int.natCast_add, Int.natCast_mul, Int.cast_ofNat_Int, List.replicate_succ, List.replicate_zero, List.cons_append, List.nil_append]
    rintro _ _ ⟨rfl, rfl⟩
    simp (maxSteps := 2000000) (disch := omega) only [go_sem, true_and, and_true, Nat.reduceAdd, Nat.reduceSub, Nat.reduceMul, Nat.reduceBEq, Nat.reduceEqDiff, Nat.reduceLT, Nat.reduceLeDiff, Nat.reduceDiv, reduceIte, Nat.zero_add, Nat.add_zero, Int.toNat_natCast, Option.some.injEq, exists_eq_left', reduceCtorEq, Int.natCast_add, Int.natCast_mul, Int.cast_ofNat_Int, List.replicate_succ, List.replicate_zero, List.cons_append, List.nil_append]
    rw [rdn_take (by omega)]
    have hv := (rdn b 4).toNat_lt
    refine a_draw (.take 0 (.take 1 (.take 2 (.both [(3, .both [(4, .take 5 (.take 6 (.done)))])])))) (by kernel_rfl) (by kernel_rfl) ?_
    simp (maxSteps := 2000000) (disch := omega) only [go_sem, true_and, and_true, Nat.reduceAdd, Nat.reduceSub, Nat.reduceMul, Nat.reduceBEq, Nat.reduceEqDiff, Nat.reduceLT, Nat.reduceLeDiff, Nat.reduceDiv, reduceIte, Nat.zero_add, Nat.add_zero, Int.toNat_natCast, Option.some.injEq, exists_eq_left', reduceCtorEq, Int.natCast_add, Int.natCast_mul, Int.cast_ofNat_Int, List.replicate_succ, List.replicate_zero, List.cons_append, List.nil_append]
    refine a_call [] (headOf_h (rdn b 4).toNat (by omega)) ok0 ?_ ?_ ?_
    · simp (maxSteps := 2000000) (disch := omega) only [go_sem, true_and, and_true, Nat.reduceAdd, Nat.reduceSub, Nat.reduceMul, Nat.reduceBEq, Nat.reduceEqDiff, Nat.reduceLT, Nat.reduceLeDiff, Nat.reduceDiv, reduceIte, Nat.zero_add, Nat.add_zero, Int.toNat_natCast, Option.some.injEq, exists_eq_left', reduceCtorEq, Int.natCast_add, Int.natCast_mul, Int.cast_ofNat_Int, List.replicate_succ, List.replicate_zero, List.cons_append, List.nil_append]
    · simp (maxSteps := 2000000) (disch := omega) only [go_sem, true_and, and_true, Nat.reduceAdd, Nat.reduceSub, Nat.reduceMul, Nat.reduceBEq, Nat.reduceEqDiff, Nat.reduceLT, Nat.reduceLeDiff, Nat.reduceDiv, reduceIte, Nat.zero_add, Nat.add_zero, Int.toNat_natCast, Option.some.injEq, exists_eq_left', reduceCtorEq, Int.natCast_add, Int.natCast_mul, Int.cast_ofNat_Int, List.replicate_succ, List.replicate_zero, List.cons_append, List.nil_append]
    rintro _ _ ⟨rfl, rfl⟩
    simp (maxSteps := 2000000) (disch := omega) only [go_sem, true_and, and_true, Nat.reduceAdd, Nat.reduceSub, Nat.reduceMul, Nat.reduceBEq, Nat.reduceEqDiff, Nat.reduceLT, Nat.reduceLeDiff, Nat.reduceDiv, reduceIte, Nat.zero_add, Nat.add_zero, Int.toNat_natCast, Option.some.injEq, exists_eq_left', reduceCtorEq, Int.natCast_add, Int.natCast_mul, Int.cast_ofNat_Int, List.replicate_succ, List.replicate_zero, List.cons_append, List.nil_append]
    refine a_call [] (equal_h (b.take 8) (head (rdn b 4).toNat)) ok0 ?_ ?_ ?_
    · simp (maxSteps := 2000000) (disch := omega) only [go_sem, true_and, and_true, Nat.reduceAdd, Nat.reduceSub, Nat.reduceMul, Nat.reduceBEq, Nat.reduceEqDiff, Nat.reduceLT, Nat.reduceLeDiff, Nat.reduceDiv, reduceIte, Nat.zero_add, Nat.add_zero, Int.toNat_natCast, Option.some.injEq, exists_eq_left', reduceCtorEq, Int.natCast_add, Int.natCast_mul, Int.cast_ofNat_Int, List.replicate_succ, List.replicate_zero, List.cons_append, List.nil_append]
    · simp (maxSteps := 2000000) (disch := omega) only [go_sem, true_and, and_true, Nat.reduceAdd, Nat.reduceSub, Nat.reduceMul, Nat.reduceBEq, Nat.reduceEqDiff, Nat.reduceLT, Nat.reduceLeDiff, Nat.reduceDiv, reduceIte, Nat.zero_add, Nat.add_zero, Int.toNat_natCast, Option.some.injEq, exists_eq_left', reduceCtorEq, Int.natCast_add, Int.natCast_mul, Int.cast_ofNat_Int, List.replicate_succ, List.replicate_zero, List.cons_append, List.nil_append]
    rintro _ _ ⟨rfl, rfl⟩
    simp (maxSteps := 2000000) (disch := omega) only [go_sem, true_and, and_true, Nat.reduceAdd, Nat.reduceSub, Nat.reduceMul, Nat.reduceBEq, Nat.reduceEqDiff, Nat.reduceLT, Nat.reduceLeDiff, Nat.reduceDiv, reduceIte, Nat.zero_add, Nat.add_zero, Int.toNat_natCast, Option.some.injEq, exists_eq_left', reduceCtorEq, Int.natCast_add, Int.natCast_mul, Int.cast_ofNat_Int, List.replicate_succ, List.replicate_zero, List.cons_append, List.nil_append]
    have hU : U32 (rdn b 4) = ((rdn b 4).toNat : Int) := rfl
    refine c_ndec (fun h4 => ?_) (fun h4 => ?_)
    · rw [head_iff h8] at h4
      have e : dec b = .error 4 := by unfold dec; rw [if_neg (by omega), if_pos h4]
      rw [e]
      simp only [decV]
      simp (maxSteps := 2000000) (disch := omega) only [go_sem, true_and, and_true, Nat.reduceAdd, Nat.reduceSub, Nat.reduceMul, Nat.reduceBEq, Nat.reduceEqDiff, Nat.reduceLT, Nat.reduceLeDiff, Nat.reduceDiv, reduceIte, Nat.zero_add, Nat.add_zero, Int.toNat_natCast, Option.some.injEq, exists_eq_left', reduceCtorEq, Int.natCast_add, Int.natCast_mul, Int.cast_ofNat_Int, List.replicate_succ, List.replicate_zero, List.cons_append, List.nil_append]
    · rw [head_iff h8] at h4
      simp (maxSteps := 2000000) (disch := omega) only [go_sem, true_and, and_true, Nat.reduceAdd, Nat.reduceSub, Nat.reduceMul, Nat.reduceBEq, Nat.reduceEqDiff, Nat.reduceLT, Nat.reduceLeDiff, Nat.reduceDiv, reduceIte, Nat.zero_add, Nat.add_zero, Int.toNat_natCast, Option.some.injEq, exists_eq_left', reduceCtorEq, Int.natCast_add, Int.natCast_mul, Int.cast_ofNat_Int, List.replicate_succ, List.replicate_zero, List.cons_append, List.nil_append]
      refine c_dec (fun h5 => ?_) (fun h5 => ?_)
      · have e : dec b = .error 5 := by unfold dec; rw [if_neg (by omega), if_neg (by simpa using h4), if_pos (by omega)]
        rw [e]
        simp only [decV]
        simp (maxSteps := 2000000) (disch := omega) only [go_sem, true_and, and_true, Nat.reduceAdd, Nat.reduceSub, Nat.reduceMul, Nat.reduceBEq, Nat.reduceEqDiff, Nat.reduceLT, Nat.reduceLeDiff, Nat.reduceDiv, reduceIte, Nat.zero_add, Nat.add_zero, Int.toNat_natCast, Option.some.injEq, exists_eq_left', reduceCtorEq, Int.natCast_add, Int.natCast_mul, Int.cast_ofNat_Int, List.replicate_succ, List.replicate_zero, List.cons_append, List.nil_append]
      · simp (maxSteps := 2000000) (disch := omega) only [go_sem, true_and, and_true, Nat.reduceAdd, Nat.reduceSub, Nat.reduceMul, Nat.reduceBEq, Nat.reduceEqDiff, Nat.reduceLT, Nat.reduceLeDiff, Nat.reduceDiv, reduceIte, Nat.zero_add, Nat.add_zero, Int.toNat_natCast, Option.some.injEq, exists_eq_left', reduceCtorEq, Int.natCast_add, Int.natCast_mul, Int.cast_ofNat_Int, List.replicate_succ, List.replicate_zero, List.cons_append, List.nil_append]
        refine c_dec (fun h6 => ?_) (fun h6 => ?_)
        · have e : dec b = .error 2 := by unfold dec; rw [if_neg (by omega), if_neg (by simpa using h4), if_neg (by omega), if_pos (by omega)]
          rw [e]
          simp only [decV]
          simp (maxSteps := 2000000) (disch := omega) only [go_sem, true_and, and_true, Nat.reduceAdd, Nat.reduceSub, Nat.reduceMul, Nat.reduceBEq, Nat.reduceEqDiff, Nat.reduceLT, Nat.reduceLeDiff, Nat.reduceDiv, reduceIte, Nat.zero_add, Nat.add_zero, Int.toNat_natCast, Option.some.injEq, exists_eq_left', reduceCtorEq, Int.natCast_add, Int.natCast_mul, Int.cast_ofNat_Int, List.replicate_succ, List.replicate_zero, List.cons_append, List.nil_append]
        · obtain ⟨m, hm⟩ : ∃ m : Nat, (rdn b 4).toNat = m := ⟨_, rfl⟩
          have hUm : U32 (rdn b 4) = m := by rw [hU, hm]
          rw [hUm] at h5 h6
          rw [hUm]
          have e8 : (8 + (m : Int)).toNat = 8 + m := by omega
          have l8m : (b.take (8 + (m : Int)).toNat).length = 8 + m := by rw [e8]; simp; omega
          have lb : 12 + m ≤ b.length := by omega
          simp (maxSteps := 2000000) (disch := omega) only [go_sem, true_and, and_true, Nat.reduceAdd, Nat.reduceSub, Nat.reduceMul, Nat.reduceBEq, Nat.reduceEqDiff, Nat.reduceLT, Nat.reduceLeDiff, Nat.reduceDiv, reduceIte, Nat.zero_add, Nat.add_zero, Int.toNat_natCast, Option.some.injEq, exists_eq_left', reduceCtorEq, Int.natCast_add, Int.natCast_mul, Int.cast_ofNat_Int, List.replicate_succ, List.replicate_zero, List.cons_append, List.nil_append]
          rw [l8m]
          simp (maxSteps := 2000000) (disch := omega) only [go_sem, true_and, and_true, Nat.reduceAdd, Nat.reduceSub, Nat.reduceMul, Nat.reduceBEq, Nat.reduceEqDiff, Nat.reduceLT, Nat.reduceLeDiff, Nat.reduceDiv, reduceIte, Nat.zero_add, Nat.add_zero, Int.toNat_natCast, Option.some.injEq, exists_eq_left', reduceCtorEq, Int.natCast_add, Int.natCast_mul, Int.cast_ofNat_Int, List.replicate_succ, List.replicate_zero, List.cons_append, List.nil_append]
          have ht : (8 + (m : Int) + 4).toNat = 12 + m := by omega
          rw [ht]
          have lq : ((b.take (12 + m)).drop (8 + m)).length = 4 := by simp; omega
          have hq : rdn ((b.take (12 + m)).drop (8 + m)) 4 = rdn (b.drop (8 + m)) 4 := by
            rw [List.drop_take]; exact rdn_take (by omega)
          refine a_call [] (newReader_h ((b.take (12 + m)).drop (8 + m)) (by omega)) ok0 ?_ ?_ ?_
          · simp (maxSteps := 2000000) (disch := omega) only [go_sem, true_and, and_true, Nat.reduceAdd, Nat.reduceSub, Nat.reduceMul, Nat.reduceBEq, Nat.reduceEqDiff, Nat.reduceLT, Nat.reduceLeDiff, Nat.reduceDiv, reduceIte, Nat.zero_add, Nat.add_zero, Int.toNat_natCast, Option.some.injEq, exists_eq_left', reduceCtorEq, Int.natCast_add, Int.natCast_mul, Int.cast_ofNat_Int, List.replicate_succ, List.replicate_zero, List.cons_append, List.nil_append]
          · simp (maxSteps := 2000000) (disch := omega) only [go_sem, true_and, and_true, Nat.reduceAdd, Nat.reduceSub, Nat.reduceMul, Nat.reduceBEq, Nat.reduceEqDiff, Nat.reduceLT, Nat.reduceLeDiff, Nat.reduceDiv, reduceIte, Nat.zero_add, Nat.add_zero, Int.toNat_natCast, Option.some.injEq, exists_eq_left', reduceCtorEq, Int.natCast_add, Int.natCast_mul, Int.cast_ofNat_Int, List.replicate_succ, List.replicate_zero, List.cons_append, List.nil_append]
          rintro _ _ ⟨rfl, rfl⟩
          simp (maxSteps := 2000000) (disch := omega) only [go_sem, true_and, and_true, Nat.reduceAdd, Nat.reduceSub, Nat.reduceMul, Nat.reduceBEq, Nat.reduceEqDiff, Nat.reduceLT, Nat.reduceLeDiff, Nat.reduceDiv, reduceIte, Nat.zero_add, Nat.add_zero, Int.toNat_natCast, Option.some.injEq, exists_eq_left', reduceCtorEq, Int.natCast_add, Int.natCast_mul, Int.cast_ofNat_Int, List.replicate_succ, List.replicate_zero, List.cons_append, List.nil_append]
          refine a_call [.loc [43, 0, 6]] (four_h ((b.take (12 + m)).drop (8 + m)) (by omega) (by omega)) (ok1 rfl) ?_ ?_ ?_
          · simp (maxSteps := 2000000) (disch := omega) only [go_sem, true_and, and_true, Nat.reduceAdd, Nat.reduceSub, Nat.reduceMul, Nat.reduceBEq, Nat.reduceEqDiff, Nat.reduceLT, Nat.reduceLeDiff, Nat.reduceDiv, reduceIte, Nat.zero_add, Nat.add_zero, Int.toNat_natCast, Option.some.injEq, exists_eq_left', reduceCtorEq, Int.natCast_add, Int.natCast_mul, Int.cast_ofNat_Int, List.replicate_succ, List.replicate_zero, List.cons_append, List.nil_append]
          · simp (maxSteps := 2000000) (disch := omega) only [go_sem, true_and, and_true, Nat.reduceAdd, Nat.reduceSub, Nat.reduceMul, Nat.reduceBEq, Nat.reduceEqDiff, Nat.reduceLT, Nat.reduceLeDiff, Nat.reduceDiv, reduceIte, Nat.zero_add, Nat.add_zero, Int.toNat_natCast, Option.some.injEq, exists_eq_left', reduceCtorEq, Int.natCast_add, Int.natCast_mul, Int.cast_ofNat_Int, List.replicate_succ, List.replicate_zero, List.cons_append, List.nil_append]
          rintro _ _ ⟨rfl, rfl⟩
          simp (maxSteps := 2000000) (disch := omega) only [go_sem, true_and, and_true, Nat.reduceAdd, Nat.reduceSub, Nat.reduceMul, Nat.reduceBEq, Nat.reduceEqDiff, Nat.reduceLT, Nat.reduceLeDiff, Nat.reduceDiv, reduceIte, Nat.zero_add, Nat.add_zero, Int.toNat_natCast, Option.some.injEq, exists_eq_left', reduceCtorEq, Int.natCast_add, Int.natCast_mul, Int.cast_ofNat_Int, List.replicate_succ, List.replicate_zero, List.cons_append, List.nil_append]
          rw [e8] at l8m
          rw [e8, hq]
          refine a_call [] (osum_h (b.take (8 + m)) (by omega)) ok0 ?_ ?_ ?_
          · simp (maxSteps := 2000000) (disch := omega) only [go_sem, true_and, and_true, Nat.reduceAdd, Nat.reduceSub, Nat.reduceMul, Nat.reduceBEq, Nat.reduceEqDiff, Nat.reduceLT, Nat.reduceLeDiff, Nat.reduceDiv, reduceIte, Nat.zero_add, Nat.add_zero, Int.toNat_natCast, Option.some.injEq, exists_eq_left', reduceCtorEq, Int.natCast_add, Int.natCast_mul, Int.cast_ofNat_Int, List.replicate_succ, List.replicate_zero, List.cons_append, List.nil_append]
          · simp (maxSteps := 2000000) (disch := omega) only [go_sem, true_and, and_true, Nat.reduceAdd, Nat.reduceSub, Nat.reduceMul, Nat.reduceBEq, Nat.reduceEqDiff, Nat.reduceLT, Nat.reduceLeDiff, Nat.reduceDiv, reduceIte, Nat.zero_add, Nat.add_zero, Int.toNat_natCast, Option.some.injEq, exists_eq_left', reduceCtorEq, Int.natCast_add, Int.natCast_mul, Int.cast_ofNat_Int, List.replicate_succ, List.replicate_zero, List.cons_append, List.nil_append]
          rintro _ _ ⟨rfl, rfl⟩
          simp (maxSteps := 2000000) (disch := omega) only [go_sem, true_and, and_true, Nat.reduceAdd, Nat.reduceSub, Nat.reduceMul, Nat.reduceBEq, Nat.reduceEqDiff, Nat.reduceLT, Nat.reduceLeDiff, Nat.reduceDiv, reduceIte, Nat.zero_add, Nat.add_zero, Int.toNat_natCast, Option.some.injEq, exists_eq_left', reduceCtorEq, Int.natCast_add, Int.natCast_mul, Int.cast_ofNat_Int, List.replicate_succ, List.replicate_zero, List.cons_append, List.nil_append]
          refine c_dec (fun h7 => ?_) (fun h7 => ?_)
          · have h7' : ¬ rdn (b.drop (8 + m)) 4 = crc (b.take (8 + m)) := fun e => h7 (by rw [e])
            have e : dec b = .error 4 := by unfold dec; rw [hm, if_neg (by omega), if_neg (by simpa using h4), if_neg (by omega), if_neg (by omega), if_pos h7']
            rw [e]
            simp only [decV]
            simp (maxSteps := 2000000) (disch := omega) only [go_sem, true_and, and_true, Nat.reduceAdd, Nat.reduceSub, Nat.reduceMul, Nat.reduceBEq, Nat.reduceEqDiff, Nat.reduceLT, Nat.reduceLeDiff, Nat.reduceDiv, reduceIte, Nat.zero_add, Nat.add_zero, Int.toNat_natCast, Option.some.injEq, exists_eq_left', reduceCtorEq, Int.natCast_add, Int.natCast_mul, Int.cast_ofNat_Int, List.replicate_succ, List.replicate_zero, List.cons_append, List.nil_append]
          · have h7' : rdn (b.drop (8 + m)) 4 = crc (b.take (8 + m)) := U32_inj.1 (by simpa using h7)
            have e : dec b = .ok ((b.take (8 + m)).drop 8, 12 + m) := by unfold dec; rw [hm, if_neg (by omega), if_neg (by simpa using h4), if_neg (by omega), if_neg (by omega), if_neg (by simpa using h7')]
            rw [e]
            simp only [decV]
            simp (maxSteps := 2000000) (disch := omega) only [go_sem, true_and, and_true, Nat.reduceAdd, Nat.reduceSub, Nat.reduceMul, Nat.reduceBEq, Nat.reduceEqDiff, Nat.reduceLT, Nat.reduceLeDiff, Nat.reduceDiv, reduceIte, Nat.zero_add, Nat.add_zero, Int.toNat_natCast, Option.some.injEq, exists_eq_left', reduceCtorEq, Int.natCast_add, Int.natCast_mul, Int.cast_ofNat_Int, List.replicate_succ, List.replicate_zero, List.cons_append, List.nil_append]
            refine a_call [] (clone_h ((b.take (8 + m)).drop 8) (by simp; omega)) ok0 ?_ ?_ ?_
            · simp (maxSteps := 2000000) (disch := omega) only [go_sem, true_and, and_true, Nat.reduceAdd, Nat.reduceSub, Nat.reduceMul, Nat.reduceBEq, Nat.reduceEqDiff, Nat.reduceLT, Nat.reduceLeDiff, Nat.reduceDiv, reduceIte, Nat.zero_add, Nat.add_zero, Int.toNat_natCast, Option.some.injEq, exists_eq_left', reduceCtorEq, Int.natCast_add, Int.natCast_mul, Int.cast_ofNat_Int, List.replicate_succ, List.replicate_zero, List.cons_append, List.nil_append]
            · simp (maxSteps := 2000000) (disch := omega) only [go_sem, true_and, and_true, Nat.reduceAdd, Nat.reduceSub, Nat.reduceMul, Nat.reduceBEq, Nat.reduceEqDiff, Nat.reduceLT, Nat.reduceLeDiff, Nat.reduceDiv, reduceIte, Nat.zero_add, Nat.add_zero, Int.toNat_natCast, Option.some.injEq, exists_eq_left', reduceCtorEq, Int.natCast_add, Int.natCast_mul, Int.cast_ofNat_Int, List.replicate_succ, List.replicate_zero, List.cons_append, List.nil_append]
            rintro _ _ ⟨rfl, rfl⟩
            simp (maxSteps := 2000000) (disch := omega) only [go_sem, true_and, and_true, Nat.reduceAdd, Nat.reduceSub, Nat.reduceMul, Nat.reduceBEq, Nat.reduceEqDiff, Nat.reduceLT, Nat.reduceLeDiff, Nat.reduceDiv, reduceIte, Nat.zero_add, Nat.add_zero, Int.toNat_natCast, Option.some.injEq, exists_eq_left', reduceCtorEq, Int.natCast_add, Int.natCast_mul, Int.cast_ofNat_Int, List.replicate_succ, List.replicate_zero, List.cons_append, List.nil_append]
            rw [l8m]
            exact congrArg (Value.int IntKind.i64) (by omega)
end Go.Proofs.Ytfjcflmhboepmaa
