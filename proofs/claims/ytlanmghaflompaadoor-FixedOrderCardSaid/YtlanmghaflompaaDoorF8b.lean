/- Chapter 8 in the logic: roots. -/
import Derived.Test.YtlanmghaflompaaDoorF8a
open Go Go.RowKit
namespace Go.Proofs.YtlanmghaflompaaDoor
set_option linter.unusedSimpArgs false
set_option linter.unusedVariables false
/-- the root's digits, from above: so many of them -/
def rt (v : Nat) : Nat → Nat
  | 0 => 0
  | j + 1 => if (rt v j + 2 ^ (24 - j)) * (rt v j + 2 ^ (24 - j)) ≤ v then rt v j + 2 ^ (24 - j) else rt v j
theorem rt_mod (v : Nat) : ∀ {j : Nat}, j ≤ 25 → 2 ^ (25 - j) ∣ rt v j
  | 0, _ => by simp [rt]
  | j + 1, h => by
    have ih := rt_mod v (j := j) (by omega)
    have e : 25 - (j + 1) = 24 - j := by omega
    have e2 : 25 - j = (24 - j) + 1 := by omega
    rw [e2, Nat.pow_succ] at ih
    have ih' : 2 ^ (24 - j) ∣ rt v j := Nat.dvd_trans (Nat.dvd_mul_right _ _) ih
    rw [e]
    unfold rt
    split
    · exact Nat.dvd_add ih' (Nat.dvd_refl _)
    · exact ih'
theorem rt_lt (v : Nat) : ∀ {j : Nat}, j ≤ 25 → rt v j + 2 ^ (25 - j) ≤ 2 ^ 25
  | 0, _ => by simp [rt]
  | j + 1, h => by
    have ih := rt_lt v (j := j) (by omega)
    have e : 25 - (j + 1) = 24 - j := by omega
    have e2 : 25 - j = (24 - j) + 1 := by omega
    rw [e2, Nat.pow_succ] at ih
    rw [e]
    unfold rt
    split <;> omega
theorem rt_sq (v : Nat) (hv : v < 2 ^ 50) : ∀ {j : Nat}, j ≤ 25 → rt v j * rt v j ≤ v ∧ v < (rt v j + 2 ^ (25 - j)) * (rt v j + 2 ^ (25 - j))
  | 0, _ => by simp [rt]; omega
  | j + 1, h => by
    have ih := rt_sq v hv (j := j) (by omega)
    have e : 25 - (j + 1) = 24 - j := by omega
    have e2 : 25 - j = (24 - j) + 1 := by omega
    rw [e2, Nat.pow_succ] at ih
    rw [e]
    unfold rt
    split
    · rename_i hq
      refine ⟨hq, ?_⟩
      have : rt v j + 2 ^ (24 - j) + 2 ^ (24 - j) = rt v j + 2 ^ (24 - j) * 2 := by omega
      rw [this]; exact ih.2
    · exact ⟨ih.1, by omega⟩
def rootV (a : Int) : Int := if a ≤ 0 then 0 else (rt (a.toNat * 65536) 25 : Nat)
theorem root_spec {a : Int} (h0 : 0 < a) (ha : B32 a) : 0 ≤ rootV a ∧ rootV a * rootV a ≤ a * 65536 ∧ a * 65536 < (rootV a + 1) * (rootV a + 1) ∧ rootV a ≤ 33554431 := by
  unfold B32 at ha
  obtain ⟨n, rfl⟩ := Int.eq_ofNat_of_zero_le (Int.le_of_lt h0)
  unfold rootV
  rw [if_neg (by omega)]
  simp only [Int.toNat_natCast]
  have h1 := rt_sq (n * 65536) (by omega) (j := 25) (by omega)
  have h2 := rt_lt (n * 65536) (j := 25) (by omega)
  generalize rt (n * 65536) 25 = r at h1 h2
  simp only [Nat.sub_self, Nat.pow_zero] at h1 h2
  have h3 : ((r * r : Nat) : Int) ≤ ((n * 65536 : Nat) : Int) := Int.ofNat_le.2 h1.1
  have h4 : ((n * 65536 : Nat) : Int) < (((r + 1) * (r + 1) : Nat) : Int) := Int.ofNat_lt.2 h1.2
  rw [Int.natCast_mul, Int.natCast_mul] at h3 h4
  rw [Int.natCast_add] at h4
  exact ⟨by omega, h3, h4, by omega⟩
theorem ori_step (v : Nat) {j : Nat} (hj : j ≤ 24) : ori (rt v j : Nat) ((2 ^ (24 - j) : Nat) : Int) = ((rt v j + 2 ^ (24 - j) : Nat) : Int) := by
  have h1 := rt_lt v (j := j) (by omega)
  have h2 : 2 ^ (24 - j) ≤ 2 ^ 24 := Nat.pow_le_pow_right (by omega) (by omega)
  have h0 : 0 < 2 ^ (25 - j) := Nat.two_pow_pos _
  rw [ori_nat (by omega) (by omega)]
  congr 1
  obtain ⟨q, hq⟩ := rt_mod v (j := j) (by omega)
  rw [hq]
  have h3 := Nat.two_pow_add_eq_or_of_lt (i := 25 - j) (b := 2 ^ (24 - j)) (Nat.pow_lt_pow_right (by omega) (by omega)) q
  rw [← h3]
theorem sq_bound {x : Nat} (h : x ≤ 2 ^ 25) : x * x ≤ 2 ^ 50 := by
  have := Nat.mul_le_mul h h
  simpa using this
theorem bit_half {j : Nat} : ((16777216 / 2 ^ j : Nat) : Int) / 2 = ((16777216 / 2 ^ (j + 1) : Nat) : Int) := by
  rw [Nat.pow_succ, ← Nat.div_div_eq_div_mul]
  omega
theorem bit_eq {j : Nat} (h : j ≤ 24) : 16777216 / 2 ^ j = 2 ^ (24 - j) := by
  have : 16777216 = 2 ^ 24 := by decide
  rw [this, Nat.pow_div h (by decide)]
theorem bit_end : 16777216 / 2 ^ 25 = 0 := by decide
set_option maxHeartbeats 1000000 in
theorem root_h (a : Int) (ha : B32 a) : Holds Tryd.prog 12 [.int .i32 a] [] (fun r h' => r = V.int .i32 (rootV a) ∧ h' = []) := by
  have ha' := ha
  unfold B32 at ha
  refine holds_of_awp Tryd.func12 rfl (by decide +kernel) mixed Tryd.ntmps12 Tryd.results12 ?_
  simp only [entrySt, List.map_cons, List.map_nil, List.length_cons, List.length_nil, Nat.reduceAdd, Nat.reduceSub, List.replicate_succ, List.replicate_zero, List.cons_append, List.nil_append]
  (simp (maxSteps := 2000000) (disch := omega) only [go_sem, true_and, and_true, Nat.reduceAdd, Nat.reduceSub, Nat.reduceMul, Nat.reduceBEq, Nat.reduceEqDiff, Nat.reduceLT, Nat.reduceLeDiff, Nat.reduceDiv, reduceIte, Nat.zero_add, Nat.add_zero, Int.toNat_natCast, Option.some.injEq, exists_eq_left', reduceCtorEq, Int.natCast_add, Int.natCast_mul, Int.cast_ofNat_Int, List.replicate_succ, List.replicate_zero, List.cons_append, List.nil_append]; repeat (with_reducible refine a_apA ?_; simp (maxSteps := 2000000) (disch := omega) only [go_sem, true_and, and_true, Nat.reduceAdd, Nat.reduceSub, Nat.reduceMul, Nat.reduceBEq, Nat.reduceEqDiff, Nat.reduceLT, Nat.reduceLeDiff, Nat.reduceDiv, reduceIte, Nat.zero_add, Nat.add_zero, Int.toNat_natCast, Option.some.injEq, exists_eq_left', reduceCtorEq, Int.natCast_add, Int.natCast_mul, Int.cast_ofNat_Int, List.replicate_succ, List.replicate_zero, List.cons_append, List.nil_append]))
  refine c_dec (fun h => ?_) (fun h => ?_)
  · have e : rootV a = 0 := by unfold rootV; rw [if_pos h]
    rw [e]
    (simp (maxSteps := 2000000) (disch := omega) only [go_sem, true_and, and_true, Nat.reduceAdd, Nat.reduceSub, Nat.reduceMul, Nat.reduceBEq, Nat.reduceEqDiff, Nat.reduceLT, Nat.reduceLeDiff, Nat.reduceDiv, reduceIte, Nat.zero_add, Nat.add_zero, Int.toNat_natCast, Option.some.injEq, exists_eq_left', reduceCtorEq, Int.natCast_add, Int.natCast_mul, Int.cast_ofNat_Int, List.replicate_succ, List.replicate_zero, List.cons_append, List.nil_append]; repeat (with_reducible refine a_apA ?_; simp (maxSteps := 2000000) (disch := omega) only [go_sem, true_and, and_true, Nat.reduceAdd, Nat.reduceSub, Nat.reduceMul, Nat.reduceBEq, Nat.reduceEqDiff, Nat.reduceLT, Nat.reduceLeDiff, Nat.reduceDiv, reduceIte, Nat.zero_add, Nat.add_zero, Int.toNat_natCast, Option.some.injEq, exists_eq_left', reduceCtorEq, Int.natCast_add, Int.natCast_mul, Int.cast_ofNat_Int, List.replicate_succ, List.replicate_zero, List.cons_append, List.nil_append]))
  · obtain ⟨n, rfl⟩ := Int.eq_ofNat_of_zero_le (show 0 ≤ a by omega)
    have e : rootV (n : Int) = (rt (n * 65536) 25 : Nat) := by unfold rootV; rw [if_neg h]; simp
    rw [e]
    (simp (maxSteps := 2000000) (disch := omega) only [go_sem, true_and, and_true, Nat.reduceAdd, Nat.reduceSub, Nat.reduceMul, Nat.reduceBEq, Nat.reduceEqDiff, Nat.reduceLT, Nat.reduceLeDiff, Nat.reduceDiv, reduceIte, Nat.zero_add, Nat.add_zero, Int.toNat_natCast, Option.some.injEq, exists_eq_left', reduceCtorEq, Int.natCast_add, Int.natCast_mul, Int.cast_ofNat_Int, List.replicate_succ, List.replicate_zero, List.cons_append, List.nil_append]; repeat (with_reducible refine a_apA ?_; simp (maxSteps := 2000000) (disch := omega) only [go_sem, true_and, and_true, Nat.reduceAdd, Nat.reduceSub, Nat.reduceMul, Nat.reduceBEq, Nat.reduceEqDiff, Nat.reduceLT, Nat.reduceLeDiff, Nat.reduceDiv, reduceIte, Nat.zero_add, Nat.add_zero, Int.toNat_natCast, Option.some.injEq, exists_eq_left', reduceCtorEq, Int.natCast_add, Int.natCast_mul, Int.cast_ofNat_Int, List.replicate_succ, List.replicate_zero, List.cons_append, List.nil_append]))
    refine a_loopk (fun j : Nat => ⟨[V.int .i32 n, .undef, .undef, V.int .i64 ((n : Int) * 65536), V.int .i64 (rt (n * 65536) j : Nat), V.int .i64 (16777216 / 2 ^ j : Nat), .undef, .undef, .undef, .undef, .undef, .undef, .undef, .undef, .undef, .undef, .undef, .undef, .undef, .undef, .undef, .undef, .undef, .undef, .undef, .undef, .undef], []⟩) (· ≤ 25) (25 - ·) 0 (by omega) (by (simp (maxSteps := 2000000) (disch := omega) only [go_sem, true_and, and_true, Nat.reduceAdd, Nat.reduceSub, Nat.reduceMul, Nat.reduceBEq, Nat.reduceEqDiff, Nat.reduceLT, Nat.reduceLeDiff, Nat.reduceDiv, reduceIte, Nat.zero_add, Nat.add_zero, Int.toNat_natCast, Option.some.injEq, exists_eq_left', reduceCtorEq, Int.natCast_add, Int.natCast_mul, Int.cast_ofNat_Int, List.replicate_succ, List.replicate_zero, List.cons_append, List.nil_append]; repeat (with_reducible refine a_apA ?_; simp (maxSteps := 2000000) (disch := omega) only [go_sem, true_and, and_true, Nat.reduceAdd, Nat.reduceSub, Nat.reduceMul, Nat.reduceBEq, Nat.reduceEqDiff, Nat.reduceLT, Nat.reduceLeDiff, Nat.reduceDiv, reduceIte, Nat.zero_add, Nat.add_zero, Int.toNat_natCast, Option.some.injEq, exists_eq_left', reduceCtorEq, Int.natCast_add, Int.natCast_mul, Int.cast_ofNat_Int, List.replicate_succ, List.replicate_zero, List.cons_append, List.nil_append])); exact ⟨rfl, rfl⟩) ?_
    intro j hj
    by_cases hlt : j ≤ 24
    · have eb := bit_eq hlt
      have hb0 : 0 < 16777216 / 2 ^ j := by rw [eb]; exact Nat.two_pow_pos _
      have hori := ori_step (n * 65536) hlt
      have hhalf := bit_half (j := j)
      have hle := rt_lt (n * 65536) (j := j + 1) (by omega)
      have hle0 := rt_lt (n * 65536) (j := j) (by omega)
      have hpos : 0 < 2 ^ (25 - j) := Nat.two_pow_pos _
      have e25 : 25 - j = (24 - j) + 1 := by omega
      rw [e25, Nat.pow_succ] at hle0
      have hnext : rt (n * 65536) (j + 1) = if (rt (n * 65536) j + 2 ^ (24 - j)) * (rt (n * 65536) j + 2 ^ (24 - j)) ≤ n * 65536 then rt (n * 65536) j + 2 ^ (24 - j) else rt (n * 65536) j := rfl
      rw [← eb] at hori hnext hle0
      generalize hB : 16777216 / 2 ^ j = B at *
      generalize hX : rt (n * 65536) j + B = x at *
      have hx25 : x ≤ 2 ^ 25 := by omega
      have hxx := sq_bound hx25
      have hxi : (x : Int) * x ≤ 1125899906842624 := by have := Int.ofNat_le.2 hxx; rw [Int.natCast_mul] at this; exact this
      have hx0 : 0 ≤ (x : Int) * x := Int.mul_nonneg (by omega) (by omega)
      (simp (maxSteps := 2000000) (disch := omega) only [go_sem, true_and, and_true, Nat.reduceAdd, Nat.reduceSub, Nat.reduceMul, Nat.reduceBEq, Nat.reduceEqDiff, Nat.reduceLT, Nat.reduceLeDiff, Nat.reduceDiv, reduceIte, Nat.zero_add, Nat.add_zero, Int.toNat_natCast, Option.some.injEq, exists_eq_left', reduceCtorEq, Int.natCast_add, Int.natCast_mul, Int.cast_ofNat_Int, List.replicate_succ, List.replicate_zero, List.cons_append, List.nil_append]; repeat (with_reducible refine a_apA ?_; simp (maxSteps := 2000000) (disch := omega) only [go_sem, true_and, and_true, Nat.reduceAdd, Nat.reduceSub, Nat.reduceMul, Nat.reduceBEq, Nat.reduceEqDiff, Nat.reduceLT, Nat.reduceLeDiff, Nat.reduceDiv, reduceIte, Nat.zero_add, Nat.add_zero, Int.toNat_natCast, Option.some.injEq, exists_eq_left', reduceCtorEq, Int.natCast_add, Int.natCast_mul, Int.cast_ofNat_Int, List.replicate_succ, List.replicate_zero, List.cons_append, List.nil_append]))
      refine c_dec (fun h2 => ?_) (fun h2 => ?_)
      · (simp (maxSteps := 2000000) (disch := omega) only [go_sem, true_and, and_true, Nat.reduceAdd, Nat.reduceSub, Nat.reduceMul, Nat.reduceBEq, Nat.reduceEqDiff, Nat.reduceLT, Nat.reduceLeDiff, Nat.reduceDiv, reduceIte, Nat.zero_add, Nat.add_zero, Int.toNat_natCast, Option.some.injEq, exists_eq_left', reduceCtorEq, Int.natCast_add, Int.natCast_mul, Int.cast_ofNat_Int, List.replicate_succ, List.replicate_zero, List.cons_append, List.nil_append]; repeat (with_reducible refine a_apA ?_; simp (maxSteps := 2000000) (disch := omega) only [go_sem, true_and, and_true, Nat.reduceAdd, Nat.reduceSub, Nat.reduceMul, Nat.reduceBEq, Nat.reduceEqDiff, Nat.reduceLT, Nat.reduceLeDiff, Nat.reduceDiv, reduceIte, Nat.zero_add, Nat.add_zero, Int.toNat_natCast, Option.some.injEq, exists_eq_left', reduceCtorEq, Int.natCast_add, Int.natCast_mul, Int.cast_ofNat_Int, List.replicate_succ, List.replicate_zero, List.cons_append, List.nil_append]))
        simp only [hori]
        (simp (maxSteps := 2000000) (disch := omega) only [go_sem, true_and, and_true, Nat.reduceAdd, Nat.reduceSub, Nat.reduceMul, Nat.reduceBEq, Nat.reduceEqDiff, Nat.reduceLT, Nat.reduceLeDiff, Nat.reduceDiv, reduceIte, Nat.zero_add, Nat.add_zero, Int.toNat_natCast, Option.some.injEq, exists_eq_left', reduceCtorEq, Int.natCast_add, Int.natCast_mul, Int.cast_ofNat_Int, List.replicate_succ, List.replicate_zero, List.cons_append, List.nil_append]; repeat (with_reducible refine a_apA ?_; simp (maxSteps := 2000000) (disch := omega) only [go_sem, true_and, and_true, Nat.reduceAdd, Nat.reduceSub, Nat.reduceMul, Nat.reduceBEq, Nat.reduceEqDiff, Nat.reduceLT, Nat.reduceLeDiff, Nat.reduceDiv, reduceIte, Nat.zero_add, Nat.add_zero, Int.toNat_natCast, Option.some.injEq, exists_eq_left', reduceCtorEq, Int.natCast_add, Int.natCast_mul, Int.cast_ofNat_Int, List.replicate_succ, List.replicate_zero, List.cons_append, List.nil_append]))
        refine c_dec (fun h3 => ?_) (fun h3 => ?_)
        · have h4 : x * x ≤ n * 65536 := by
            have : ((x * x : Nat) : Int) ≤ ((n * 65536 : Nat) : Int) := by rw [Int.natCast_mul, Int.natCast_mul]; exact h3
            exact Int.ofNat_le.1 this
          rw [if_pos h4] at hnext
          try (simp (maxSteps := 2000000) (disch := omega) only [go_sem, true_and, and_true, Nat.reduceAdd, Nat.reduceSub, Nat.reduceMul, Nat.reduceBEq, Nat.reduceEqDiff, Nat.reduceLT, Nat.reduceLeDiff, Nat.reduceDiv, reduceIte, Nat.zero_add, Nat.add_zero, Int.toNat_natCast, Option.some.injEq, exists_eq_left', reduceCtorEq, Int.natCast_add, Int.natCast_mul, Int.cast_ofNat_Int, List.replicate_succ, List.replicate_zero, List.cons_append, List.nil_append]; repeat (with_reducible refine a_apA ?_; simp (maxSteps := 2000000) (disch := omega) only [go_sem, true_and, and_true, Nat.reduceAdd, Nat.reduceSub, Nat.reduceMul, Nat.reduceBEq, Nat.reduceEqDiff, Nat.reduceLT, Nat.reduceLeDiff, Nat.reduceDiv, reduceIte, Nat.zero_add, Nat.add_zero, Int.toNat_natCast, Option.some.injEq, exists_eq_left', reduceCtorEq, Int.natCast_add, Int.natCast_mul, Int.cast_ofNat_Int, List.replicate_succ, List.replicate_zero, List.cons_append, List.nil_append]))
          refine ⟨j + 1, by omega, by omega, ?_⟩
          rw [hnext, ← hhalf]
          (simp (maxSteps := 2000000) (disch := omega) only [go_sem, true_and, and_true, Nat.reduceAdd, Nat.reduceSub, Nat.reduceMul, Nat.reduceBEq, Nat.reduceEqDiff, Nat.reduceLT, Nat.reduceLeDiff, Nat.reduceDiv, reduceIte, Nat.zero_add, Nat.add_zero, Int.toNat_natCast, Option.some.injEq, exists_eq_left', reduceCtorEq, Int.natCast_add, Int.natCast_mul, Int.cast_ofNat_Int, List.replicate_succ, List.replicate_zero, List.cons_append, List.nil_append]; repeat (with_reducible refine a_apA ?_; simp (maxSteps := 2000000) (disch := omega) only [go_sem, true_and, and_true, Nat.reduceAdd, Nat.reduceSub, Nat.reduceMul, Nat.reduceBEq, Nat.reduceEqDiff, Nat.reduceLT, Nat.reduceLeDiff, Nat.reduceDiv, reduceIte, Nat.zero_add, Nat.add_zero, Int.toNat_natCast, Option.some.injEq, exists_eq_left', reduceCtorEq, Int.natCast_add, Int.natCast_mul, Int.cast_ofNat_Int, List.replicate_succ, List.replicate_zero, List.cons_append, List.nil_append]))
        · have h4 : ¬ x * x ≤ n * 65536 := fun h4 => h3 (by
            have := Int.ofNat_le.2 h4
            rw [Int.natCast_mul, Int.natCast_mul] at this; exact this)
          rw [if_neg h4] at hnext
          try (simp (maxSteps := 2000000) (disch := omega) only [go_sem, true_and, and_true, Nat.reduceAdd, Nat.reduceSub, Nat.reduceMul, Nat.reduceBEq, Nat.reduceEqDiff, Nat.reduceLT, Nat.reduceLeDiff, Nat.reduceDiv, reduceIte, Nat.zero_add, Nat.add_zero, Int.toNat_natCast, Option.some.injEq, exists_eq_left', reduceCtorEq, Int.natCast_add, Int.natCast_mul, Int.cast_ofNat_Int, List.replicate_succ, List.replicate_zero, List.cons_append, List.nil_append]; repeat (with_reducible refine a_apA ?_; simp (maxSteps := 2000000) (disch := omega) only [go_sem, true_and, and_true, Nat.reduceAdd, Nat.reduceSub, Nat.reduceMul, Nat.reduceBEq, Nat.reduceEqDiff, Nat.reduceLT, Nat.reduceLeDiff, Nat.reduceDiv, reduceIte, Nat.zero_add, Nat.add_zero, Int.toNat_natCast, Option.some.injEq, exists_eq_left', reduceCtorEq, Int.natCast_add, Int.natCast_mul, Int.cast_ofNat_Int, List.replicate_succ, List.replicate_zero, List.cons_append, List.nil_append]))
          refine ⟨j + 1, by omega, by omega, ?_⟩
          rw [hnext, ← hhalf]
          (simp (maxSteps := 2000000) (disch := omega) only [go_sem, true_and, and_true, Nat.reduceAdd, Nat.reduceSub, Nat.reduceMul, Nat.reduceBEq, Nat.reduceEqDiff, Nat.reduceLT, Nat.reduceLeDiff, Nat.reduceDiv, reduceIte, Nat.zero_add, Nat.add_zero, Int.toNat_natCast, Option.some.injEq, exists_eq_left', reduceCtorEq, Int.natCast_add, Int.natCast_mul, Int.cast_ofNat_Int, List.replicate_succ, List.replicate_zero, List.cons_append, List.nil_append]; repeat (with_reducible refine a_apA ?_; simp (maxSteps := 2000000) (disch := omega) only [go_sem, true_and, and_true, Nat.reduceAdd, Nat.reduceSub, Nat.reduceMul, Nat.reduceBEq, Nat.reduceEqDiff, Nat.reduceLT, Nat.reduceLeDiff, Nat.reduceDiv, reduceIte, Nat.zero_add, Nat.add_zero, Int.toNat_natCast, Option.some.injEq, exists_eq_left', reduceCtorEq, Int.natCast_add, Int.natCast_mul, Int.cast_ofNat_Int, List.replicate_succ, List.replicate_zero, List.cons_append, List.nil_append]))
      · omega
    · have : j = 25 := by omega
      subst this
      simp only [bit_end]
      have hle := rt_lt (n * 65536) (j := 25) (by omega)
      have hpos : 0 < 2 ^ (25 - 25) := by decide
      generalize rt (n * 65536) 25 = R at *
      (simp (maxSteps := 2000000) (disch := omega) only [go_sem, true_and, and_true, Nat.reduceAdd, Nat.reduceSub, Nat.reduceMul, Nat.reduceBEq, Nat.reduceEqDiff, Nat.reduceLT, Nat.reduceLeDiff, Nat.reduceDiv, reduceIte, Nat.zero_add, Nat.add_zero, Int.toNat_natCast, Option.some.injEq, exists_eq_left', reduceCtorEq, Int.natCast_add, Int.natCast_mul, Int.cast_ofNat_Int, List.replicate_succ, List.replicate_zero, List.cons_append, List.nil_append]; repeat (with_reducible refine a_apA ?_; simp (maxSteps := 2000000) (disch := omega) only [go_sem, true_and, and_true, Nat.reduceAdd, Nat.reduceSub, Nat.reduceMul, Nat.reduceBEq, Nat.reduceEqDiff, Nat.reduceLT, Nat.reduceLeDiff, Nat.reduceDiv, reduceIte, Nat.zero_add, Nat.add_zero, Int.toNat_natCast, Option.some.injEq, exists_eq_left', reduceCtorEq, Int.natCast_add, Int.natCast_mul, Int.cast_ofNat_Int, List.replicate_succ, List.replicate_zero, List.cons_append, List.nil_append]))
      refine c_dec (fun h2 => absurd h2 (by omega)) (fun h2 => ?_)
      (simp (maxSteps := 2000000) (disch := omega) only [go_sem, true_and, and_true, Nat.reduceAdd, Nat.reduceSub, Nat.reduceMul, Nat.reduceBEq, Nat.reduceEqDiff, Nat.reduceLT, Nat.reduceLeDiff, Nat.reduceDiv, reduceIte, Nat.zero_add, Nat.add_zero, Int.toNat_natCast, Option.some.injEq, exists_eq_left', reduceCtorEq, Int.natCast_add, Int.natCast_mul, Int.cast_ofNat_Int, List.replicate_succ, List.replicate_zero, List.cons_append, List.nil_append]; repeat (with_reducible refine a_apA ?_; simp (maxSteps := 2000000) (disch := omega) only [go_sem, true_and, and_true, Nat.reduceAdd, Nat.reduceSub, Nat.reduceMul, Nat.reduceBEq, Nat.reduceEqDiff, Nat.reduceLT, Nat.reduceLeDiff, Nat.reduceDiv, reduceIte, Nat.zero_add, Nat.add_zero, Int.toNat_natCast, Option.some.injEq, exists_eq_left', reduceCtorEq, Int.natCast_add, Int.natCast_mul, Int.cast_ofNat_Int, List.replicate_succ, List.replicate_zero, List.cons_append, List.nil_append]))
set_option maxHeartbeats 1000000 in
theorem rroot_h (a : Int) (ha : B32 a) : Holds Tryd.prog 20 [.int .i32 a] [] (fun r h' => r = V.int .i32 (rootV a) ∧ h' = []) := by
  have ha' := ha
  unfold B32 at ha
  refine holds_of_awp Tryd.func20 rfl (by decide +kernel) mixed Tryd.ntmps20 Tryd.results20 ?_
  simp only [entrySt, List.map_cons, List.map_nil, List.length_cons, List.length_nil, Nat.reduceAdd, Nat.reduceSub, List.replicate_succ, List.replicate_zero, List.cons_append, List.nil_append]
  (simp (maxSteps := 2000000) (disch := omega) only [go_sem, true_and, and_true, Nat.reduceAdd, Nat.reduceSub, Nat.reduceMul, Nat.reduceBEq, Nat.reduceEqDiff, Nat.reduceLT, Nat.reduceLeDiff, Nat.reduceDiv, reduceIte, Nat.zero_add, Nat.add_zero, Int.toNat_natCast, Option.some.injEq, exists_eq_left', reduceCtorEq, Int.natCast_add, Int.natCast_mul, Int.cast_ofNat_Int, List.replicate_succ, List.replicate_zero, List.cons_append, List.nil_append]; repeat (with_reducible refine a_apA ?_; simp (maxSteps := 2000000) (disch := omega) only [go_sem, true_and, and_true, Nat.reduceAdd, Nat.reduceSub, Nat.reduceMul, Nat.reduceBEq, Nat.reduceEqDiff, Nat.reduceLT, Nat.reduceLeDiff, Nat.reduceDiv, reduceIte, Nat.zero_add, Nat.add_zero, Int.toNat_natCast, Option.some.injEq, exists_eq_left', reduceCtorEq, Int.natCast_add, Int.natCast_mul, Int.cast_ofNat_Int, List.replicate_succ, List.replicate_zero, List.cons_append, List.nil_append]))
  refine c_dec (fun h => ?_) (fun h => ?_)
  · have e : rootV a = 0 := by unfold rootV; rw [if_pos h]
    rw [e]
    (simp (maxSteps := 2000000) (disch := omega) only [go_sem, true_and, and_true, Nat.reduceAdd, Nat.reduceSub, Nat.reduceMul, Nat.reduceBEq, Nat.reduceEqDiff, Nat.reduceLT, Nat.reduceLeDiff, Nat.reduceDiv, reduceIte, Nat.zero_add, Nat.add_zero, Int.toNat_natCast, Option.some.injEq, exists_eq_left', reduceCtorEq, Int.natCast_add, Int.natCast_mul, Int.cast_ofNat_Int, List.replicate_succ, List.replicate_zero, List.cons_append, List.nil_append]; repeat (with_reducible refine a_apA ?_; simp (maxSteps := 2000000) (disch := omega) only [go_sem, true_and, and_true, Nat.reduceAdd, Nat.reduceSub, Nat.reduceMul, Nat.reduceBEq, Nat.reduceEqDiff, Nat.reduceLT, Nat.reduceLeDiff, Nat.reduceDiv, reduceIte, Nat.zero_add, Nat.add_zero, Int.toNat_natCast, Option.some.injEq, exists_eq_left', reduceCtorEq, Int.natCast_add, Int.natCast_mul, Int.cast_ofNat_Int, List.replicate_succ, List.replicate_zero, List.cons_append, List.nil_append]))
  · obtain ⟨n, rfl⟩ := Int.eq_ofNat_of_zero_le (show 0 ≤ a by omega)
    have e : rootV (n : Int) = (rt (n * 65536) 25 : Nat) := by unfold rootV; rw [if_neg h]; simp
    rw [e]
    (simp (maxSteps := 2000000) (disch := omega) only [go_sem, true_and, and_true, Nat.reduceAdd, Nat.reduceSub, Nat.reduceMul, Nat.reduceBEq, Nat.reduceEqDiff, Nat.reduceLT, Nat.reduceLeDiff, Nat.reduceDiv, reduceIte, Nat.zero_add, Nat.add_zero, Int.toNat_natCast, Option.some.injEq, exists_eq_left', reduceCtorEq, Int.natCast_add, Int.natCast_mul, Int.cast_ofNat_Int, List.replicate_succ, List.replicate_zero, List.cons_append, List.nil_append]; repeat (with_reducible refine a_apA ?_; simp (maxSteps := 2000000) (disch := omega) only [go_sem, true_and, and_true, Nat.reduceAdd, Nat.reduceSub, Nat.reduceMul, Nat.reduceBEq, Nat.reduceEqDiff, Nat.reduceLT, Nat.reduceLeDiff, Nat.reduceDiv, reduceIte, Nat.zero_add, Nat.add_zero, Int.toNat_natCast, Option.some.injEq, exists_eq_left', reduceCtorEq, Int.natCast_add, Int.natCast_mul, Int.cast_ofNat_Int, List.replicate_succ, List.replicate_zero, List.cons_append, List.nil_append]))
    refine a_loopk (fun j : Nat => ⟨[V.int .i32 n, .undef, .undef, V.int .i64 ((n : Int) * 65536), V.int .i64 (rt (n * 65536) j : Nat), V.int .i64 (24 - (j : Int)), .undef, .undef, .undef, .undef, .undef, .undef, .undef, .undef, .undef, .undef, .undef, .undef, .undef, .undef, .undef, .undef, .undef, .undef, .undef, .undef, .undef, .undef, .undef], []⟩) (· ≤ 25) (25 - ·) 0 (by omega) (by (simp (maxSteps := 2000000) (disch := omega) only [go_sem, true_and, and_true, Nat.reduceAdd, Nat.reduceSub, Nat.reduceMul, Nat.reduceBEq, Nat.reduceEqDiff, Nat.reduceLT, Nat.reduceLeDiff, Nat.reduceDiv, reduceIte, Nat.zero_add, Nat.add_zero, Int.toNat_natCast, Option.some.injEq, exists_eq_left', reduceCtorEq, Int.natCast_add, Int.natCast_mul, Int.cast_ofNat_Int, List.replicate_succ, List.replicate_zero, List.cons_append, List.nil_append]; repeat (with_reducible refine a_apA ?_; simp (maxSteps := 2000000) (disch := omega) only [go_sem, true_and, and_true, Nat.reduceAdd, Nat.reduceSub, Nat.reduceMul, Nat.reduceBEq, Nat.reduceEqDiff, Nat.reduceLT, Nat.reduceLeDiff, Nat.reduceDiv, reduceIte, Nat.zero_add, Nat.add_zero, Int.toNat_natCast, Option.some.injEq, exists_eq_left', reduceCtorEq, Int.natCast_add, Int.natCast_mul, Int.cast_ofNat_Int, List.replicate_succ, List.replicate_zero, List.cons_append, List.nil_append])); exact ⟨rfl, rfl⟩) ?_
    intro j hj
    by_cases hlt : j ≤ 24
    · have eb := bit_eq hlt
      have hb0 : 0 < 16777216 / 2 ^ j := by rw [eb]; exact Nat.two_pow_pos _
      have hsh : IntKind.i64.wrap (1 * 2 ^ (24 - (j : Int)).toNat) = ((2 ^ (24 - j) : Nat) : Int) := by
        have e : (24 - (j : Int)).toNat = 24 - j := by omega
        have h5 : 2 ^ (24 - j) ≤ 2 ^ 24 := Nat.pow_le_pow_right (by omega) (by omega)
        have h6 : ((2 ^ (24 - j) : Nat) : Int) = 2 ^ (24 - j) := by simp
        rw [e, Int.one_mul, ← h6]
        exact wrap_i64 (by omega) (by omega)
      have hU := U64_int (n := 24 - (j : Int)) (by omega) (by omega)
      have hle := rt_lt (n * 65536) (j := j + 1) (by omega)
      have hle0 := rt_lt (n * 65536) (j := j) (by omega)
      have hpos : 0 < 2 ^ (25 - j) := Nat.two_pow_pos _
      have e25 : 25 - j = (24 - j) + 1 := by omega
      rw [e25, Nat.pow_succ] at hle0
      have hnext : rt (n * 65536) (j + 1) = if (rt (n * 65536) j + 2 ^ (24 - j)) * (rt (n * 65536) j + 2 ^ (24 - j)) ≤ n * 65536 then rt (n * 65536) j + 2 ^ (24 - j) else rt (n * 65536) j := rfl
      rw [← eb] at hsh hnext hle0
      generalize hB : 16777216 / 2 ^ j = B at *
      generalize hX : rt (n * 65536) j + B = x at *
      have hx25 : x ≤ 2 ^ 25 := by omega
      have hxx := sq_bound hx25
      have hxi : (x : Int) * x ≤ 1125899906842624 := by have := Int.ofNat_le.2 hxx; rw [Int.natCast_mul] at this; exact this
      have hx0 : 0 ≤ (x : Int) * x := Int.mul_nonneg (by omega) (by omega)
      (simp (maxSteps := 2000000) (disch := omega) only [go_sem, true_and, and_true, Nat.reduceAdd, Nat.reduceSub, Nat.reduceMul, Nat.reduceBEq, Nat.reduceEqDiff, Nat.reduceLT, Nat.reduceLeDiff, Nat.reduceDiv, reduceIte, Nat.zero_add, Nat.add_zero, Int.toNat_natCast, Option.some.injEq, exists_eq_left', reduceCtorEq, Int.natCast_add, Int.natCast_mul, Int.cast_ofNat_Int, List.replicate_succ, List.replicate_zero, List.cons_append, List.nil_append]; repeat (with_reducible refine a_apA ?_; simp (maxSteps := 2000000) (disch := omega) only [go_sem, true_and, and_true, Nat.reduceAdd, Nat.reduceSub, Nat.reduceMul, Nat.reduceBEq, Nat.reduceEqDiff, Nat.reduceLT, Nat.reduceLeDiff, Nat.reduceDiv, reduceIte, Nat.zero_add, Nat.add_zero, Int.toNat_natCast, Option.some.injEq, exists_eq_left', reduceCtorEq, Int.natCast_add, Int.natCast_mul, Int.cast_ofNat_Int, List.replicate_succ, List.replicate_zero, List.cons_append, List.nil_append]))
      refine c_dec (fun h2 => ?_) (fun h2 => ?_)
      · (simp (maxSteps := 2000000) (disch := omega) only [go_sem, true_and, and_true, Nat.reduceAdd, Nat.reduceSub, Nat.reduceMul, Nat.reduceBEq, Nat.reduceEqDiff, Nat.reduceLT, Nat.reduceLeDiff, Nat.reduceDiv, reduceIte, Nat.zero_add, Nat.add_zero, Int.toNat_natCast, Option.some.injEq, exists_eq_left', reduceCtorEq, Int.natCast_add, Int.natCast_mul, Int.cast_ofNat_Int, List.replicate_succ, List.replicate_zero, List.cons_append, List.nil_append]; repeat (with_reducible refine a_apA ?_; simp (maxSteps := 2000000) (disch := omega) only [go_sem, true_and, and_true, Nat.reduceAdd, Nat.reduceSub, Nat.reduceMul, Nat.reduceBEq, Nat.reduceEqDiff, Nat.reduceLT, Nat.reduceLeDiff, Nat.reduceDiv, reduceIte, Nat.zero_add, Nat.add_zero, Int.toNat_natCast, Option.some.injEq, exists_eq_left', reduceCtorEq, Int.natCast_add, Int.natCast_mul, Int.cast_ofNat_Int, List.replicate_succ, List.replicate_zero, List.cons_append, List.nil_append]))
        simp only [hU]
        try (simp (maxSteps := 2000000) (disch := omega) only [go_sem, true_and, and_true, Nat.reduceAdd, Nat.reduceSub, Nat.reduceMul, Nat.reduceBEq, Nat.reduceEqDiff, Nat.reduceLT, Nat.reduceLeDiff, Nat.reduceDiv, reduceIte, Nat.zero_add, Nat.add_zero, Int.toNat_natCast, Option.some.injEq, exists_eq_left', reduceCtorEq, Int.natCast_add, Int.natCast_mul, Int.cast_ofNat_Int, List.replicate_succ, List.replicate_zero, List.cons_append, List.nil_append]; repeat (with_reducible refine a_apA ?_; simp (maxSteps := 2000000) (disch := omega) only [go_sem, true_and, and_true, Nat.reduceAdd, Nat.reduceSub, Nat.reduceMul, Nat.reduceBEq, Nat.reduceEqDiff, Nat.reduceLT, Nat.reduceLeDiff, Nat.reduceDiv, reduceIte, Nat.zero_add, Nat.add_zero, Int.toNat_natCast, Option.some.injEq, exists_eq_left', reduceCtorEq, Int.natCast_add, Int.natCast_mul, Int.cast_ofNat_Int, List.replicate_succ, List.replicate_zero, List.cons_append, List.nil_append]))
        simp only [hsh]
        try (simp (maxSteps := 2000000) (disch := omega) only [go_sem, true_and, and_true, Nat.reduceAdd, Nat.reduceSub, Nat.reduceMul, Nat.reduceBEq, Nat.reduceEqDiff, Nat.reduceLT, Nat.reduceLeDiff, Nat.reduceDiv, reduceIte, Nat.zero_add, Nat.add_zero, Int.toNat_natCast, Option.some.injEq, exists_eq_left', reduceCtorEq, Int.natCast_add, Int.natCast_mul, Int.cast_ofNat_Int, List.replicate_succ, List.replicate_zero, List.cons_append, List.nil_append]; repeat (with_reducible refine a_apA ?_; simp (maxSteps := 2000000) (disch := omega) only [go_sem, true_and, and_true, Nat.reduceAdd, Nat.reduceSub, Nat.reduceMul, Nat.reduceBEq, Nat.reduceEqDiff, Nat.reduceLT, Nat.reduceLeDiff, Nat.reduceDiv, reduceIte, Nat.zero_add, Nat.add_zero, Int.toNat_natCast, Option.some.injEq, exists_eq_left', reduceCtorEq, Int.natCast_add, Int.natCast_mul, Int.cast_ofNat_Int, List.replicate_succ, List.replicate_zero, List.cons_append, List.nil_append]))
        have hXi : (rt (n * 65536) j : Int) + (B : Int) = (x : Int) := by omega
        simp only [hXi]
        (simp (maxSteps := 2000000) (disch := omega) only [go_sem, true_and, and_true, Nat.reduceAdd, Nat.reduceSub, Nat.reduceMul, Nat.reduceBEq, Nat.reduceEqDiff, Nat.reduceLT, Nat.reduceLeDiff, Nat.reduceDiv, reduceIte, Nat.zero_add, Nat.add_zero, Int.toNat_natCast, Option.some.injEq, exists_eq_left', reduceCtorEq, Int.natCast_add, Int.natCast_mul, Int.cast_ofNat_Int, List.replicate_succ, List.replicate_zero, List.cons_append, List.nil_append]; repeat (with_reducible refine a_apA ?_; simp (maxSteps := 2000000) (disch := omega) only [go_sem, true_and, and_true, Nat.reduceAdd, Nat.reduceSub, Nat.reduceMul, Nat.reduceBEq, Nat.reduceEqDiff, Nat.reduceLT, Nat.reduceLeDiff, Nat.reduceDiv, reduceIte, Nat.zero_add, Nat.add_zero, Int.toNat_natCast, Option.some.injEq, exists_eq_left', reduceCtorEq, Int.natCast_add, Int.natCast_mul, Int.cast_ofNat_Int, List.replicate_succ, List.replicate_zero, List.cons_append, List.nil_append]))
        refine c_dec (fun h3 => ?_) (fun h3 => ?_)
        · have h4 : x * x ≤ n * 65536 := by
            have : ((x * x : Nat) : Int) ≤ ((n * 65536 : Nat) : Int) := by rw [Int.natCast_mul, Int.natCast_mul]; exact h3
            exact Int.ofNat_le.1 this
          rw [if_pos h4] at hnext
          try (simp (maxSteps := 2000000) (disch := omega) only [go_sem, true_and, and_true, Nat.reduceAdd, Nat.reduceSub, Nat.reduceMul, Nat.reduceBEq, Nat.reduceEqDiff, Nat.reduceLT, Nat.reduceLeDiff, Nat.reduceDiv, reduceIte, Nat.zero_add, Nat.add_zero, Int.toNat_natCast, Option.some.injEq, exists_eq_left', reduceCtorEq, Int.natCast_add, Int.natCast_mul, Int.cast_ofNat_Int, List.replicate_succ, List.replicate_zero, List.cons_append, List.nil_append]; repeat (with_reducible refine a_apA ?_; simp (maxSteps := 2000000) (disch := omega) only [go_sem, true_and, and_true, Nat.reduceAdd, Nat.reduceSub, Nat.reduceMul, Nat.reduceBEq, Nat.reduceEqDiff, Nat.reduceLT, Nat.reduceLeDiff, Nat.reduceDiv, reduceIte, Nat.zero_add, Nat.add_zero, Int.toNat_natCast, Option.some.injEq, exists_eq_left', reduceCtorEq, Int.natCast_add, Int.natCast_mul, Int.cast_ofNat_Int, List.replicate_succ, List.replicate_zero, List.cons_append, List.nil_append]))
          refine ⟨j + 1, by omega, by omega, ?_⟩
          rw [hnext]
          (simp (maxSteps := 2000000) (disch := omega) only [go_sem, true_and, and_true, Nat.reduceAdd, Nat.reduceSub, Nat.reduceMul, Nat.reduceBEq, Nat.reduceEqDiff, Nat.reduceLT, Nat.reduceLeDiff, Nat.reduceDiv, reduceIte, Nat.zero_add, Nat.add_zero, Int.toNat_natCast, Option.some.injEq, exists_eq_left', reduceCtorEq, Int.natCast_add, Int.natCast_mul, Int.cast_ofNat_Int, List.replicate_succ, List.replicate_zero, List.cons_append, List.nil_append]; repeat (with_reducible refine a_apA ?_; simp (maxSteps := 2000000) (disch := omega) only [go_sem, true_and, and_true, Nat.reduceAdd, Nat.reduceSub, Nat.reduceMul, Nat.reduceBEq, Nat.reduceEqDiff, Nat.reduceLT, Nat.reduceLeDiff, Nat.reduceDiv, reduceIte, Nat.zero_add, Nat.add_zero, Int.toNat_natCast, Option.some.injEq, exists_eq_left', reduceCtorEq, Int.natCast_add, Int.natCast_mul, Int.cast_ofNat_Int, List.replicate_succ, List.replicate_zero, List.cons_append, List.nil_append]))
          exact congrArg (Value.int IntKind.i64) (by omega)
        · have h4 : ¬ x * x ≤ n * 65536 := fun h4 => h3 (by
            have := Int.ofNat_le.2 h4
            rw [Int.natCast_mul, Int.natCast_mul] at this; exact this)
          rw [if_neg h4] at hnext
          try (simp (maxSteps := 2000000) (disch := omega) only [go_sem, true_and, and_true, Nat.reduceAdd, Nat.reduceSub, Nat.reduceMul, Nat.reduceBEq, Nat.reduceEqDiff, Nat.reduceLT, Nat.reduceLeDiff, Nat.reduceDiv, reduceIte, Nat.zero_add, Nat.add_zero, Int.toNat_natCast, Option.some.injEq, exists_eq_left', reduceCtorEq, Int.natCast_add, Int.natCast_mul, Int.cast_ofNat_Int, List.replicate_succ, List.replicate_zero, List.cons_append, List.nil_append]; repeat (with_reducible refine a_apA ?_; simp (maxSteps := 2000000) (disch := omega) only [go_sem, true_and, and_true, Nat.reduceAdd, Nat.reduceSub, Nat.reduceMul, Nat.reduceBEq, Nat.reduceEqDiff, Nat.reduceLT, Nat.reduceLeDiff, Nat.reduceDiv, reduceIte, Nat.zero_add, Nat.add_zero, Int.toNat_natCast, Option.some.injEq, exists_eq_left', reduceCtorEq, Int.natCast_add, Int.natCast_mul, Int.cast_ofNat_Int, List.replicate_succ, List.replicate_zero, List.cons_append, List.nil_append]))
          refine ⟨j + 1, by omega, by omega, ?_⟩
          rw [hnext]
          (simp (maxSteps := 2000000) (disch := omega) only [go_sem, true_and, and_true, Nat.reduceAdd, Nat.reduceSub, Nat.reduceMul, Nat.reduceBEq, Nat.reduceEqDiff, Nat.reduceLT, Nat.reduceLeDiff, Nat.reduceDiv, reduceIte, Nat.zero_add, Nat.add_zero, Int.toNat_natCast, Option.some.injEq, exists_eq_left', reduceCtorEq, Int.natCast_add, Int.natCast_mul, Int.cast_ofNat_Int, List.replicate_succ, List.replicate_zero, List.cons_append, List.nil_append]; repeat (with_reducible refine a_apA ?_; simp (maxSteps := 2000000) (disch := omega) only [go_sem, true_and, and_true, Nat.reduceAdd, Nat.reduceSub, Nat.reduceMul, Nat.reduceBEq, Nat.reduceEqDiff, Nat.reduceLT, Nat.reduceLeDiff, Nat.reduceDiv, reduceIte, Nat.zero_add, Nat.add_zero, Int.toNat_natCast, Option.some.injEq, exists_eq_left', reduceCtorEq, Int.natCast_add, Int.natCast_mul, Int.cast_ofNat_Int, List.replicate_succ, List.replicate_zero, List.cons_append, List.nil_append]))
          exact congrArg (Value.int IntKind.i64) (by omega)
      · omega
    · have : j = 25 := by omega
      subst this
      have hle := rt_lt (n * 65536) (j := 25) (by omega)
      have hpos : 0 < 2 ^ (25 - 25) := by decide
      generalize rt (n * 65536) 25 = R at *
      (simp (maxSteps := 2000000) (disch := omega) only [go_sem, true_and, and_true, Nat.reduceAdd, Nat.reduceSub, Nat.reduceMul, Nat.reduceBEq, Nat.reduceEqDiff, Nat.reduceLT, Nat.reduceLeDiff, Nat.reduceDiv, reduceIte, Nat.zero_add, Nat.add_zero, Int.toNat_natCast, Option.some.injEq, exists_eq_left', reduceCtorEq, Int.natCast_add, Int.natCast_mul, Int.cast_ofNat_Int, List.replicate_succ, List.replicate_zero, List.cons_append, List.nil_append]; repeat (with_reducible refine a_apA ?_; simp (maxSteps := 2000000) (disch := omega) only [go_sem, true_and, and_true, Nat.reduceAdd, Nat.reduceSub, Nat.reduceMul, Nat.reduceBEq, Nat.reduceEqDiff, Nat.reduceLT, Nat.reduceLeDiff, Nat.reduceDiv, reduceIte, Nat.zero_add, Nat.add_zero, Int.toNat_natCast, Option.some.injEq, exists_eq_left', reduceCtorEq, Int.natCast_add, Int.natCast_mul, Int.cast_ofNat_Int, List.replicate_succ, List.replicate_zero, List.cons_append, List.nil_append]))
      refine c_dec (fun h2 => absurd h2 (by omega)) (fun h2 => ?_)
      (simp (maxSteps := 2000000) (disch := omega) only [go_sem, true_and, and_true, Nat.reduceAdd, Nat.reduceSub, Nat.reduceMul, Nat.reduceBEq, Nat.reduceEqDiff, Nat.reduceLT, Nat.reduceLeDiff, Nat.reduceDiv, reduceIte, Nat.zero_add, Nat.add_zero, Int.toNat_natCast, Option.some.injEq, exists_eq_left', reduceCtorEq, Int.natCast_add, Int.natCast_mul, Int.cast_ofNat_Int, List.replicate_succ, List.replicate_zero, List.cons_append, List.nil_append]; repeat (with_reducible refine a_apA ?_; simp (maxSteps := 2000000) (disch := omega) only [go_sem, true_and, and_true, Nat.reduceAdd, Nat.reduceSub, Nat.reduceMul, Nat.reduceBEq, Nat.reduceEqDiff, Nat.reduceLT, Nat.reduceLeDiff, Nat.reduceDiv, reduceIte, Nat.zero_add, Nat.add_zero, Int.toNat_natCast, Option.some.injEq, exists_eq_left', reduceCtorEq, Int.natCast_add, Int.natCast_mul, Int.cast_ofNat_Int, List.replicate_succ, List.replicate_zero, List.cons_append, List.nil_append]))
end Go.Proofs.YtlanmghaflompaaDoor
