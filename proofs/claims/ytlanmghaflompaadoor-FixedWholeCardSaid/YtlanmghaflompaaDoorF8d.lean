/- Chapter 8, plain: what the laws say of sums, products, quotients and roots. -/
import Derived.Test.YtlanmghaflompaaDoorF8c
open Go Go.RowKit
namespace Go.Proofs.YtlanmghaflompaaDoor
set_option linter.unusedSimpArgs false
set_option linter.unusedVariables false
theorem held_mono {a b : Int} (h : a ≤ b) : held a ≤ held b := by unfold held; omega
theorem held_id {a : Int} (h : B32 a) : held a = a := by unfold B32 at h; unfold held; omega
theorem mul_mono {a b c : Int} (h : a ≤ b) (hc : 0 ≤ c) : a * c / 65536 ≤ b * c / 65536 :=
  Int.ediv_le_ediv (by decide) (Int.mul_le_mul_of_nonneg_right h hc)
theorem sq_lt {a b : Int} (ha : 0 ≤ a) (h : a < b) : a * a < b * b := by
  have h1 : a * a ≤ a * b := Int.mul_le_mul_of_nonneg_left (Int.le_of_lt h) ha
  have h2 : a * b < b * b := Int.mul_lt_mul_of_pos_right h (by omega)
  omega
theorem sq_le {a b : Int} (ha : 0 ≤ a) (h : a ≤ b) : a * a ≤ b * b := Int.mul_le_mul h h ha (by omega)
theorem root_b {a : Int} (ha : B32 a) : 0 ≤ rootV a ∧ rootV a ≤ 33554431 := by
  by_cases h : 0 < a
  · have := root_spec h ha; omega
  · have : rootV a = 0 := by unfold rootV; rw [if_pos (by omega)]
    omega
theorem root_uniq {a r : Int} (h : 0 < a) (ha : B32 a) (hr : 0 ≤ r) (h1 : r * r ≤ a * 65536) (h2 : a * 65536 < (r + 1) * (r + 1)) : rootV a = r := by
  obtain ⟨s0, s1, s2, _⟩ := root_spec h ha
  rcases Int.lt_trichotomy (rootV a) r with hl | he | hg
  · have := sq_le (a := rootV a + 1) (b := r) (by omega) (by omega); omega
  · exact he
  · have := sq_le (a := r + 1) (b := rootV a) (by omega) (by omega); omega
theorem root_mono {a b : Int} (ha : B32 a) (hb : B32 b) (h : a ≤ b) : rootV a ≤ rootV b := by
  by_cases h0 : 0 < a
  · obtain ⟨s0, s1, s2, _⟩ := root_spec h0 ha
    obtain ⟨t0, t1, t2, _⟩ := root_spec (by omega : 0 < b) hb
    rcases Int.lt_or_le (rootV b) (rootV a) with hl | hl
    · have := sq_le (a := rootV b + 1) (b := rootV a) (by omega) (by omega)
      have : a * 65536 ≤ b * 65536 := by omega
      omega
    · exact hl
  · have : rootV a = 0 := by unfold rootV; rw [if_pos (by omega)]
    have := (root_b hb).1
    omega
theorem tdiv_same (a : Int) : (a * 65536).tdiv 65536 = a := Int.mul_tdiv_cancel a (by decide)
theorem tdiv_self' {b : Int} (h : b ≠ 0) : (b * 65536).tdiv b = 65536 := Int.mul_tdiv_cancel_left 65536 h
theorem rest_lt {n d : Int} (hd : d ≠ 0) : (n - n.tdiv d * d).natAbs < d.natAbs := by
  have h : n - n.tdiv d * d = n.tmod d := by rw [Int.tmod_def, Int.mul_comm]
  rw [h, Int.natAbs_tmod]
  exact Nat.mod_lt _ (by omega)
theorem held_mid {t : Int} (h1 : held t ≠ 2147483647) (h2 : held t ≠ -2147483648) : held t = t := by unfold held at *; omega
theorem whole_mul (a b : Int) : a * 65536 * (b * 65536) / 65536 = a * b * 65536 := by
  have : a * 65536 * (b * 65536) = (a * b * 65536) * 65536 := by
    simp only [Int.mul_assoc, Int.mul_comm, Int.mul_left_comm]
  rw [this, Int.mul_ediv_cancel _ (by decide)]
theorem whole_div {a b : Int} (hb : b ≠ 0) (h : a.tmod b = 0) : (a * 65536 * 65536).tdiv (b * 65536) = a.tdiv b * 65536 := by
  have h1 : a = b * a.tdiv b := by
    have := Int.tmod_def a b
    omega
  have h2 : a * 65536 * 65536 = (b * 65536) * (a.tdiv b * 65536) := by
    conv => lhs; rw [h1]
    simp only [Int.mul_assoc, Int.mul_comm, Int.mul_left_comm]
  rw [h2, Int.mul_tdiv_cancel_left _ (by omega)]
theorem ab_bound {a b : Int} (a1 : -100 ≤ a) (a2 : a ≤ 100) (b1 : -100 ≤ b) (b2 : b ≤ 100) : -10000 ≤ a * b ∧ a * b ≤ 10000 := by
  have h : (a * b).natAbs ≤ 100 * 100 := by
    rw [Int.natAbs_mul]; exact Nat.mul_le_mul (by omega) (by omega)
  omega
theorem whole_root {a : Int} (h0 : 0 ≤ a) (h1 : a ≤ 100) : rootV (a * a * 65536) = a * 65536 := by
  have hb := ab_bound (a := a) (b := a) (by omega) h1 (by omega) h1
  rcases Int.lt_or_eq_of_le h0 with h | h
  · have hp : 0 < a * a := Int.mul_pos h h
    refine root_uniq (by omega) (by unfold B32; omega) (by omega) ?_ ?_
    · have : a * 65536 * (a * 65536) = a * a * 65536 * 65536 := by simp only [Int.mul_assoc, Int.mul_comm, Int.mul_left_comm]
      omega
    · have : a * 65536 * (a * 65536) = a * a * 65536 * 65536 := by simp only [Int.mul_assoc, Int.mul_comm, Int.mul_left_comm]
      have h2 := sq_lt (a := a * 65536) (b := a * 65536 + 1) (by omega) (by omega)
      omega
  · subst h; rfl
end Go.Proofs.YtlanmghaflompaaDoor
