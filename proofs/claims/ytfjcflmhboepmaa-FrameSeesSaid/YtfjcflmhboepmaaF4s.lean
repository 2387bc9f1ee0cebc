/- Chapter 4, plain: records one behind the other. -/
import Derived.Test.YtfjcflmhboepmaaF4i
import Derived.Test.YtfjcflmhboepmaaAwR
open Go Go.RowKit
namespace Go.Proofs.Ytfjcflmhboepmaa
set_option linter.unusedVariables false
theorem dec_ok {b p : List UInt8} {n : Nat} (h : dec b = .ok (p, n)) : 12 ≤ n ∧ n ≤ b.length ∧ p.length + 12 = n ∧ p.length ≤ 65536 := by
  unfold dec at h
  split at h
  · cases h
  · split at h
    · cases h
    · split at h
      · cases h
      · split at h
        · cases h
        · split at h
          · cases h
          · cases h
            simp
            omega
theorem dec_err {b : List UInt8} {e : Nat} (h : dec b = .error e) : 0 < e := by
  unfold dec at h
  split at h
  · cases h; decide
  · split at h
    · cases h; decide
    · split at h
      · cases h; decide
      · split at h
        · cases h; decide
        · split at h
          · cases h; decide
          · cases h
/-- all records from the beginning on, and where they end -/
def scan (b : List UInt8) : List (List UInt8) × Nat :=
  match h : dec b with
  | .error _ => ([], 0)
  | .ok (p, n) => (p :: (scan (b.drop n)).1, n + (scan (b.drop n)).2)
termination_by b.length
decreasing_by all_goals (have := dec_ok h; simp; omega)
theorem scan_err {b : List UInt8} {e : Nat} (h : dec b = .error e) : scan b = ([], 0) := by
  rw [scan]
  split
  · rfl
  · rename_i p n h'; rw [h] at h'; cases h'
theorem scan_ok {b p : List UInt8} {n : Nat} (h : dec b = .ok (p, n)) : scan b = (p :: (scan (b.drop n)).1, n + (scan (b.drop n)).2) := by
  rw [scan]
  split
  · rename_i h'; rw [h] at h'; cases h'
  · rename_i p' n' h'; rw [h] at h'; cases h'; rfl
theorem scan_nil : scan [] = ([], 0) := scan_err (e := 2) rfl
theorem scan_le (b : List UInt8) : (scan b).2 ≤ b.length ∧ 12 * (scan b).1.length ≤ (scan b).2 ∧ ∀ p ∈ (scan b).1, p.length ≤ 65536 := by
  induction hb : b.length using Nat.strongRecOn generalizing b with
  | _ k ih =>
    cases h : dec b with
    | error e => rw [scan_err h]; simp
    | ok q =>
      obtain ⟨p, n⟩ := q
      have hd := dec_ok h
      have := ih (b.drop n).length (by simp; omega) (b.drop n) rfl
      rw [scan_ok h]
      simp only [List.length_drop] at this
      simp only [List.length_cons, List.mem_cons]
      refine ⟨by omega, by omega, ?_⟩
      rintro q (rfl | hq)
      · exact hd.2.2.2
      · exact this.2.2 q hq
/-- rows, written one behind the other -/
def recs (l : List (List UInt8)) : List UInt8 := (l.map record).flatten
theorem recs_snoc (l : List (List UInt8)) (p : List UInt8) : recs (l ++ [p]) = recs l ++ record p := by simp [recs]
theorem record_len (p : List UInt8) : (record p).length = 12 + p.length := by simp [record, head_len, le4_len]; omega
theorem recs_len (l : List (List UInt8)) : 12 * l.length ≤ (recs l).length := by
  induction l with
  | nil => simp [recs]
  | cons p l ih => simp [recs, record_len] at ih ⊢; omega
theorem scan_recs (l : List (List UInt8)) (junk : List UInt8) (hl : ∀ p ∈ l, p.length ≤ 65536) : scan (recs l ++ junk) = (l ++ (scan junk).1, (recs l).length + (scan junk).2) := by
  induction l with
  | nil => simp [recs]
  | cons p l ih =>
    have e : recs (p :: l) ++ junk = record p ++ (recs l ++ junk) := by simp [recs]
    have hd := dec_record p (recs l ++ junk) (hl p (by simp))
    rw [e, scan_ok hd]
    have e2 : (record p ++ (recs l ++ junk)).drop (12 + p.length) = recs l ++ junk := by
      rw [← record_len, List.drop_left]
    rw [e2, ih (fun q hq => hl q (by simp [hq]))]
    have : (recs (p :: l)).length = 12 + p.length + (recs l).length := by simp [recs, record_len]
    simp [this]; omega
end Go.Proofs.Ytfjcflmhboepmaa
