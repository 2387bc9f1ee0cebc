/- Chapter 4, plain: records that are cut short. -/
import Derived.Test.YtfjcflmhboepmaaF4t
open Go Go.RowKit
namespace Go.Proofs.Ytfjcflmhboepmaa
set_option linter.unusedVariables false
theorem dec_cut (p : List UInt8) (j : Nat) (hp : p.length ≤ 65536) (h : j < 12 + p.length) : dec ((record p).take j) = .error 2 := by
  have hb : ((record p).take j).length = j := by rw [List.length_take, record_len]; omega
  by_cases h8 : j < 8
  · unfold dec; rw [if_pos (by omega)]
  have e0 : rdn ((record p).take j) 4 = UInt32.ofNat p.length := by
    rw [rdn_take (by omega)]
    exact rdn_of (r := le4 (crc (le4 (UInt32.ofNat p.length))) ++ p ++ le4 (crc (head p.length ++ p))) (by simp [record, head])
  have e1 : (UInt32.ofNat p.length).toNat = p.length := by rw [UInt32.toNat_ofNat']; omega
  have t4 : ((record p).take j).take 4 = le4 (UInt32.ofNat p.length) := by
    rw [List.take_take, Nat.min_eq_left (by omega)]
    simp only [record, head, List.append_assoc]
    exact List.take_left' rfl
  have d4 : rdn (((record p).take j).drop 4) 4 = crc (le4 (UInt32.ofNat p.length)) := by
    rw [List.drop_take, rdn_take (by omega)]
    exact rdn_of (r := p ++ le4 (crc (head p.length ++ p))) (by
      simp only [record, head, List.append_assoc]
      exact List.drop_left' rfl)
  unfold dec
  rw [e0, e1, if_neg (by omega), if_neg (by rw [d4, t4]; simp), if_neg (by omega), if_pos (by omega)]
theorem recs_cons (p : List UInt8) (l : List (List UInt8)) : recs (p :: l) = record p ++ recs l := rfl
theorem recs_append (l m : List (List UInt8)) : recs (l ++ m) = recs l ++ recs m := by simp [recs]
/-- what is told of records that are cut short behind 'k' bytes, where the first 'n' are whole and the next is not -/
theorem scan_cut (l : List (List UInt8)) (n k : Nat) (hl : ∀ p ∈ l, p.length ≤ 65536) (hn : n ≤ l.length) (hk : k ≤ (recs l).length) (h1 : (recs (l.take n)).length ≤ k) (h2 : n < l.length → k < (recs (l.take (n + 1))).length) :
    scan ((recs l).take k) = (l.take n, (recs (l.take n)).length) := by
  have e : recs l = recs (l.take n) ++ recs (l.drop n) := by rw [← recs_append, List.take_append_drop]
  have e2 : (recs l).take k = recs (l.take n) ++ (recs (l.drop n)).take (k - (recs (l.take n)).length) := by
    rw [e, List.take_append, List.take_of_length_le h1]
  have hs := scan_recs (l.take n) ((recs (l.drop n)).take (k - (recs (l.take n)).length)) (fun p hp => hl p (List.mem_of_mem_take hp))
  have hz : scan ((recs (l.drop n)).take (k - (recs (l.take n)).length)) = ([], 0) := by
    rcases Nat.lt_or_ge n l.length with hlt | hge
    · have hd : l.drop n = l[n] :: l.drop (n + 1) := List.drop_eq_getElem_cons hlt
      have h3 := h2 hlt
      rw [List.take_succ_eq_append_getElem hlt, recs_snoc, List.length_append, record_len] at h3
      have e3 : recs (l.drop n) = record l[n] ++ recs (l.drop (n + 1)) := by rw [hd, recs_cons]
      rw [e3, List.take_append_of_le_length (by rw [record_len]; omega)]
      exact scan_err (dec_cut _ _ (hl _ (List.getElem_mem hlt)) (by omega))
    · rw [List.drop_eq_nil_of_le hge]
      simp [recs, scan_nil]
  rw [e2, hs, hz]
  simp
/-- where the records end -/
def ends (l : List (List UInt8)) (k : Nat) : List Int := (List.range k).map fun j => ((recs (l.take (j + 1))).length : Int)
theorem ends_len (l : List (List UInt8)) (k : Nat) : (ends l k).length = k := by simp [ends]
theorem ends_snoc (l : List (List UInt8)) (k : Nat) : ends l k ++ [((recs (l.take (k + 1))).length : Int)] = ends l (k + 1) := by simp [ends, List.range_succ]
theorem ends_get (l : List (List UInt8)) {k j : Nat} (h : j < k) : (ends l k).getD j 0 = ((recs (l.take (j + 1))).length : Int) := by simp [ends, h]
end Go.Proofs.Ytfjcflmhboepmaa
