/- Chapter 4, plain: a record is read as it was laid. -/
import Derived.Test.YtfjcflmhboepmaaF4f
open Go Go.RowKit
namespace Go.Proofs.Ytfjcflmhboepmaa
theorem rdn_of {p : List UInt8} {v : UInt32} {r : List UInt8} (h : p = le4 v ++ r) : rdn p 4 = v := by
  apply le4_inj
  rw [le4_rdn (by rw [h]; simp [le4_len]), h, List.take_append_of_le_length (by simp [le4_len])]
  rfl
theorem dec_record (p more : List UInt8) (hp : p.length ≤ 65536) : dec (record p ++ more) = .ok (p, 12 + p.length) := by
  have hb : (record p ++ more).length = 12 + p.length + more.length := by
    simp [record, head_len, le4_len]; omega
  have e0 : rdn (record p ++ more) 4 = UInt32.ofNat p.length := rdn_of (r := le4 (crc (le4 (UInt32.ofNat p.length))) ++ p ++ le4 (crc (head p.length ++ p)) ++ more) (by simp [record, head])
  have e1 : (UInt32.ofNat p.length).toNat = p.length := by rw [UInt32.toNat_ofNat']; omega
  have t4 : (record p ++ more).take 4 = le4 (UInt32.ofNat p.length) := by
    simp only [record, head, List.append_assoc]
    exact List.take_left' rfl
  have d4 : rdn ((record p ++ more).drop 4) 4 = crc (le4 (UInt32.ofNat p.length)) := rdn_of (r := p ++ le4 (crc (head p.length ++ p)) ++ more) (by
    simp only [record, head, List.append_assoc]
    exact List.drop_left' rfl)
  have t8 : (record p ++ more).take (8 + p.length) = head p.length ++ p := by
    simp only [record, List.append_assoc]
    rw [← List.append_assoc]
    exact List.take_left' (by simp [head_len])
  have d8 : rdn ((record p ++ more).drop (8 + p.length)) 4 = crc (head p.length ++ p) := rdn_of (r := more) (by
    simp only [record, List.append_assoc]
    rw [← List.append_assoc]
    exact List.drop_left' (by simp [head_len]))
  unfold dec
  rw [e0, e1, if_neg (by omega), if_neg (by rw [d4, t4]; simp), if_neg (by omega), if_neg (by omega), if_neg (by rw [d8, t8]; simp), t8]
  congr 2
end Go.Proofs.Ytfjcflmhboepmaa
