/- Chapter 4, plain: numbers of four bytes. -/
import Derived.Test.YtfjcflmhboepmaaF4d
open Go Go.RowKit
namespace Go.Proofs.Ytfjcflmhboepmaa
theorem or_low {a b k : Nat} (h : a < 2 ^ k) : a ||| (b * 2 ^ k) = a + b * 2 ^ k := by
  have := Nat.two_pow_add_eq_or_of_lt h b
  rw [Nat.or_comm, Nat.mul_comm b, ← this]; omega
theorem rd4_toNat (p : List UInt8) : (rdn p 4).toNat = (p.getD 0 0).toNat + (p.getD 1 0).toNat * 256 + (p.getD 2 0).toNat * 65536 + (p.getD 3 0).toNat * 16777216 := by
  rw [rdn4]
  generalize p.getD 0 0 = a
  generalize p.getD 1 0 = b
  generalize p.getD 2 0 = c
  generalize p.getD 3 0 = d
  have ha := a.toNat_lt
  have hb := b.toNat_lt
  have hc := c.toNat_lt
  have hd := d.toNat_lt
  have e0 : ∀ x : UInt8, (c8to32 x).toNat = x.toNat := fun x => by
    have := x.toNat_lt
    unfold c8to32; rw [UInt32.toNat_ofNat']; omega
  have e1 : ∀ (x : UInt8) (k : Nat), k ≤ 24 → (shl32 (c8to32 x) k).toNat = x.toNat * 2 ^ k := fun x k hk => by
    have := x.toNat_lt
    unfold shl32; rw [UInt32.toNat_ofNat', e0]
    have : 2 ^ k ≤ 2 ^ 24 := Nat.pow_le_pow_right (by omega) hk
    have : x.toNat * 2 ^ k ≤ 255 * 2 ^ 24 := Nat.mul_le_mul (by omega) this
    omega
  have eo : ∀ x y : UInt32, (or32 x y).toNat = x.toNat ||| y.toNat := fun x y => by unfold or32; exact UInt32.toNat_or x y
  rw [eo, eo, eo, e0, e1 b 8 (by omega), e1 c 16 (by omega), e1 d 24 (by omega)]
  rw [or_low (k := 8) (by omega), or_low (k := 16) (by omega), or_low (k := 24) (by omega)]
theorem le4_toNat (v : UInt32) : le4 v = [UInt8.ofNat v.toNat, UInt8.ofNat (v.toNat / 256), UInt8.ofNat (v.toNat / 65536), UInt8.ofNat (v.toNat / 16777216)] := by
  have e : ∀ k, (shr32 v k).toNat = v.toNat / 2 ^ k := fun k => by
    have := v.toNat_lt
    unfold shr32; rw [UInt32.toNat_ofNat', Nat.mod_eq_of_lt]
    exact Nat.lt_of_le_of_lt (Nat.div_le_self _ _) this
  unfold le4 c32to8
  rw [e, e, e]
theorem four_eq {p : List UInt8} (h : 4 ≤ p.length) : p.take 4 = [p.getD 0 0, p.getD 1 0, p.getD 2 0, p.getD 3 0] := by
  match p, h with
  | a :: b :: c :: d :: l, _ => rfl
theorem le4_rdn {p : List UInt8} (h : 4 ≤ p.length) : le4 (rdn p 4) = p.take 4 := by
  rw [four_eq h, le4_toNat, rd4_toNat]
  generalize p.getD 0 0 = a
  generalize p.getD 1 0 = b
  generalize p.getD 2 0 = c
  generalize p.getD 3 0 = d
  have ha := a.toNat_lt
  have hb := b.toNat_lt
  have hc := c.toNat_lt
  have hd := d.toNat_lt
  have key : ∀ (n : Nat) (x : UInt8), n % 256 = x.toNat → UInt8.ofNat n = x := fun n x h => UInt8.toNat_inj.1 (by rw [UInt8.toNat_ofNat']; exact h)
  rw [key _ a (by omega), key _ b (by omega), key _ c (by omega), key _ d (by omega)]
theorem le4_inj {v w : UInt32} (h : le4 v = le4 w) : v = w := by
  rw [le4_toNat, le4_toNat] at h
  have key : ∀ m n : Nat, UInt8.ofNat m = UInt8.ofNat n → m % 256 = n % 256 := fun m n h => by
    have := congrArg UInt8.toNat h
    rwa [UInt8.toNat_ofNat', UInt8.toNat_ofNat'] at this
  simp only [List.cons.injEq, and_true] at h
  obtain ⟨h0, h1, h2, h3⟩ := h
  have := v.toNat_lt
  have := w.toNat_lt
  have := key _ _ h0
  have := key _ _ h1
  have := key _ _ h2
  have := key _ _ h3
  exact UInt32.toNat_inj.1 (by omega)
/-- the head stands -/
theorem head_iff {p : List UInt8} (h : 8 ≤ p.length) : p.take 8 = head (rdn p 4).toNat ↔ rdn (p.drop 4) 4 = crc (p.take 4) := by
  unfold head
  have e : UInt32.ofNat (rdn p 4).toNat = rdn p 4 := UInt32.toNat_inj.1 (by rw [UInt32.toNat_ofNat']; have := (rdn p 4).toNat_lt; omega)
  rw [e, le4_rdn (by omega)]
  have e2 : p.take 8 = p.take 4 ++ (p.drop 4).take 4 := by rw [List.take_add (i := 4) (j := 4)]
  rw [e2, List.append_cancel_left_eq, ← le4_rdn (p := p.drop 4) (by simp; omega)]
  exact ⟨fun h => le4_inj h, fun h => by rw [h]⟩
end Go.Proofs.Ytfjcflmhboepmaa
