/- Chapter 4, plain: a record of which one byte is another one. -/
import Derived.Test.YtfjcflmhboepmaaF4w
open Go Go.RowKit
namespace Go.Proofs.Ytfjcflmhboepmaa
set_option linter.unusedVariables false
set_option linter.unusedSimpArgs false
theorem bit_even {v : UInt32} (h : v.toNat % 2 = 0) : (crcBit v).toNat = v.toNat / 2 := by
  have h1 : and32 v 1 = 0 := by
    apply UInt32.toNat_inj.1
    unfold and32
    rw [UInt32.toNat_and]
    show v.toNat &&& 1 = 0
    rw [Nat.and_one_is_mod]; exact h
  unfold crcBit
  rw [h1]
  have h2 : and32 2197175160 (neg32 0) = 0 := by decide +kernel
  rw [h2]
  unfold xor32 shr32
  rw [UInt32.toNat_xor, UInt32.toNat_ofNat']
  have := v.toNat_lt
  show (v.toNat / 2 ^ 1) % 2 ^ 32 ^^^ 0 = _
  rw [Nat.xor_zero]
  omega
theorem bit_odd {v : UInt32} (h : v.toNat % 2 = 1) : (crcBit v).toNat = v.toNat / 2 ^^^ 2197175160 := by
  have h1 : and32 v 1 = 1 := by
    apply UInt32.toNat_inj.1
    unfold and32
    rw [UInt32.toNat_and]
    show v.toNat &&& 1 = 1
    rw [Nat.and_one_is_mod]; exact h
  unfold crcBit
  rw [h1]
  have h2 : and32 2197175160 (neg32 1) = 2197175160 := by decide +kernel
  rw [h2]
  unfold xor32 shr32
  rw [UInt32.toNat_xor, UInt32.toNat_ofNat']
  have := v.toNat_lt
  show (v.toNat / 2 ^ 1) % 2 ^ 32 ^^^ 2197175160 = _
  congr 1
  omega
theorem high_poly {a : Nat} (h : a < 2 ^ 31) : 2 ^ 31 ≤ a ^^^ 2197175160 := by
  have h1 : (a ^^^ 2197175160).testBit 31 = true := by
    rw [Nat.testBit_xor, Nat.testBit_lt_two_pow h]
    decide +kernel
  exact Nat.ge_two_pow_of_testBit h1
theorem xor_inj {a b c : Nat} (h : a ^^^ c = b ^^^ c) : a = b := by
  have := congrArg (· ^^^ c) h
  simpa [Nat.xor_assoc] using this
theorem crcBit_inj {a b : UInt32} (h : crcBit a = crcBit b) : a = b := by
  have ha := a.toNat_lt
  have hb := b.toNat_lt
  have hn := congrArg UInt32.toNat h
  apply UInt32.toNat_inj.1
  rcases Nat.mod_two_eq_zero_or_one a.toNat with h1 | h1 <;> rcases Nat.mod_two_eq_zero_or_one b.toNat with h2 | h2
  · rw [bit_even h1, bit_even h2] at hn; omega
  · rw [bit_even h1, bit_odd h2] at hn
    have := high_poly (a := b.toNat / 2) (by omega)
    omega
  · rw [bit_odd h1, bit_even h2] at hn
    have := high_poly (a := a.toNat / 2) (by omega)
    omega
  · rw [bit_odd h1, bit_odd h2] at hn
    have := xor_inj hn
    omega
theorem crcBits_inj {a b : UInt32} : ∀ {n : Nat}, crcBits n a = crcBits n b → a = b
  | 0, h => h
  | n + 1, h => crcBits_inj (n := n) (crcBit_inj h)
theorem xor32_inj {a b c : UInt32} (h : xor32 a c = xor32 b c) : a = b := by
  apply UInt32.toNat_inj.1
  have := congrArg UInt32.toNat h
  unfold xor32 at this
  rw [UInt32.toNat_xor, UInt32.toNat_xor] at this
  exact xor_inj this
theorem xor32_inj' {a b c : UInt32} (h : xor32 c a = xor32 c b) : a = b := by
  apply xor32_inj (c := c)
  unfold xor32 at h ⊢
  rwa [UInt32.xor_comm a, UInt32.xor_comm b]
theorem crcByte_inj {a b : UInt32} {c : UInt8} (h : crcByte a c = crcByte b c) : a = b := xor32_inj (crcBits_inj h)
theorem c8to32_inj {a b : UInt8} (h : c8to32 a = c8to32 b) : a = b := by
  apply UInt8.toNat_inj.1
  have := congrArg UInt32.toNat h
  unfold c8to32 at this
  rw [UInt32.toNat_ofNat', UInt32.toNat_ofNat'] at this
  have h1 := a.toNat_lt
  have h2 := b.toNat_lt
  omega
theorem crcByte_inj' {v : UInt32} {a b : UInt8} (h : crcByte v a = crcByte v b) : a = b := c8to32_inj (xor32_inj' (crcBits_inj h))
theorem crc_fold_inj {r : List UInt8} : ∀ {a b : UInt32}, r.foldl crcByte a = r.foldl crcByte b → a = b := by
  induction r with
  | nil => intro a b h; exact h
  | cons c r ih => intro a b h; exact crcByte_inj (ih h)
theorem not32_inj {a b : UInt32} (h : not32 a = not32 b) : a = b := by
  apply UInt32.toNat_inj.1
  have := congrArg (fun x => (~~~x : UInt32)) h
  unfold not32 at this
  simpa using congrArg UInt32.toNat this
theorem crc_set_ne {ys : List UInt8} {k : Nat} {x : UInt8} (hk : k < ys.length) (hx : x ≠ ys[k]) : crc (ys.set k x) ≠ crc ys := by
  intro h
  unfold crc at h
  have h := not32_inj h
  have e1 : ys.set k x = ys.take k ++ x :: ys.drop (k + 1) := List.set_eq_take_append_cons_drop .. |>.trans (by rw [if_pos hk])
  have e2 : ys = ys.take k ++ ys[k] :: ys.drop (k + 1) := by rw [← List.drop_eq_getElem_cons hk, List.take_append_drop]
  rw [e1] at h
  conv at h => rhs; rw [e2]
  rw [List.foldl_append, List.foldl_append, List.foldl_cons, List.foldl_cons] at h
  exact hx (crcByte_inj' (crc_fold_inj h))
theorem rdn_set_ne {ys : List UInt8} {k : Nat} {x : UInt8} (hl : 4 ≤ ys.length) (hk : k < 4) (hx : x ≠ ys[k]'(by omega)) : rdn (ys.set k x) 4 ≠ rdn ys 4 := by
  intro h
  have h1 := congrArg le4 h
  rw [le4_rdn (by simpa using hl), le4_rdn hl] at h1
  have h2 := congrArg (fun l => l[k]?) h1
  have hy : k < ys.length := by omega
  simp [List.getElem?_take, hk, List.getElem?_set, hy] at h2
  exact hx h2
theorem dec_inv {X p : List UInt8} {m : Nat} (h : dec X = .ok (p, m)) : rdn (X.drop 4) 4 = crc (X.take 4) ∧ 12 + (rdn X 4).toNat ≤ X.length ∧ rdn (X.drop (8 + (rdn X 4).toNat)) 4 = crc (X.take (8 + (rdn X 4).toNat)) ∧ m = 12 + (rdn X 4).toNat := by
  unfold dec at h
  split at h
  · cases h
  · split at h
    · cases h
    · rename_i h1
      split at h
      · cases h
      · split at h
        · cases h
        · split at h
          · cases h
          · rename_i h2 h3 h4
            cases h
            exact ⟨by simpa using h1, by omega, by simpa using h4, rfl⟩
theorem rdn_set_far {ys : List UInt8} {k : Nat} {x : UInt8} (hk : 4 ≤ k) : rdn (ys.set k x) 4 = rdn ys 4 := by
  have e : ∀ i, i < 4 → (ys.set k x).getD i 0 = ys.getD i 0 := fun i hi => by
    simp only [List.getD, List.getElem?_set]
    rw [if_neg (by omega)]
  rw [rdn4, rdn4, e 0 (by omega), e 1 (by omega), e 2 (by omega), e 3 (by omega)]
/-- P4.3 -/
theorem dec_turned (p more : List UInt8) (hp : p.length ≤ 65536) (k : Nat) (hk : k < (record p).length) (x : UInt8) (hx : x ≠ (record p)[k]) : ∃ e, dec ((record p).set k x ++ more) = .error e := by
  cases hd : dec ((record p).set k x ++ more) with
  | error e => exact ⟨e, rfl⟩
  | ok q =>
    exfalso
    obtain ⟨q, m⟩ := q
    have lr := record_len p
    have hy := dec_record p more hp
    have hX : (record p).set k x ++ more = (record p ++ more).set k x := by rw [List.set_append_left _ _ hk]
    generalize hY : record p ++ more = Y at hy hX
    have hxY : x ≠ Y[k]'(by rw [← hY]; simp; omega) := by
      subst hY
      rw [List.getElem_append_left hk]; exact hx
    have lY : 12 + p.length ≤ Y.length := by rw [← hY]; simp; omega
    rw [hX] at hd
    obtain ⟨a1, a2, a3, _⟩ := dec_inv hd
    obtain ⟨b1, b2, b3, b4⟩ := dec_inv hy
    have hn : (rdn Y 4).toNat = p.length := by omega
    rw [hn] at b3
    by_cases k4 : k < 4
    · rw [List.take_set, List.drop_set, if_pos k4, b1] at a1
      exact crc_set_ne (by simp; omega) (by simpa using hxY) a1.symm
    · by_cases k8 : k < 8
      · rw [List.take_set_of_le (by omega), List.drop_set, if_neg k4, ← b1] at a1
        exact rdn_set_ne (by simp; omega) (by omega) (by simpa [show 4 + (k - 4) = k by omega] using hxY) a1
      · rw [rdn_set_far (by omega), hn] at a3
        by_cases kn : k < 8 + p.length
        · rw [List.take_set, List.drop_set, if_pos kn, b3] at a3
          exact crc_set_ne (by simp; omega) (by simpa using hxY) a3.symm
        · rw [List.take_set_of_le (by omega), List.drop_set, if_neg kn, ← b3] at a3
          exact rdn_set_ne (by simp; omega) (by omega) (by simpa [show 8 + p.length + (k - (8 + p.length)) = k by omega] using hxY) a3
theorem xor8_ne {a b : UInt8} (h : b ≠ 0) : xor8 a b ≠ a := by
  intro e
  have := congrArg (fun x => a ^^^ x) e
  unfold xor8 at this
  simp [← UInt8.xor_assoc] at this
  exact h this
end Go.Proofs.Ytfjcflmhboepmaa
