/- Numbers of both signs as digits of seven bits, in plain words. -/
import Derived.Test.YtamcjecgkfmjkaaAwJ
open Go Go.RowKit
namespace Go.Proofs.Ytamcjecgkfmjkaa
set_option linter.unusedSimpArgs false
set_option linter.unusedVariables false
theorem shr64_nat (a : UInt64) (k : Nat) : (shr64 a k).toNat = a.toNat / 2 ^ k := by
  have := a.toNat_lt
  unfold shr64
  rw [UInt64.toNat_ofNat', Nat.mod_eq_of_lt]
  exact Nat.lt_of_le_of_lt (Nat.div_le_self _ _) this
theorem shr64_shr64 (a : UInt64) (k m : Nat) : shr64 (shr64 a k) m = shr64 a (k + m) := by
  rw [← UInt64.toNat_inj, shr64_nat, shr64_nat, shr64_nat, Nat.div_div_eq_div_mul, Nat.pow_add]
theorem shr64_zero (a : UInt64) : shr64 a 0 = a := by rw [← UInt64.toNat_inj, shr64_nat]; simp
/-- a number in digits of seven bits, the lowest first -/
def num (a : UInt64) : List UInt8 := if 128 ≤ a.toNat then or8 (c64to8 a) (UInt8.ofNat 128) :: num (shr64 a 7) else [c64to8 a]
termination_by a.toNat
decreasing_by rw [shr64_nat]; omega
theorem num_more {a : UInt64} (h : 128 ≤ a.toNat) : num a = or8 (c64to8 a) (UInt8.ofNat 128) :: num (shr64 a 7) := by rw [num, if_pos h]
theorem num_last {a : UInt64} (h : ¬ 128 ≤ a.toNat) : num a = [c64to8 a] := by rw [num, if_neg h]
theorem num_len' : ∀ (k : Nat) (a : UInt64), a.toNat < 128 ^ (k + 1) → 1 ≤ (num a).length ∧ (num a).length ≤ k + 1
  | 0, a, h => by rw [num_last (by simp at h; omega)]; simp
  | k + 1, a, h => by
    by_cases h1 : 128 ≤ a.toNat
    · rw [num_more h1]
      have := num_len' k (shr64 a 7) (by rw [shr64_nat, Nat.pow_succ] at *; omega)
      simp; omega
    · rw [num_last h1]; simp
theorem num_len (a : UInt64) : 1 ≤ (num a).length ∧ (num a).length ≤ 10 := num_len' 9 a (by have := a.toNat_lt; omega)
/-- both signs -/
def zz (v : Int) : UInt64 := UInt64.ofNat (if 0 ≤ v then 2 * v else -2 * v - 1).toNat
theorem zz_nat {v : Int} (h1 : -9223372036854775808 ≤ v) (h2 : v ≤ 9223372036854775807) : ((zz v).toNat : Int) = if 0 ≤ v then 2 * v else -2 * v - 1 := by
  unfold zz
  rw [UInt64.toNat_ofNat']
  split <;> omega
def ofI (n : Int) : UInt64 := UInt64.ofNat (n % 18446744073709551616).toNat
theorem ofI_nat (n : Int) : ((ofI n).toNat : Int) = n % 18446744073709551616 := by
  unfold ofI
  rw [UInt64.toNat_ofNat']
  omega
theorem wrap_i64g (n : Int) : IntKind.i64.wrap n = (n + 9223372036854775808) % 18446744073709551616 - 9223372036854775808 := by
  simp [IntKind.wrap, IntKind.bits, IntKind.signed]; omega
section
variable {V' : V → Prop} {k k' : IntKind} {a b : Int}
@[go_sem ↓ 1050] theorem cv_i_64g (n : Int) : aCv (some .u64) n V' = V' (.int .u64 (U64 (ofI n))) := by
  have e : IntKind.u64.wrap n = U64 (ofI n) := by rw [wrap_u64_]; unfold U64; rw [ofI_nat]
  rw [← e]; rfl
@[go_sem ↓ 1150] theorem e_shl1 : aInt .shl .i64 a k' 1 V' = V' (.int .i64 (IntKind.i64.wrap (a * 2))) := by rw [e_shl (by decide)]; rfl
@[go_sem ↓ 1150] theorem e_shr63 : aInt .shr .i64 a k' 63 V' = V' (.int .i64 (a / 9223372036854775808)) := by
  rw [e_shr (by decide)]
  have e : a.fdiv (2 ^ min (63 : Int).toNat IntKind.i64.bits) = a / 9223372036854775808 := Int.fdiv_eq_ediv_of_nonneg a (by decide)
  rw [e]
def ofI8 (n : Int) : UInt8 := UInt8.ofNat (n % 256).toNat
theorem ofI8_nat (n : Int) : ((ofI8 n).toNat : Int) = n % 256 := by
  unfold ofI8
  rw [UInt8.toNat_ofNat']
  omega
@[go_sem ↓ 1050] theorem cv_i_8g (n : Int) : aCv (some .u8) n V' = V' (.int .u8 (U8 (ofI8 n))) := by
  have e : IntKind.u8.wrap n = U8 (ofI8 n) := by rw [wrap_u8_]; unfold U8; rw [ofI8_nat]
  rw [← e]; rfl
def ofI32 (n : Int) : UInt32 := UInt32.ofNat (n % 4294967296).toNat
theorem ofI32_nat (n : Int) : ((ofI32 n).toNat : Int) = n % 4294967296 := by
  unfold ofI32
  rw [UInt32.toNat_ofNat']
  omega
@[go_sem ↓ 1050] theorem cv_i_32g (n : Int) : aCv (some .u32) n V' = V' (.int .u32 (U32 (ofI32 n))) := by
  have e : IntKind.u32.wrap n = U32 (ofI32 n) := by rw [wrap_u32_]; unfold U32; rw [ofI32_nat]
  rw [← e]; rfl
def wI32 (x : UInt32) : Int := IntKind.i32.wrap (U32 x)
@[go_sem ↓ 1050] theorem cv_32_i32 (x : UInt32) : aCv (some .i32) (U32 x) V' = V' (.int .i32 (wI32 x)) := nr rfl
def wI (x : UInt64) : Int := IntKind.i64.wrap (U64 x)
@[go_sem ↓ 1200] theorem cv_64_i (x : UInt64) : aCv (some .i64) (U64 x) V' = V' (.int .i64 (wI x)) := nr rfl
def xori (a b : Int) : Int := IntKind.i64.wrap (BitVec.ofInt IntKind.i64.bits a ^^^ BitVec.ofInt IntKind.i64.bits b).toNat
@[go_sem ↓ 1150] theorem e_xori : aInt .xor .i64 a .i64 b V' = V' (.int .i64 (xori a b)) := by simp [aInt, xori]
end
theorem not64_nat (x : UInt64) : (xor64 x (ofI (-1))).toNat = 18446744073709551615 - x.toNat := by
  have e : ofI (-1) = 0 - 1 := by decide
  rw [e]
  have e1 : xor64 x (0 - 1) = ~~~ x := by
    unfold xor64
    rw [← UInt64.toBitVec_inj, UInt64.toBitVec_xor, UInt64.toBitVec_not, BitVec.xor_comm]; exact BitVec.allOnes_xor
  rw [e1, UInt64.toNat_not]
  rfl
theorem xor64_0 (x : UInt64) : xor64 x (ofI 0) = x := by
  have e : ofI 0 = 0 := by decide
  rw [e]; unfold xor64; simp
theorem zz_eq {v : Int} (h1 : -9223372036854775808 ≤ v) (h2 : v ≤ 9223372036854775807) : xor64 (ofI (IntKind.i64.wrap (v * 2))) (ofI (v / 9223372036854775808)) = zz v := by
  rw [← UInt64.toNat_inj, ← Int.ofNat_inj, zz_nat h1 h2]
  have e := ofI_nat (IntKind.i64.wrap (v * 2))
  rw [wrap_i64g] at e
  by_cases h : 0 ≤ v
  · have : v / 9223372036854775808 = 0 := by omega
    rw [this, xor64_0, wrap_i64g, if_pos h, e]; omega
  · have : v / 9223372036854775808 = -1 := by omega
    rw [this, not64_nat, wrap_i64g, if_neg h]
    omega
theorem mul2 (x : Int) : ((mul64 (UInt64.ofNat 2) (ofI x)).toNat : Int) = 2 * x % 18446744073709551616 := by
  unfold mul64
  rw [UInt64.toNat_mul]
  have := ofI_nat x
  have e : (UInt64.ofNat 2).toNat = 2 := by decide
  rw [e]
  omega
theorem zz_ref0 {v : Int} (h1 : 0 ≤ v) (h2 : v ≤ 9223372036854775807) : mul64 (UInt64.ofNat 2) (ofI v) = zz v := by
  rw [← UInt64.toNat_inj, ← Int.ofNat_inj, zz_nat (by omega) h2, mul2, if_pos h1]; omega
theorem zz_ref1 {v : Int} (h1 : -9223372036854775808 ≤ v) (h2 : v < 0) : add64 (mul64 (UInt64.ofNat 2) (ofI (IntKind.i64.wrap (0 - IntKind.i64.wrap (v + 1))))) (UInt64.ofNat 1) = zz v := by
  rw [← UInt64.toNat_inj, ← Int.ofNat_inj, zz_nat h1 (by omega), if_neg (by omega)]
  have := mul2 (IntKind.i64.wrap (0 - IntKind.i64.wrap (v + 1)))
  rw [wrap_i64g, wrap_i64g] at this
  unfold add64
  rw [UInt64.toNat_add]
  have e : (UInt64.ofNat 1).toNat = 1 := by decide
  rw [e, wrap_i64g, wrap_i64g]
  omega
theorem zz_ref1' {v : Int} (h1 : -9223372036854775808 ≤ v) (h2 : v < 0) : add64 (mul64 (UInt64.ofNat 2) (UInt64.ofNat (0 - (v + 1)).toNat)) (UInt64.ofNat 1) = zz v := by
  rw [← UInt64.toNat_inj, ← Int.ofNat_inj, zz_nat h1 (by omega), if_neg (by omega)]
  unfold add64 mul64
  have e : (UInt64.ofNat 1).toNat = 1 := by decide
  have e2 : (UInt64.ofNat 2).toNat = 2 := by decide
  rw [UInt64.toNat_add, UInt64.toNat_mul, e, e2, UInt64.toNat_ofNat']
  omega
theorem xori64 (a b : Int) : xori a b = IntKind.i64.wrap (((BitVec.ofInt 64 a ^^^ BitVec.ofInt 64 b).toNat : Nat) : Int) := rfl
theorem xori_0 {a : Int} (h1 : -9223372036854775808 ≤ a) (h2 : a ≤ 9223372036854775807) : xori a 0 = a := by
  rw [xori64]
  have e : BitVec.ofInt 64 a ^^^ BitVec.ofInt 64 0 = BitVec.ofInt 64 a := BitVec.xor_zero
  rw [e, BitVec.toNat_ofInt, wrap_i64g]
  omega
theorem xori_m1 {a : Int} (h1 : -9223372036854775808 ≤ a) (h2 : a ≤ 9223372036854775807) : xori a (-1) = -a - 1 := by
  rw [xori64]
  have e : BitVec.ofInt 64 a ^^^ BitVec.ofInt 64 (-1) = ~~~ (BitVec.ofInt 64 a) := by
    show BitVec.ofInt 64 a ^^^ BitVec.allOnes 64 = _
    rw [BitVec.xor_comm]; exact BitVec.allOnes_xor
  rw [e, BitVec.toNat_not, BitVec.toNat_ofInt, wrap_i64g]
  omega
theorem and1_nat (x : UInt64) : (and64 x (UInt64.ofNat 1)).toNat = x.toNat % 2 := by
  unfold and64
  rw [UInt64.toNat_and]
  have e : (UInt64.ofNat 1).toNat = 1 := by decide
  rw [e, Nat.and_one_is_mod]
theorem zz_back {v : Int} (h1 : -9223372036854775808 ≤ v) (h2 : v ≤ 9223372036854775807) : xori (wI (shr64 (zz v) 1)) (IntKind.i64.wrap (0 - wI (and64 (zz v) (UInt64.ofNat 1)))) = v := by
  have e := zz_nat h1 h2
  have es : wI (shr64 (zz v) 1) = if 0 ≤ v then v else -v - 1 := by
    unfold wI U64
    rw [shr64_nat, wrap_i64g]
    split at e <;> simp only [*, if_true, if_false] <;> omega
  have ea : wI (and64 (zz v) (UInt64.ofNat 1)) = if 0 ≤ v then 0 else 1 := by
    unfold wI U64
    rw [and1_nat, wrap_i64g]
    split at e <;> simp only [*, if_true, if_false] <;> omega
  rw [es, ea]
  by_cases h : 0 ≤ v
  · simp only [h, if_true]
    rw [show IntKind.i64.wrap (0 - 0) = 0 from rfl]
    exact xori_0 h1 h2
  · simp only [h, if_false]
    rw [show IntKind.i64.wrap (0 - 1) = -1 from rfl, xori_m1 (by omega) (by omega)]
    omega
/-! ### digits -/
theorem c64to8_nat (x : UInt64) : (c64to8 x).toNat = x.toNat % 256 := by
  unfold c64to8; simp
theorem c8to64_nat (x : UInt8) : (c8to64 x).toNat = x.toNat := by
  unfold c8to64; simp
theorem and127_nat (x : UInt8) : (and8 x (UInt8.ofNat 127)).toNat = x.toNat % 128 := by
  unfold and8
  rw [UInt8.toNat_and]
  have e : (UInt8.ofNat 127).toNat = 2 ^ 7 - 1 := by decide
  rw [e, Nat.and_two_pow_sub_one_eq_mod]
theorem or128_nat (x : UInt8) : (or8 x (UInt8.ofNat 128)).toNat = x.toNat % 128 + 128 := by
  have h : ∀ x : Fin 256, (UInt8.ofNat x.val ||| UInt8.ofNat 128).toNat = x.val % 128 + 128 := by decide +kernel
  have := h ⟨x.toNat, x.toNat_lt⟩
  simp only [UInt8.ofNat_toNat] at this
  unfold or8
  exact this
theorem and127_64 (x : UInt64) : (and64 x (UInt64.ofNat 127)).toNat = x.toNat % 128 := by
  unfold and64
  rw [UInt64.toNat_and]
  have e : (UInt64.ofNat 127).toNat = 2 ^ 7 - 1 := by decide
  rw [e, Nat.and_two_pow_sub_one_eq_mod]
theorem dig_ref (x : UInt64) : or8 (c64to8 (and64 x (UInt64.ofNat 127))) (UInt8.ofNat 128) = or8 (c64to8 x) (UInt8.ofNat 128) := by
  rw [← UInt8.toNat_inj, or128_nat, or128_nat, c64to8_nat, c64to8_nat, and127_64]
  omega
/-! ### common rules -/
section
variable {P : Program} {V' : V → Prop} {k : IntKind} {a : Int} {t : TypeId}
/-! ### an item of an array -/
def aIxA (P : Program) (q : Option (Option Nat × TypeId × Nat)) (cs : List C) (i : Int) (K : V → Prop) : Prop :=
  match q with
  | some (some n, e, sz) => 0 ≤ i ∧ i < n ∧ aPt (isAggT P e) sz cs (i.toNat * sz) K
  | _ => False
@[congr] theorem cg_aIxA {q q' : Option (Option Nat × TypeId × Nat)} {cs : List C} (h : q = q') : aIxA P q cs a V' = aIxA P q' cs a V' := by rw [h]
@[go_sem ↓] theorem e_ixA {cs : List C} : aIndex P t (.w (.agg cs)) (V.int k a) V' = aIxA P (idxT P t) cs a V' := by
  unfold aIndex aIxA
  simp only
  cases h : idxT P t with
  | none => simp
  | some q =>
    obtain ⟨l, e, sz⟩ := q
    cases l with
    | none => simp
    | some n => simp only [Option.some.injEq, Prod.mk.injEq]; exact propext ⟨fun ⟨_, _, _, ⟨h1, h2, h3⟩, h4⟩ => by subst h1; subst h2; subst h3; exact h4, fun h => ⟨_, _, _, ⟨rfl, rfl, rfl⟩, h⟩⟩
@[go_sem ↓] theorem e_ixA1 {cs : List C} {n e sz : Nat} (h0 : 0 ≤ a) (h1 : a < n) : aIxA P (some (some n, e, sz)) cs a V' = aPt (isAggT P e) sz cs (a.toNat * sz) V' := by simp [aIxA, h0, h1]
@[go_sem ↓] theorem e_ldbox {P : Program} {t : TypeId} {i : Id} {o : Nat} {s : St} {V' : V → Prop} : aLoadBox P t (.cell (.ptr i o)) s V' = ∃ cs, hget s.heap i = some cs ∧ ∃ sz, sizeT P t = some sz ∧ aPart P t sz cs o V' := by
  simp only [aLoadBox]
  exact propext ⟨fun ⟨a, b, h1, h2, h3⟩ => ⟨a, h1, b, h2, h3⟩, fun ⟨a, h1, b, h2, h3⟩ => ⟨a, b, h1, h2, h3⟩⟩
end
section
variable {P : Program} {t : TypeId} {a b : Bool} {V' : V → Prop}
@[go_sem ↓] theorem e_eqBo : aBin P .eql t (V.bool a) (V.bool b) V' = (isBoolT P t = true ∧ V' (.bool (a == b))) := nr rfl
@[go_sem ↓] theorem e_neBo : aBin P .neq t (V.bool a) (V.bool b) V' = (isBoolT P t = true ∧ V' (.bool (a != b))) := nr rfl
attribute [go_sem] bne_self_eq_false beq_self_eq_true Bool.not_true Bool.not_false
end
/-! ### copy -/
def aCp (q : Option (Option Nat × TypeId × Nat)) (i : Id) (off n : Nat) (x : V) (s : St) (K : V → St → Prop) : Prop :=
  match q with
  | some (none, _, 1) => ∃ cs, hget s.heap i = some cs ∧ aSrc 1 x s fun ys => off + min ys.length n ≤ cs.length ∧ K (.int .i64 (min ys.length n : Nat)) ⟨s.slots, hset s.heap i (spl cs off ((ys.take n).map D.toC))⟩
  | _ => False
section
variable {P : Program} {t : TypeId} {i : Id} {off n c : Nat} {x : V} {s : St} {K : V → St → Prop}
@[congr] theorem cg_aCp {q q' : Option (Option Nat × TypeId × Nat)} {s' : St} (h : q = q') (h2 : s = s') : aCp q i off n x s K = aCp q' i off n x s' K := by rw [h, h2]
@[go_sem ↓] theorem e_cpR : aCopy P t (.cell (.row i off n c)) x s K = aCp (idxT P t) i off n x s K := by
  unfold aCopy aCp
  simp only
  refine propext ⟨fun ⟨e, cs, h1, h2, h3⟩ => by rw [h1]; exact ⟨cs, h2, h3⟩, fun h => ?_⟩
  split at h
  · rename_i e hq
    obtain ⟨cs, h2, h3⟩ := h
    exact ⟨_, cs, hq, h2, h3⟩
  · exact h.elim
@[go_sem ↓] theorem e_srcR {sz : Nat} {J : List D → Prop} : aSrc sz (.cell (.row i off n c)) s J = ∃ cs, hget s.heap i = some cs ∧ off + n * sz ≤ cs.length ∧ ∃ ds, allD ((cs.drop off).take (n * sz)) = some ds ∧ J ds := by
  simp only [aSrc]
  exact propext ⟨fun ⟨cs, ds, h1, h2, h3, h4⟩ => ⟨cs, h1, h2, ds, h3, h4⟩, fun ⟨cs, h1, h2, ds, h3, h4⟩ => ⟨cs, ds, h1, h2, h3, h4⟩⟩
@[go_sem ↓] theorem e_cp1 {e : Nat} : aCp (some (none, e, 1)) i off n x s K = ∃ cs, hget s.heap i = some cs ∧ aSrc 1 x s fun ys => off + min ys.length n ≤ cs.length ∧ K (.int .i64 (min ys.length n : Nat)) ⟨s.slots, hset s.heap i (spl cs off ((ys.take n).map D.toC))⟩ := nr rfl
end
/-! ### digits -/
/-- what is read so far -/
def rdU (a : UInt64) (i : Nat) : UInt64 := UInt64.ofNat (a.toNat % 2 ^ (7 * i))
theorem rdU_0 (a : UInt64) : rdU a 0 = UInt64.ofNat 0 := by unfold rdU; simp [Nat.mod_one]
theorem rdU_step (a : UInt64) (i : Nat) (c : UInt8) (hi : i ≤ 9) (hc : c.toNat % 128 = a.toNat / 2 ^ (7 * i) % 128) : or64 (rdU a i) (shl64 (c8to64 (and8 c (UInt8.ofNat 127))) (7 * i)) = rdU a (i + 1) := by
  have ha := a.toNat_lt
  have hp : 0 < 2 ^ (7 * i) := Nat.two_pow_pos _
  have h1 : a.toNat % 2 ^ (7 * (i + 1)) = a.toNat % 2 ^ (7 * i) + 2 ^ (7 * i) * (a.toNat / 2 ^ (7 * i) % 128) := by
    rw [show 7 * (i + 1) = 7 * i + 7 by omega, Nat.pow_add, Nat.mod_mul]
  have h2 : a.toNat % 2 ^ (7 * (i + 1)) < 18446744073709551616 := Nat.lt_of_le_of_lt (Nat.mod_le _ _) ha
  have h3 : a.toNat % 2 ^ (7 * i) < 2 ^ (7 * i) := Nat.mod_lt _ hp
  rw [← UInt64.toNat_inj]
  unfold or64 rdU shl64
  rw [UInt64.toNat_or, UInt64.toNat_ofNat', UInt64.toNat_ofNat', UInt64.toNat_ofNat', c8to64_nat, and127_nat, hc]
  rw [Nat.mod_eq_of_lt (a := a.toNat % 2 ^ (7 * i)) (Nat.lt_of_le_of_lt (Nat.mod_le _ _) ha), Nat.mod_eq_of_lt h2, h1]
  rw [Nat.mod_eq_of_lt (a := _ * _) (by rw [Nat.mul_comm]; omega), Nat.mul_comm _ (2 ^ (7 * i)), Nat.or_comm, Nat.add_comm]
  exact (Nat.two_pow_add_eq_or_of_lt h3 _).symm
theorem rdU_all (a : UInt64) (i : Nat) (h : a.toNat < 2 ^ (7 * i)) : rdU a i = a := by
  unfold rdU
  rw [Nat.mod_eq_of_lt h, UInt64.ofNat_toNat]
end Go.Proofs.Ytamcjecgkfmjkaa
