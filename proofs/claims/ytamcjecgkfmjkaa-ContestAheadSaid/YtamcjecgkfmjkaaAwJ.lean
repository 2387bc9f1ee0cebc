/- The logic: rules for signed numbers. -/
import Derived.Test.YtamcjecgkfmjkaaAwR
open Go Go.RowKit
namespace Go.Proofs.Ytamcjecgkfmjkaa
set_option linter.unusedSimpArgs false
variable {V' : V → Prop} {k k' : IntKind} {a b : Int}
@[go_sem] theorem wrap_i32 {n : Int} (h : -2147483648 ≤ n) (h' : n ≤ 2147483647) : IntKind.i32.wrap n = n := by
  simp [IntKind.wrap, IntKind.bits, IntKind.signed]; omega
@[go_sem] theorem wrap_u64' {n : Int} (h : 0 ≤ n) (h' : n ≤ 18446744073709551615) : IntKind.u64.wrap n = n := by
  simp [IntKind.wrap, IntKind.bits, IntKind.signed]; omega
@[go_sem ↓] theorem e_maxi : aMinMax true [V.int k a, V.int k b] V' = V' (.int k (max a b)) := by simp [aMinMax]
@[go_sem ↓] theorem e_mini : aMinMax false [V.int k a, V.int k b] V' = V' (.int k (min a b)) := by simp [aMinMax]
@[go_sem ↓] theorem e_neg : aUn .neg (V.int k a) V' = V' (.int k (k.wrap (0 - a))) := nr rfl
@[go_sem ↓ 1150] theorem e_shl16 : aInt .shl .i64 a k' 16 V' = V' (.int .i64 (IntKind.i64.wrap (a * 65536))) := by rw [e_shl (by decide)]; rfl
@[go_sem ↓ 1150] theorem e_shr16 : aInt .shr .i64 a k' 16 V' = V' (.int .i64 (a / 65536)) := by
  rw [e_shr (by decide)]
  have e : a.fdiv (2 ^ min (16 : Int).toNat IntKind.i64.bits) = a / 65536 := Int.fdiv_eq_ediv_of_nonneg a (by decide)
  rw [e]
@[go_sem ↓ 1150] theorem e_shr1 : aInt .shr .i64 a k' 1 V' = V' (.int .i64 (a / 2)) := by
  rw [e_shr (by decide)]
  have e : a.fdiv (2 ^ min (1 : Int).toNat IntKind.i64.bits) = a / 2 := Int.fdiv_eq_ediv_of_nonneg a (by decide)
  rw [e]
@[go_sem ↓ 1100] theorem e_shl_i (h0 : 0 ≤ b) (h1 : b ≤ 63) : aInt .shl .i64 a k' b V' = V' (.int .i64 (IntKind.i64.wrap (a * 2 ^ b.toNat))) := by
  rw [e_shl h0]
  have e : min b.toNat IntKind.i64.bits = b.toNat := by show min b.toNat 64 = _; omega
  rw [e]
theorem U64_int {n : Int} (h0 : 0 ≤ n) (h1 : n ≤ 18446744073709551615) : U64 (UInt64.ofNat n.toNat) = n := by
  unfold U64; rw [UInt64.toNat_ofNat']; omega
@[go_sem] theorem wrap_u64n {n : Int} (h : -18446744073709551616 ≤ n) (h' : n < 0) : IntKind.u64.wrap n = n + 18446744073709551616 := by
  simp [IntKind.wrap, IntKind.bits, IntKind.signed]; omega
theorem bits_u64 : IntKind.u64.bits = 64 := rfl
theorem bits_i64 : IntKind.i64.bits = 64 := rfl
@[go_sem ↓] theorem e_IA5 {xs : List D} {t n sz : Nat} {i : Int} (h0 : 0 ≤ i) (h1 : i < n) : aIA (some (some n, t, sz)) (.cell (.mem xs)) i V' = V' (.cell (.mem (xs.drop (i.toNat * sz)))) := by
  simp [aIA, h0, h1]
theorem e_slStr {P : Program} {t : TypeId} {s : ByteArray} (lo hi : Nat) (h1 : lo ≤ hi) (h2 : hi ≤ s.size) (ht : isStrT P t = true) (h : V' (.val (.string (s.extract lo hi)))) : aSlice P t (V.val (.string s)) (some (V.int k lo)) (some (V.int k' hi)) V' :=
  ⟨ht, lo, hi, rfl, rfl, by omega, by omega, by omega, by simpa using h⟩
@[go_sem ↓ 1100] theorem e_shr_u (h0 : 0 ≤ b) (h1 : b ≤ 63) : aInt .shr .u64 a k' b V' = V' (.int .u64 (a / 2 ^ b.toNat)) := by
  rw [e_shr h0]
  have e : min b.toNat IntKind.u64.bits = b.toNat := by show min b.toNat 64 = _; omega
  rw [e, Int.fdiv_eq_ediv_of_nonneg _ (Int.le_of_lt (Int.pow_pos (by decide)))]
theorem a_ixStr {P : Program} {t : TypeId} {s : ByteArray} (i : Nat) (c : UInt8) (ht : isStrT P t = true) (hb : s.data.toList[i]? = some c) (h : V' (.int .u8 (U8 c))) : aIndex P t (V.val (.string s)) (V.int k i) V' :=
  ⟨ht, by omega, c, by simpa using hb, h⟩
/-! ### parts of an array -/
def aSlP (q : Option (Option Nat × TypeId × Nat)) (i : Id) (off : Nat) (l : Int) (h : Option Int) (K : V → Prop) : Prop :=
  match q with
  | some (some n, _, sz) => 0 ≤ l ∧ l ≤ h.getD n ∧ h.getD n ≤ n ∧ K (.cell (.row i (if n = l.toNat then off else off + l.toNat * sz) ((h.getD n).toNat - l.toNat) (n - l.toNat)))
  | _ => False
section
variable {P : Program} {t : TypeId} {i : Id} {off : Nat} {q q' : Option (Option Nat × TypeId × Nat)} {l : Int} {h : Option Int}
@[congr] theorem cg_aSlP (h0 : q = q') : aSlP q i off l h V' = aSlP q' i off l h V' := by subst h0; rfl
@[go_sem ↓] theorem e_slP1 {n e sz : Nat} : aSlP (some (some n, e, sz)) i off l none V' = (0 ≤ l ∧ l ≤ n ∧ V' (.cell (.row i (if n = l.toNat then off else off + l.toNat * sz) (n - l.toNat) (n - l.toNat)))) := by
  simp [aSlP]
@[go_sem ↓] theorem e_slP2 {n e sz : Nat} {z : Int} : aSlP (some (some n, e, sz)) i off l (some z) V' = (0 ≤ l ∧ l ≤ z ∧ z ≤ n ∧ V' (.cell (.row i (if n = l.toNat then off else off + l.toNat * sz) (z.toNat - l.toNat) (n - l.toNat)))) := by
  simp [aSlP]
theorem slP_eq {lo hi : Option V} (hl : bnd 0 lo = some l) (hh : ∀ n : Int, bnd n hi = some (h.getD n)) : aSlice P t (.cell (.ptr i off)) lo hi V' = aSlP (idxT P t) i off l h V' := by
  unfold aSlP
  refine propext ⟨fun ⟨n, e, sz, h0, l', h', h1, h2, h3⟩ => ?_, fun H => ?_⟩
  · rw [h0]
    rw [hl] at h1
    rw [hh] at h2
    cases h1; cases h2
    exact h3
  · split at H
    · rename_i n e sz hq
      exact ⟨n, e, sz, hq, l, h.getD n, hl, hh n, H⟩
    · exact H.elim
@[go_sem ↓] theorem e_slPa {k : IntKind} : aSlice P t (.cell (.ptr i off)) (some (V.int k a)) none V' = aSlP (idxT P t) i off a none V' := slP_eq rfl (fun _ => rfl)
@[go_sem ↓] theorem e_slPb {k : IntKind} : aSlice P t (.cell (.ptr i off)) none (some (V.int k a)) V' = aSlP (idxT P t) i off 0 (some a) V' := slP_eq rfl (fun _ => rfl)
@[go_sem ↓] theorem e_slPc : aSlice P t (.cell (.ptr i off)) none none V' = aSlP (idxT P t) i off 0 none V' := slP_eq rfl (fun _ => rfl)
@[go_sem ↓] theorem e_slPd {k k' : IntKind} : aSlice P t (.cell (.ptr i off)) (some (V.int k a)) (some (V.int k' b)) V' = aSlP (idxT P t) i off a (some b) V' := slP_eq rfl (fun _ => rfl)
end
/-! ### strings -/
theorem mk_strB {l : List UInt8} : (ByteArray.mk l.toArray) = strB l := rfl
@[go_sem] theorem strB_size {l : List UInt8} : (strB l).size = l.length := by simp [strB, ByteArray.size]
theorem strB_app (a b : List UInt8) : strB a ++ strB b = strB (a ++ b) := by
  apply ByteArray.ext
  simp [strB]
@[go_sem ↓] theorem e_strAdd {a b : List UInt8} : aStr .add (strB a) (strB b) V' = (a.length + b.length ≤ 9223372036854775807 ∧ V' (.val (.string (strB (a ++ b))))) := by
  simp only [aStr, strB_app, strB_size]
@[go_sem ↓ 1100] theorem e_cstr' {l : List UInt8} : ofValue (.string ⟨l.toArray⟩) = V.val (.string (strB l)) := nr rfl
theorem U64n {n : Nat} (h1 : n < 18446744073709551616) : U64 (UInt64.ofNat n) = (n : Int) := by
  unfold U64; rw [UInt64.toNat_ofNat']; omega
def ori (a b : Int) : Int := IntKind.i64.wrap (BitVec.ofInt IntKind.i64.bits a ||| BitVec.ofInt IntKind.i64.bits b).toNat
@[go_sem ↓ 1150] theorem e_ori : aInt .or .i64 a .i64 b V' = V' (.int .i64 (ori a b)) := by rw [e_or]; rfl
theorem ori_nat {x y : Nat} (hx : x < 2 ^ 62) (hy : y < 2 ^ 62) : ori x y = ((x ||| y : Nat) : Int) := by
  unfold ori
  have e : ∀ z : Nat, z < 2 ^ 62 → (BitVec.ofInt IntKind.i64.bits z).toNat = z := fun z hz => by
    show (BitVec.ofInt 64 z).toNat = z
    rw [BitVec.toNat_ofInt]
    omega
  rw [BitVec.toNat_or, e x hx, e y hy]
  have : x ||| y < 2 ^ 62 := Nat.or_lt_two_pow hx hy
  exact wrap_i64 (by omega) (by omega)
/-- i32, told by its bounds -/
def B32 (a : Int) : Prop := -2147483648 ≤ a ∧ a ≤ 2147483647
theorem tdiv_bound {a b : Int} {m : Nat} (h1 : -(m : Int) ≤ a) (h2 : a ≤ m) : -(m : Int) ≤ a.tdiv b ∧ a.tdiv b ≤ m := by
  have h : (a.tdiv b).natAbs ≤ a.natAbs := by
    rw [Int.natAbs_tdiv]; exact Nat.div_le_self _ _
  omega
theorem mul_bound {a b : Int} (ha : B32 a) (hb : B32 b) : -4611686018427387904 ≤ a * b ∧ a * b ≤ 4611686018427387904 := by
  obtain ⟨a1, a2⟩ := ha
  obtain ⟨b1, b2⟩ := hb
  have h : (a * b).natAbs ≤ 2147483648 * 2147483648 := by
    rw [Int.natAbs_mul]; exact Nat.mul_le_mul (by omega) (by omega)
  omega
end Go.Proofs.Ytamcjecgkfmjkaa
