/- Common words: machine integers behind opaque names, rules of the walk for them, rows of cells in memory. -/
import Derived.WalkKit
import Derived.Deep.QuietTactic
import Derived.BigQuiet
import Derived.Outline
import Derived.Maps.AppendAt
import Derived.Deep.AppendLies
import Derived.Deep.Draws
import Derived.StillTailTactics
import Derived.KernelRfl
open Go Go.RowKit
namespace Go.Proofs.Ytamcjecgkfmjkaa

theorem hide {p : Prop} (h : p) : Hid p := h

/-! ### integers -/

def U8 (v : UInt8) : Int := v.toNat
theorem U8_lo (v : UInt8) : 0 ≤ U8 v := by unfold U8; omega
theorem U8_hi (v : UInt8) : U8 v < 256 := by unfold U8; have := v.toNat_lt; omega
@[go_sem] theorem U8_eq (v : UInt8) : (v.toNat : Int) = U8 v := rfl
theorem U8_inj {a b : UInt8} : U8 a = U8 b ↔ a = b := by
  unfold U8; rw [Int.ofNat_inj]; exact UInt8.toNat_inj
theorem U8_toNat (v : UInt8) : (U8 v).toNat = v.toNat := rfl
theorem wrap_u8_ (n : Int) : IntKind.u8.wrap n = n % 256 := by simp [IntKind.wrap, IntKind.bits, IntKind.signed]
def add8 (a b : UInt8) : UInt8 := a + b
def sub8 (a b : UInt8) : UInt8 := a - b
def mul8 (a b : UInt8) : UInt8 := a * b
def neg8 (a : UInt8) : UInt8 := 0 - a
def and8 (a b : UInt8) : UInt8 := a &&& b
def or8 (a b : UInt8) : UInt8 := a ||| b
def xor8 (a b : UInt8) : UInt8 := a ^^^ b
def not8 (a : UInt8) : UInt8 := ~~~ a
def shl8 (a : UInt8) (k : Nat) : UInt8 := UInt8.ofNat (a.toNat * 2 ^ k)
def shr8 (a : UInt8) (k : Nat) : UInt8 := UInt8.ofNat (a.toNat / 2 ^ k)
theorem U8_ofNat (k : Nat) : U8 (UInt8.ofNat k) = ((k % 256 : Nat) : Int) := by unfold U8; rw [UInt8.toNat_ofNat']
theorem U8_lit (k : Nat) (h : k < 256) : U8 (UInt8.ofNat k) = (k : Int) := by rw [U8_ofNat, Nat.mod_eq_of_lt h]
@[go_sem 11000] theorem u8_add_ (a b : UInt8) : Op.intArith .add .u8 (U8 a) (U8 b) = pure (.int .u8 (U8 (add8 a b))) := by
  simp only [Op.intArith]; refine congrArg (fun z : Int => (pure (Value.int .u8 z) : Sem Value)) ?_; unfold U8 add8; rw [wrap_u8_, UInt8.toNat_add]; omega
@[go_sem 11000] theorem u8_sub_ (a b : UInt8) : Op.intArith .sub .u8 (U8 a) (U8 b) = pure (.int .u8 (U8 (sub8 a b))) := by
  simp only [Op.intArith]; refine congrArg (fun z : Int => (pure (Value.int .u8 z) : Sem Value)) ?_; unfold U8 sub8; rw [wrap_u8_, UInt8.toNat_sub]; have := a.toNat_lt; have := b.toNat_lt; omega
@[go_sem 11000] theorem u8_mul_ (a b : UInt8) : Op.intArith .mul .u8 (U8 a) (U8 b) = pure (.int .u8 (U8 (mul8 a b))) := by
  simp only [Op.intArith]; refine congrArg (fun z : Int => (pure (Value.int .u8 z) : Sem Value)) ?_; unfold U8 mul8; rw [wrap_u8_, UInt8.toNat_mul, ← Int.natCast_mul]; omega
@[go_sem high] theorem u8_neg_ (a : UInt8) : Op.unary .neg (.int .u8 (U8 a)) = pure (.int .u8 (U8 (neg8 a))) := by
  simp only [Op.unary, Op.intArith]; refine congrArg (fun z : Int => (pure (Value.int .u8 z) : Sem Value)) ?_; unfold U8 neg8; rw [wrap_u8_, UInt8.toNat_sub]; have := a.toNat_lt; simp; omega
theorem ofInt_U8 (a : UInt8) : BitVec.ofInt 8 (U8 a) = a.toBitVec := by
  unfold U8; rw [BitVec.ofInt_natCast]; exact BitVec.ofNat_toNat _ _ |>.trans (by simp)
@[go_sem 11000] theorem u8_and_ (a b : UInt8) : Op.intBits .and .u8 (U8 a) (U8 b) = pure (.int .u8 (U8 (and8 a b))) := by
  simp only [Op.intBits]; refine congrArg (fun z : Int => (pure (Value.int .u8 z) : Sem Value)) ?_
  show IntKind.u8.wrap ((BitVec.ofInt 8 (U8 a) &&& BitVec.ofInt 8 (U8 b)).toNat : Int) = _
  rw [ofInt_U8, ofInt_U8, wrap_u8_]; unfold U8 and8; rw [← UInt8.toBitVec_and]; have := (a &&& b).toNat_lt; show ((a &&& b).toNat : Int) % _ = _; omega
@[go_sem 11000] theorem u8_or_ (a b : UInt8) : Op.intBits .or .u8 (U8 a) (U8 b) = pure (.int .u8 (U8 (or8 a b))) := by
  simp only [Op.intBits]; refine congrArg (fun z : Int => (pure (Value.int .u8 z) : Sem Value)) ?_
  show IntKind.u8.wrap ((BitVec.ofInt 8 (U8 a) ||| BitVec.ofInt 8 (U8 b)).toNat : Int) = _
  rw [ofInt_U8, ofInt_U8, wrap_u8_]; unfold U8 or8; rw [← UInt8.toBitVec_or]; have := (a ||| b).toNat_lt; show ((a ||| b).toNat : Int) % _ = _; omega
@[go_sem 11000] theorem u8_xor_ (a b : UInt8) : Op.intBits .xor .u8 (U8 a) (U8 b) = pure (.int .u8 (U8 (xor8 a b))) := by
  simp only [Op.intBits]; refine congrArg (fun z : Int => (pure (Value.int .u8 z) : Sem Value)) ?_
  show IntKind.u8.wrap ((BitVec.ofInt 8 (U8 a) ^^^ BitVec.ofInt 8 (U8 b)).toNat : Int) = _
  rw [ofInt_U8, ofInt_U8, wrap_u8_]; unfold U8 xor8; rw [← UInt8.toBitVec_xor]; have := (a ^^^ b).toNat_lt; show ((a ^^^ b).toNat : Int) % _ = _; omega
theorem u8_of (k : Int) (h0 : 0 ≤ k) (h1 : k < 256) : k = U8 (UInt8.ofNat k.toNat) := by rw [U8_lit _ (by omega)]; omega
@[go_sem high] theorem u8_and_l (k : Int) (b : UInt8) (h0 : 0 ≤ k) (h1 : k < 256) : Op.intBits .and .u8 k (U8 b) = pure (.int .u8 (U8 (and8 (UInt8.ofNat k.toNat) b))) := by
  rw [← u8_and_, ← u8_of k h0 h1]
@[go_sem high] theorem u8_and_r (k : Int) (b : UInt8) (h0 : 0 ≤ k) (h1 : k < 256) : Op.intBits .and .u8 (U8 b) k = pure (.int .u8 (U8 (and8 b (UInt8.ofNat k.toNat)))) := by
  rw [← u8_and_, ← u8_of k h0 h1]
@[go_sem high] theorem u8_or_l (k : Int) (b : UInt8) (h0 : 0 ≤ k) (h1 : k < 256) : Op.intBits .or .u8 k (U8 b) = pure (.int .u8 (U8 (or8 (UInt8.ofNat k.toNat) b))) := by
  rw [← u8_or_, ← u8_of k h0 h1]
@[go_sem high] theorem u8_or_r (k : Int) (b : UInt8) (h0 : 0 ≤ k) (h1 : k < 256) : Op.intBits .or .u8 (U8 b) k = pure (.int .u8 (U8 (or8 b (UInt8.ofNat k.toNat)))) := by
  rw [← u8_or_, ← u8_of k h0 h1]
@[go_sem high] theorem u8_xor_l (k : Int) (b : UInt8) (h0 : 0 ≤ k) (h1 : k < 256) : Op.intBits .xor .u8 k (U8 b) = pure (.int .u8 (U8 (xor8 (UInt8.ofNat k.toNat) b))) := by
  rw [← u8_xor_, ← u8_of k h0 h1]
@[go_sem high] theorem u8_xor_r (k : Int) (b : UInt8) (h0 : 0 ≤ k) (h1 : k < 256) : Op.intBits .xor .u8 (U8 b) k = pure (.int .u8 (U8 (xor8 b (UInt8.ofNat k.toNat)))) := by
  rw [← u8_xor_, ← u8_of k h0 h1]
@[go_sem high] theorem u8_add_r (k : Int) (b : UInt8) (h0 : 0 ≤ k) (h1 : k < 256) : Op.intArith .add .u8 (U8 b) k = pure (.int .u8 (U8 (add8 b (UInt8.ofNat k.toNat)))) := by
  rw [← u8_add_, ← u8_of k h0 h1]
@[go_sem high] theorem u8_mul_l (k : Int) (b : UInt8) (h0 : 0 ≤ k) (h1 : k < 256) : Op.intArith .mul .u8 k (U8 b) = pure (.int .u8 (U8 (mul8 (UInt8.ofNat k.toNat) b))) := by
  rw [← u8_mul_, ← u8_of k h0 h1]
@[go_sem high] theorem u8_not_ (a : UInt8) : Op.unary .xor (.int .u8 (U8 a)) = pure (.int .u8 (U8 (not8 a))) := by
  have e : (0 - 1 : UInt8) ^^^ a = ~~~ a := by
    rw [← UInt8.toBitVec_inj, UInt8.toBitVec_xor, UInt8.toBitVec_not]; exact BitVec.allOnes_xor
  have h := u8_xor_ (0 - 1) a
  unfold xor8 at h
  rw [e] at h
  exact h
@[go_sem high] theorem u8_shl_ (a : UInt8) (yk : IntKind) (y : Int) (hy : 0 ≤ y) : Op.shift .shl .u8 (U8 a) yk y = pure (.int .u8 (U8 (shl8 a y.toNat))) := by
  simp only [Op.shift, Int.not_lt.mpr hy, if_false]; refine congrArg (fun z : Int => (pure (Value.int .u8 z) : Sem Value)) ?_
  rw [wrap_u8_]; unfold shl8; rw [U8_ofNat]; unfold U8
  show ((a.toNat : Int) * 2 ^ min y.toNat 8) % _ = _
  have e : ((2 : Int) ^ min y.toNat 8) = ((2 ^ min y.toNat 8 : Nat) : Int) := by simp
  rw [e, ← Int.natCast_mul]
  by_cases h : y.toNat ≤ 8
  · rw [Nat.min_eq_left h]; omega
  · rw [Nat.min_eq_right (by omega)]
    have hd : 256 ∣ 2 ^ y.toNat := by
      rw [show 256 = 2 ^ 8 by rfl]; exact Nat.pow_dvd_pow 2 (by omega)
    have h1 : (a.toNat * 2 ^ y.toNat) % 256 = 0 := Nat.mod_eq_zero_of_dvd (Nat.dvd_trans hd (Nat.dvd_mul_left _ _))
    rw [h1]; omega
@[go_sem high] theorem u8_shr_ (a : UInt8) (yk : IntKind) (y : Int) (hy : 0 ≤ y) : Op.shift .shr .u8 (U8 a) yk y = pure (.int .u8 (U8 (shr8 a y.toNat))) := by
  simp only [Op.shift, Int.not_lt.mpr hy, if_false]; refine congrArg (fun z : Int => (pure (Value.int .u8 z) : Sem Value)) ?_
  unfold shr8; rw [U8_ofNat]; unfold U8
  show ((a.toNat : Int)).fdiv (2 ^ min y.toNat 8) = _
  have e : ((2 : Int) ^ min y.toNat 8) = ((2 ^ min y.toNat 8 : Nat) : Int) := by simp
  rw [e, Int.fdiv_eq_ediv_of_nonneg _ (Int.natCast_nonneg _), ← Int.natCast_ediv]
  have ha := a.toNat_lt
  by_cases h : y.toNat ≤ 8
  · rw [Nat.min_eq_left h]
    rw [Nat.mod_eq_of_lt]; exact Nat.lt_of_le_of_lt (Nat.div_le_self _ _) ha
  · rw [Nat.min_eq_right (by omega)]
    have h1 : a.toNat / 2 ^ 8 = 0 := Nat.div_eq_of_lt ha
    have h2 : a.toNat / 2 ^ y.toNat = 0 := Nat.div_eq_of_lt (Nat.lt_of_lt_of_le ha (Nat.pow_le_pow_right (by omega) (by omega)))
    rw [h1, h2]
@[go_sem 11000] theorem u8_addB (t : TypeId) (a b : UInt8) : binOp .add t (.int .u8 (U8 a)) (.int .u8 (U8 b)) = pure (.int .u8 (U8 (add8 a b))) := by
  rw [binOp_add]; exact u8_add_ a b
@[go_sem 11000] theorem u8_subB (t : TypeId) (a b : UInt8) : binOp .sub t (.int .u8 (U8 a)) (.int .u8 (U8 b)) = pure (.int .u8 (U8 (sub8 a b))) := by
  rw [binOp_sub]; exact u8_sub_ a b
@[go_sem 11000] theorem u8_mulB (t : TypeId) (a b : UInt8) : binOp .mul t (.int .u8 (U8 a)) (.int .u8 (U8 b)) = pure (.int .u8 (U8 (mul8 a b))) := by
  rw [binOp_mul]; exact u8_mul_ a b
@[go_sem high] theorem u8_addrB (t : TypeId) (k : Int) (b : UInt8) (h0 : 0 ≤ k) (h1 : k < 256) : binOp .add t (.int .u8 (U8 b)) (.int .u8 k) = pure (.int .u8 (U8 (add8 b (UInt8.ofNat k.toNat)))) := by
  rw [binOp_add]; exact u8_add_r k b h0 h1
@[go_sem high] theorem u8_mulrB (t : TypeId) (k : Int) (b : UInt8) (h0 : 0 ≤ k) (h1 : k < 256) : binOp .mul t (.int .u8 (U8 b)) (.int .u8 k) = pure (.int .u8 (U8 (mul8 b (UInt8.ofNat k.toNat)))) := by
  rw [binOp_mul, ← u8_mul_, ← u8_of k h0 h1]
@[go_sem high] theorem u8_subrB (t : TypeId) (k : Int) (b : UInt8) (h0 : 0 ≤ k) (h1 : k < 256) : binOp .sub t (.int .u8 (U8 b)) (.int .u8 k) = pure (.int .u8 (U8 (sub8 b (UInt8.ofNat k.toNat)))) := by
  rw [binOp_sub, ← u8_sub_, ← u8_of k h0 h1]
@[go_sem high] theorem u8_sublB (t : TypeId) (k : Int) (b : UInt8) (h0 : 0 ≤ k) (h1 : k < 256) : binOp .sub t (.int .u8 k) (.int .u8 (U8 b)) = pure (.int .u8 (U8 (sub8 (UInt8.ofNat k.toNat) b))) := by
  rw [binOp_sub, ← u8_sub_, ← u8_of k h0 h1]
@[go_sem high] theorem u8_mullB (t : TypeId) (k : Int) (b : UInt8) (h0 : 0 ≤ k) (h1 : k < 256) : binOp .mul t (.int .u8 k) (.int .u8 (U8 b)) = pure (.int .u8 (U8 (mul8 (UInt8.ofNat k.toNat) b))) := by
  rw [binOp_mul]; exact u8_mul_l k b h0 h1
@[go_sem high] theorem u8_shlB (t : TypeId) (a : UInt8) (yk : IntKind) (y : Int) (hy : 0 ≤ y) : binOp .shl t (.int .u8 (U8 a)) (.int yk y) = pure (.int .u8 (U8 (shl8 a y.toNat))) := by
  rw [binOp_shl]; exact u8_shl_ a yk y hy
@[go_sem high] theorem u8_shrB (t : TypeId) (a : UInt8) (yk : IntKind) (y : Int) (hy : 0 ≤ y) : binOp .shr t (.int .u8 (U8 a)) (.int yk y) = pure (.int .u8 (U8 (shr8 a y.toNat))) := by
  rw [binOp_shr]; exact u8_shr_ a yk y hy

def U16 (v : UInt16) : Int := v.toNat
theorem U16_lo (v : UInt16) : 0 ≤ U16 v := by unfold U16; omega
theorem U16_hi (v : UInt16) : U16 v < 65536 := by unfold U16; have := v.toNat_lt; omega
@[go_sem] theorem U16_eq (v : UInt16) : (v.toNat : Int) = U16 v := rfl
theorem U16_inj {a b : UInt16} : U16 a = U16 b ↔ a = b := by
  unfold U16; rw [Int.ofNat_inj]; exact UInt16.toNat_inj
theorem U16_toNat (v : UInt16) : (U16 v).toNat = v.toNat := rfl
theorem wrap_u16_ (n : Int) : IntKind.u16.wrap n = n % 65536 := by simp [IntKind.wrap, IntKind.bits, IntKind.signed]
def add16 (a b : UInt16) : UInt16 := a + b
def sub16 (a b : UInt16) : UInt16 := a - b
def mul16 (a b : UInt16) : UInt16 := a * b
def neg16 (a : UInt16) : UInt16 := 0 - a
def and16 (a b : UInt16) : UInt16 := a &&& b
def or16 (a b : UInt16) : UInt16 := a ||| b
def xor16 (a b : UInt16) : UInt16 := a ^^^ b
def not16 (a : UInt16) : UInt16 := ~~~ a
def shl16 (a : UInt16) (k : Nat) : UInt16 := UInt16.ofNat (a.toNat * 2 ^ k)
def shr16 (a : UInt16) (k : Nat) : UInt16 := UInt16.ofNat (a.toNat / 2 ^ k)
theorem U16_ofNat (k : Nat) : U16 (UInt16.ofNat k) = ((k % 65536 : Nat) : Int) := by unfold U16; rw [UInt16.toNat_ofNat']
theorem U16_lit (k : Nat) (h : k < 65536) : U16 (UInt16.ofNat k) = (k : Int) := by rw [U16_ofNat, Nat.mod_eq_of_lt h]
@[go_sem 11000] theorem u16_add_ (a b : UInt16) : Op.intArith .add .u16 (U16 a) (U16 b) = pure (.int .u16 (U16 (add16 a b))) := by
  simp only [Op.intArith]; refine congrArg (fun z : Int => (pure (Value.int .u16 z) : Sem Value)) ?_; unfold U16 add16; rw [wrap_u16_, UInt16.toNat_add]; omega
@[go_sem 11000] theorem u16_sub_ (a b : UInt16) : Op.intArith .sub .u16 (U16 a) (U16 b) = pure (.int .u16 (U16 (sub16 a b))) := by
  simp only [Op.intArith]; refine congrArg (fun z : Int => (pure (Value.int .u16 z) : Sem Value)) ?_; unfold U16 sub16; rw [wrap_u16_, UInt16.toNat_sub]; have := a.toNat_lt; have := b.toNat_lt; omega
@[go_sem 11000] theorem u16_mul_ (a b : UInt16) : Op.intArith .mul .u16 (U16 a) (U16 b) = pure (.int .u16 (U16 (mul16 a b))) := by
  simp only [Op.intArith]; refine congrArg (fun z : Int => (pure (Value.int .u16 z) : Sem Value)) ?_; unfold U16 mul16; rw [wrap_u16_, UInt16.toNat_mul, ← Int.natCast_mul]; omega
@[go_sem high] theorem u16_neg_ (a : UInt16) : Op.unary .neg (.int .u16 (U16 a)) = pure (.int .u16 (U16 (neg16 a))) := by
  simp only [Op.unary, Op.intArith]; refine congrArg (fun z : Int => (pure (Value.int .u16 z) : Sem Value)) ?_; unfold U16 neg16; rw [wrap_u16_, UInt16.toNat_sub]; have := a.toNat_lt; simp; omega
theorem ofInt_U16 (a : UInt16) : BitVec.ofInt 16 (U16 a) = a.toBitVec := by
  unfold U16; rw [BitVec.ofInt_natCast]; exact BitVec.ofNat_toNat _ _ |>.trans (by simp)
@[go_sem 11000] theorem u16_and_ (a b : UInt16) : Op.intBits .and .u16 (U16 a) (U16 b) = pure (.int .u16 (U16 (and16 a b))) := by
  simp only [Op.intBits]; refine congrArg (fun z : Int => (pure (Value.int .u16 z) : Sem Value)) ?_
  show IntKind.u16.wrap ((BitVec.ofInt 16 (U16 a) &&& BitVec.ofInt 16 (U16 b)).toNat : Int) = _
  rw [ofInt_U16, ofInt_U16, wrap_u16_]; unfold U16 and16; rw [← UInt16.toBitVec_and]; have := (a &&& b).toNat_lt; show ((a &&& b).toNat : Int) % _ = _; omega
@[go_sem 11000] theorem u16_or_ (a b : UInt16) : Op.intBits .or .u16 (U16 a) (U16 b) = pure (.int .u16 (U16 (or16 a b))) := by
  simp only [Op.intBits]; refine congrArg (fun z : Int => (pure (Value.int .u16 z) : Sem Value)) ?_
  show IntKind.u16.wrap ((BitVec.ofInt 16 (U16 a) ||| BitVec.ofInt 16 (U16 b)).toNat : Int) = _
  rw [ofInt_U16, ofInt_U16, wrap_u16_]; unfold U16 or16; rw [← UInt16.toBitVec_or]; have := (a ||| b).toNat_lt; show ((a ||| b).toNat : Int) % _ = _; omega
@[go_sem 11000] theorem u16_xor_ (a b : UInt16) : Op.intBits .xor .u16 (U16 a) (U16 b) = pure (.int .u16 (U16 (xor16 a b))) := by
  simp only [Op.intBits]; refine congrArg (fun z : Int => (pure (Value.int .u16 z) : Sem Value)) ?_
  show IntKind.u16.wrap ((BitVec.ofInt 16 (U16 a) ^^^ BitVec.ofInt 16 (U16 b)).toNat : Int) = _
  rw [ofInt_U16, ofInt_U16, wrap_u16_]; unfold U16 xor16; rw [← UInt16.toBitVec_xor]; have := (a ^^^ b).toNat_lt; show ((a ^^^ b).toNat : Int) % _ = _; omega
theorem u16_of (k : Int) (h0 : 0 ≤ k) (h1 : k < 65536) : k = U16 (UInt16.ofNat k.toNat) := by rw [U16_lit _ (by omega)]; omega
@[go_sem high] theorem u16_and_l (k : Int) (b : UInt16) (h0 : 0 ≤ k) (h1 : k < 65536) : Op.intBits .and .u16 k (U16 b) = pure (.int .u16 (U16 (and16 (UInt16.ofNat k.toNat) b))) := by
  rw [← u16_and_, ← u16_of k h0 h1]
@[go_sem high] theorem u16_and_r (k : Int) (b : UInt16) (h0 : 0 ≤ k) (h1 : k < 65536) : Op.intBits .and .u16 (U16 b) k = pure (.int .u16 (U16 (and16 b (UInt16.ofNat k.toNat)))) := by
  rw [← u16_and_, ← u16_of k h0 h1]
@[go_sem high] theorem u16_or_l (k : Int) (b : UInt16) (h0 : 0 ≤ k) (h1 : k < 65536) : Op.intBits .or .u16 k (U16 b) = pure (.int .u16 (U16 (or16 (UInt16.ofNat k.toNat) b))) := by
  rw [← u16_or_, ← u16_of k h0 h1]
@[go_sem high] theorem u16_or_r (k : Int) (b : UInt16) (h0 : 0 ≤ k) (h1 : k < 65536) : Op.intBits .or .u16 (U16 b) k = pure (.int .u16 (U16 (or16 b (UInt16.ofNat k.toNat)))) := by
  rw [← u16_or_, ← u16_of k h0 h1]
@[go_sem high] theorem u16_xor_l (k : Int) (b : UInt16) (h0 : 0 ≤ k) (h1 : k < 65536) : Op.intBits .xor .u16 k (U16 b) = pure (.int .u16 (U16 (xor16 (UInt16.ofNat k.toNat) b))) := by
  rw [← u16_xor_, ← u16_of k h0 h1]
@[go_sem high] theorem u16_xor_r (k : Int) (b : UInt16) (h0 : 0 ≤ k) (h1 : k < 65536) : Op.intBits .xor .u16 (U16 b) k = pure (.int .u16 (U16 (xor16 b (UInt16.ofNat k.toNat)))) := by
  rw [← u16_xor_, ← u16_of k h0 h1]
@[go_sem high] theorem u16_add_r (k : Int) (b : UInt16) (h0 : 0 ≤ k) (h1 : k < 65536) : Op.intArith .add .u16 (U16 b) k = pure (.int .u16 (U16 (add16 b (UInt16.ofNat k.toNat)))) := by
  rw [← u16_add_, ← u16_of k h0 h1]
@[go_sem high] theorem u16_mul_l (k : Int) (b : UInt16) (h0 : 0 ≤ k) (h1 : k < 65536) : Op.intArith .mul .u16 k (U16 b) = pure (.int .u16 (U16 (mul16 (UInt16.ofNat k.toNat) b))) := by
  rw [← u16_mul_, ← u16_of k h0 h1]
@[go_sem high] theorem u16_not_ (a : UInt16) : Op.unary .xor (.int .u16 (U16 a)) = pure (.int .u16 (U16 (not16 a))) := by
  have e : (0 - 1 : UInt16) ^^^ a = ~~~ a := by
    rw [← UInt16.toBitVec_inj, UInt16.toBitVec_xor, UInt16.toBitVec_not]; exact BitVec.allOnes_xor
  have h := u16_xor_ (0 - 1) a
  unfold xor16 at h
  rw [e] at h
  exact h
@[go_sem high] theorem u16_shl_ (a : UInt16) (yk : IntKind) (y : Int) (hy : 0 ≤ y) : Op.shift .shl .u16 (U16 a) yk y = pure (.int .u16 (U16 (shl16 a y.toNat))) := by
  simp only [Op.shift, Int.not_lt.mpr hy, if_false]; refine congrArg (fun z : Int => (pure (Value.int .u16 z) : Sem Value)) ?_
  rw [wrap_u16_]; unfold shl16; rw [U16_ofNat]; unfold U16
  show ((a.toNat : Int) * 2 ^ min y.toNat 16) % _ = _
  have e : ((2 : Int) ^ min y.toNat 16) = ((2 ^ min y.toNat 16 : Nat) : Int) := by simp
  rw [e, ← Int.natCast_mul]
  by_cases h : y.toNat ≤ 16
  · rw [Nat.min_eq_left h]; omega
  · rw [Nat.min_eq_right (by omega)]
    have hd : 65536 ∣ 2 ^ y.toNat := by
      rw [show 65536 = 2 ^ 16 by rfl]; exact Nat.pow_dvd_pow 2 (by omega)
    have h1 : (a.toNat * 2 ^ y.toNat) % 65536 = 0 := Nat.mod_eq_zero_of_dvd (Nat.dvd_trans hd (Nat.dvd_mul_left _ _))
    rw [h1]; omega
@[go_sem high] theorem u16_shr_ (a : UInt16) (yk : IntKind) (y : Int) (hy : 0 ≤ y) : Op.shift .shr .u16 (U16 a) yk y = pure (.int .u16 (U16 (shr16 a y.toNat))) := by
  simp only [Op.shift, Int.not_lt.mpr hy, if_false]; refine congrArg (fun z : Int => (pure (Value.int .u16 z) : Sem Value)) ?_
  unfold shr16; rw [U16_ofNat]; unfold U16
  show ((a.toNat : Int)).fdiv (2 ^ min y.toNat 16) = _
  have e : ((2 : Int) ^ min y.toNat 16) = ((2 ^ min y.toNat 16 : Nat) : Int) := by simp
  rw [e, Int.fdiv_eq_ediv_of_nonneg _ (Int.natCast_nonneg _), ← Int.natCast_ediv]
  have ha := a.toNat_lt
  by_cases h : y.toNat ≤ 16
  · rw [Nat.min_eq_left h]
    rw [Nat.mod_eq_of_lt]; exact Nat.lt_of_le_of_lt (Nat.div_le_self _ _) ha
  · rw [Nat.min_eq_right (by omega)]
    have h1 : a.toNat / 2 ^ 16 = 0 := Nat.div_eq_of_lt ha
    have h2 : a.toNat / 2 ^ y.toNat = 0 := Nat.div_eq_of_lt (Nat.lt_of_lt_of_le ha (Nat.pow_le_pow_right (by omega) (by omega)))
    rw [h1, h2]
@[go_sem 11000] theorem u16_addB (t : TypeId) (a b : UInt16) : binOp .add t (.int .u16 (U16 a)) (.int .u16 (U16 b)) = pure (.int .u16 (U16 (add16 a b))) := by
  rw [binOp_add]; exact u16_add_ a b
@[go_sem 11000] theorem u16_subB (t : TypeId) (a b : UInt16) : binOp .sub t (.int .u16 (U16 a)) (.int .u16 (U16 b)) = pure (.int .u16 (U16 (sub16 a b))) := by
  rw [binOp_sub]; exact u16_sub_ a b
@[go_sem 11000] theorem u16_mulB (t : TypeId) (a b : UInt16) : binOp .mul t (.int .u16 (U16 a)) (.int .u16 (U16 b)) = pure (.int .u16 (U16 (mul16 a b))) := by
  rw [binOp_mul]; exact u16_mul_ a b
@[go_sem high] theorem u16_addrB (t : TypeId) (k : Int) (b : UInt16) (h0 : 0 ≤ k) (h1 : k < 65536) : binOp .add t (.int .u16 (U16 b)) (.int .u16 k) = pure (.int .u16 (U16 (add16 b (UInt16.ofNat k.toNat)))) := by
  rw [binOp_add]; exact u16_add_r k b h0 h1
@[go_sem high] theorem u16_mulrB (t : TypeId) (k : Int) (b : UInt16) (h0 : 0 ≤ k) (h1 : k < 65536) : binOp .mul t (.int .u16 (U16 b)) (.int .u16 k) = pure (.int .u16 (U16 (mul16 b (UInt16.ofNat k.toNat)))) := by
  rw [binOp_mul, ← u16_mul_, ← u16_of k h0 h1]
@[go_sem high] theorem u16_subrB (t : TypeId) (k : Int) (b : UInt16) (h0 : 0 ≤ k) (h1 : k < 65536) : binOp .sub t (.int .u16 (U16 b)) (.int .u16 k) = pure (.int .u16 (U16 (sub16 b (UInt16.ofNat k.toNat)))) := by
  rw [binOp_sub, ← u16_sub_, ← u16_of k h0 h1]
@[go_sem high] theorem u16_sublB (t : TypeId) (k : Int) (b : UInt16) (h0 : 0 ≤ k) (h1 : k < 65536) : binOp .sub t (.int .u16 k) (.int .u16 (U16 b)) = pure (.int .u16 (U16 (sub16 (UInt16.ofNat k.toNat) b))) := by
  rw [binOp_sub, ← u16_sub_, ← u16_of k h0 h1]
@[go_sem high] theorem u16_mullB (t : TypeId) (k : Int) (b : UInt16) (h0 : 0 ≤ k) (h1 : k < 65536) : binOp .mul t (.int .u16 k) (.int .u16 (U16 b)) = pure (.int .u16 (U16 (mul16 (UInt16.ofNat k.toNat) b))) := by
  rw [binOp_mul]; exact u16_mul_l k b h0 h1
@[go_sem high] theorem u16_shlB (t : TypeId) (a : UInt16) (yk : IntKind) (y : Int) (hy : 0 ≤ y) : binOp .shl t (.int .u16 (U16 a)) (.int yk y) = pure (.int .u16 (U16 (shl16 a y.toNat))) := by
  rw [binOp_shl]; exact u16_shl_ a yk y hy
@[go_sem high] theorem u16_shrB (t : TypeId) (a : UInt16) (yk : IntKind) (y : Int) (hy : 0 ≤ y) : binOp .shr t (.int .u16 (U16 a)) (.int yk y) = pure (.int .u16 (U16 (shr16 a y.toNat))) := by
  rw [binOp_shr]; exact u16_shr_ a yk y hy

def U32 (v : UInt32) : Int := v.toNat
theorem U32_lo (v : UInt32) : 0 ≤ U32 v := by unfold U32; omega
theorem U32_hi (v : UInt32) : U32 v < 4294967296 := by unfold U32; have := v.toNat_lt; omega
@[go_sem] theorem U32_eq (v : UInt32) : (v.toNat : Int) = U32 v := rfl
theorem U32_inj {a b : UInt32} : U32 a = U32 b ↔ a = b := by
  unfold U32; rw [Int.ofNat_inj]; exact UInt32.toNat_inj
theorem U32_toNat (v : UInt32) : (U32 v).toNat = v.toNat := rfl
theorem wrap_u32_ (n : Int) : IntKind.u32.wrap n = n % 4294967296 := by simp [IntKind.wrap, IntKind.bits, IntKind.signed]
def add32 (a b : UInt32) : UInt32 := a + b
def sub32 (a b : UInt32) : UInt32 := a - b
def mul32 (a b : UInt32) : UInt32 := a * b
def neg32 (a : UInt32) : UInt32 := 0 - a
def and32 (a b : UInt32) : UInt32 := a &&& b
def or32 (a b : UInt32) : UInt32 := a ||| b
def xor32 (a b : UInt32) : UInt32 := a ^^^ b
def not32 (a : UInt32) : UInt32 := ~~~ a
def shl32 (a : UInt32) (k : Nat) : UInt32 := UInt32.ofNat (a.toNat * 2 ^ k)
def shr32 (a : UInt32) (k : Nat) : UInt32 := UInt32.ofNat (a.toNat / 2 ^ k)
theorem U32_ofNat (k : Nat) : U32 (UInt32.ofNat k) = ((k % 4294967296 : Nat) : Int) := by unfold U32; rw [UInt32.toNat_ofNat']
theorem U32_lit (k : Nat) (h : k < 4294967296) : U32 (UInt32.ofNat k) = (k : Int) := by rw [U32_ofNat, Nat.mod_eq_of_lt h]
@[go_sem 11000] theorem u32_add_ (a b : UInt32) : Op.intArith .add .u32 (U32 a) (U32 b) = pure (.int .u32 (U32 (add32 a b))) := by
  simp only [Op.intArith]; refine congrArg (fun z : Int => (pure (Value.int .u32 z) : Sem Value)) ?_; unfold U32 add32; rw [wrap_u32_, UInt32.toNat_add]; omega
@[go_sem 11000] theorem u32_sub_ (a b : UInt32) : Op.intArith .sub .u32 (U32 a) (U32 b) = pure (.int .u32 (U32 (sub32 a b))) := by
  simp only [Op.intArith]; refine congrArg (fun z : Int => (pure (Value.int .u32 z) : Sem Value)) ?_; unfold U32 sub32; rw [wrap_u32_, UInt32.toNat_sub]; have := a.toNat_lt; have := b.toNat_lt; omega
@[go_sem 11000] theorem u32_mul_ (a b : UInt32) : Op.intArith .mul .u32 (U32 a) (U32 b) = pure (.int .u32 (U32 (mul32 a b))) := by
  simp only [Op.intArith]; refine congrArg (fun z : Int => (pure (Value.int .u32 z) : Sem Value)) ?_; unfold U32 mul32; rw [wrap_u32_, UInt32.toNat_mul, ← Int.natCast_mul]; omega
@[go_sem high] theorem u32_neg_ (a : UInt32) : Op.unary .neg (.int .u32 (U32 a)) = pure (.int .u32 (U32 (neg32 a))) := by
  simp only [Op.unary, Op.intArith]; refine congrArg (fun z : Int => (pure (Value.int .u32 z) : Sem Value)) ?_; unfold U32 neg32; rw [wrap_u32_, UInt32.toNat_sub]; have := a.toNat_lt; simp; omega
theorem ofInt_U32 (a : UInt32) : BitVec.ofInt 32 (U32 a) = a.toBitVec := by
  unfold U32; rw [BitVec.ofInt_natCast]; exact BitVec.ofNat_toNat _ _ |>.trans (by simp)
@[go_sem 11000] theorem u32_and_ (a b : UInt32) : Op.intBits .and .u32 (U32 a) (U32 b) = pure (.int .u32 (U32 (and32 a b))) := by
  simp only [Op.intBits]; refine congrArg (fun z : Int => (pure (Value.int .u32 z) : Sem Value)) ?_
  show IntKind.u32.wrap ((BitVec.ofInt 32 (U32 a) &&& BitVec.ofInt 32 (U32 b)).toNat : Int) = _
  rw [ofInt_U32, ofInt_U32, wrap_u32_]; unfold U32 and32; rw [← UInt32.toBitVec_and]; have := (a &&& b).toNat_lt; show ((a &&& b).toNat : Int) % _ = _; omega
@[go_sem 11000] theorem u32_or_ (a b : UInt32) : Op.intBits .or .u32 (U32 a) (U32 b) = pure (.int .u32 (U32 (or32 a b))) := by
  simp only [Op.intBits]; refine congrArg (fun z : Int => (pure (Value.int .u32 z) : Sem Value)) ?_
  show IntKind.u32.wrap ((BitVec.ofInt 32 (U32 a) ||| BitVec.ofInt 32 (U32 b)).toNat : Int) = _
  rw [ofInt_U32, ofInt_U32, wrap_u32_]; unfold U32 or32; rw [← UInt32.toBitVec_or]; have := (a ||| b).toNat_lt; show ((a ||| b).toNat : Int) % _ = _; omega
@[go_sem 11000] theorem u32_xor_ (a b : UInt32) : Op.intBits .xor .u32 (U32 a) (U32 b) = pure (.int .u32 (U32 (xor32 a b))) := by
  simp only [Op.intBits]; refine congrArg (fun z : Int => (pure (Value.int .u32 z) : Sem Value)) ?_
  show IntKind.u32.wrap ((BitVec.ofInt 32 (U32 a) ^^^ BitVec.ofInt 32 (U32 b)).toNat : Int) = _
  rw [ofInt_U32, ofInt_U32, wrap_u32_]; unfold U32 xor32; rw [← UInt32.toBitVec_xor]; have := (a ^^^ b).toNat_lt; show ((a ^^^ b).toNat : Int) % _ = _; omega
theorem u32_of (k : Int) (h0 : 0 ≤ k) (h1 : k < 4294967296) : k = U32 (UInt32.ofNat k.toNat) := by rw [U32_lit _ (by omega)]; omega
@[go_sem high] theorem u32_and_l (k : Int) (b : UInt32) (h0 : 0 ≤ k) (h1 : k < 4294967296) : Op.intBits .and .u32 k (U32 b) = pure (.int .u32 (U32 (and32 (UInt32.ofNat k.toNat) b))) := by
  rw [← u32_and_, ← u32_of k h0 h1]
@[go_sem high] theorem u32_and_r (k : Int) (b : UInt32) (h0 : 0 ≤ k) (h1 : k < 4294967296) : Op.intBits .and .u32 (U32 b) k = pure (.int .u32 (U32 (and32 b (UInt32.ofNat k.toNat)))) := by
  rw [← u32_and_, ← u32_of k h0 h1]
@[go_sem high] theorem u32_or_l (k : Int) (b : UInt32) (h0 : 0 ≤ k) (h1 : k < 4294967296) : Op.intBits .or .u32 k (U32 b) = pure (.int .u32 (U32 (or32 (UInt32.ofNat k.toNat) b))) := by
  rw [← u32_or_, ← u32_of k h0 h1]
@[go_sem high] theorem u32_or_r (k : Int) (b : UInt32) (h0 : 0 ≤ k) (h1 : k < 4294967296) : Op.intBits .or .u32 (U32 b) k = pure (.int .u32 (U32 (or32 b (UInt32.ofNat k.toNat)))) := by
  rw [← u32_or_, ← u32_of k h0 h1]
@[go_sem high] theorem u32_xor_l (k : Int) (b : UInt32) (h0 : 0 ≤ k) (h1 : k < 4294967296) : Op.intBits .xor .u32 k (U32 b) = pure (.int .u32 (U32 (xor32 (UInt32.ofNat k.toNat) b))) := by
  rw [← u32_xor_, ← u32_of k h0 h1]
@[go_sem high] theorem u32_xor_r (k : Int) (b : UInt32) (h0 : 0 ≤ k) (h1 : k < 4294967296) : Op.intBits .xor .u32 (U32 b) k = pure (.int .u32 (U32 (xor32 b (UInt32.ofNat k.toNat)))) := by
  rw [← u32_xor_, ← u32_of k h0 h1]
@[go_sem high] theorem u32_add_r (k : Int) (b : UInt32) (h0 : 0 ≤ k) (h1 : k < 4294967296) : Op.intArith .add .u32 (U32 b) k = pure (.int .u32 (U32 (add32 b (UInt32.ofNat k.toNat)))) := by
  rw [← u32_add_, ← u32_of k h0 h1]
@[go_sem high] theorem u32_mul_l (k : Int) (b : UInt32) (h0 : 0 ≤ k) (h1 : k < 4294967296) : Op.intArith .mul .u32 k (U32 b) = pure (.int .u32 (U32 (mul32 (UInt32.ofNat k.toNat) b))) := by
  rw [← u32_mul_, ← u32_of k h0 h1]
@[go_sem high] theorem u32_not_ (a : UInt32) : Op.unary .xor (.int .u32 (U32 a)) = pure (.int .u32 (U32 (not32 a))) := by
  have e : (0 - 1 : UInt32) ^^^ a = ~~~ a := by
    rw [← UInt32.toBitVec_inj, UInt32.toBitVec_xor, UInt32.toBitVec_not]; exact BitVec.allOnes_xor
  have h := u32_xor_ (0 - 1) a
  unfold xor32 at h
  rw [e] at h
  exact h
@[go_sem high] theorem u32_shl_ (a : UInt32) (yk : IntKind) (y : Int) (hy : 0 ≤ y) : Op.shift .shl .u32 (U32 a) yk y = pure (.int .u32 (U32 (shl32 a y.toNat))) := by
  simp only [Op.shift, Int.not_lt.mpr hy, if_false]; refine congrArg (fun z : Int => (pure (Value.int .u32 z) : Sem Value)) ?_
  rw [wrap_u32_]; unfold shl32; rw [U32_ofNat]; unfold U32
  show ((a.toNat : Int) * 2 ^ min y.toNat 32) % _ = _
  have e : ((2 : Int) ^ min y.toNat 32) = ((2 ^ min y.toNat 32 : Nat) : Int) := by simp
  rw [e, ← Int.natCast_mul]
  by_cases h : y.toNat ≤ 32
  · rw [Nat.min_eq_left h]; omega
  · rw [Nat.min_eq_right (by omega)]
    have hd : 4294967296 ∣ 2 ^ y.toNat := by
      rw [show 4294967296 = 2 ^ 32 by rfl]; exact Nat.pow_dvd_pow 2 (by omega)
    have h1 : (a.toNat * 2 ^ y.toNat) % 4294967296 = 0 := Nat.mod_eq_zero_of_dvd (Nat.dvd_trans hd (Nat.dvd_mul_left _ _))
    rw [h1]; omega
@[go_sem high] theorem u32_shr_ (a : UInt32) (yk : IntKind) (y : Int) (hy : 0 ≤ y) : Op.shift .shr .u32 (U32 a) yk y = pure (.int .u32 (U32 (shr32 a y.toNat))) := by
  simp only [Op.shift, Int.not_lt.mpr hy, if_false]; refine congrArg (fun z : Int => (pure (Value.int .u32 z) : Sem Value)) ?_
  unfold shr32; rw [U32_ofNat]; unfold U32
  show ((a.toNat : Int)).fdiv (2 ^ min y.toNat 32) = _
  have e : ((2 : Int) ^ min y.toNat 32) = ((2 ^ min y.toNat 32 : Nat) : Int) := by simp
  rw [e, Int.fdiv_eq_ediv_of_nonneg _ (Int.natCast_nonneg _), ← Int.natCast_ediv]
  have ha := a.toNat_lt
  by_cases h : y.toNat ≤ 32
  · rw [Nat.min_eq_left h]
    rw [Nat.mod_eq_of_lt]; exact Nat.lt_of_le_of_lt (Nat.div_le_self _ _) ha
  · rw [Nat.min_eq_right (by omega)]
    have h1 : a.toNat / 2 ^ 32 = 0 := Nat.div_eq_of_lt ha
    have h2 : a.toNat / 2 ^ y.toNat = 0 := Nat.div_eq_of_lt (Nat.lt_of_lt_of_le ha (Nat.pow_le_pow_right (by omega) (by omega)))
    rw [h1, h2]
@[go_sem 11000] theorem u32_addB (t : TypeId) (a b : UInt32) : binOp .add t (.int .u32 (U32 a)) (.int .u32 (U32 b)) = pure (.int .u32 (U32 (add32 a b))) := by
  rw [binOp_add]; exact u32_add_ a b
@[go_sem 11000] theorem u32_subB (t : TypeId) (a b : UInt32) : binOp .sub t (.int .u32 (U32 a)) (.int .u32 (U32 b)) = pure (.int .u32 (U32 (sub32 a b))) := by
  rw [binOp_sub]; exact u32_sub_ a b
@[go_sem 11000] theorem u32_mulB (t : TypeId) (a b : UInt32) : binOp .mul t (.int .u32 (U32 a)) (.int .u32 (U32 b)) = pure (.int .u32 (U32 (mul32 a b))) := by
  rw [binOp_mul]; exact u32_mul_ a b
@[go_sem high] theorem u32_addrB (t : TypeId) (k : Int) (b : UInt32) (h0 : 0 ≤ k) (h1 : k < 4294967296) : binOp .add t (.int .u32 (U32 b)) (.int .u32 k) = pure (.int .u32 (U32 (add32 b (UInt32.ofNat k.toNat)))) := by
  rw [binOp_add]; exact u32_add_r k b h0 h1
@[go_sem high] theorem u32_mulrB (t : TypeId) (k : Int) (b : UInt32) (h0 : 0 ≤ k) (h1 : k < 4294967296) : binOp .mul t (.int .u32 (U32 b)) (.int .u32 k) = pure (.int .u32 (U32 (mul32 b (UInt32.ofNat k.toNat)))) := by
  rw [binOp_mul, ← u32_mul_, ← u32_of k h0 h1]
@[go_sem high] theorem u32_subrB (t : TypeId) (k : Int) (b : UInt32) (h0 : 0 ≤ k) (h1 : k < 4294967296) : binOp .sub t (.int .u32 (U32 b)) (.int .u32 k) = pure (.int .u32 (U32 (sub32 b (UInt32.ofNat k.toNat)))) := by
  rw [binOp_sub, ← u32_sub_, ← u32_of k h0 h1]
@[go_sem high] theorem u32_sublB (t : TypeId) (k : Int) (b : UInt32) (h0 : 0 ≤ k) (h1 : k < 4294967296) : binOp .sub t (.int .u32 k) (.int .u32 (U32 b)) = pure (.int .u32 (U32 (sub32 (UInt32.ofNat k.toNat) b))) := by
  rw [binOp_sub, ← u32_sub_, ← u32_of k h0 h1]
@[go_sem high] theorem u32_mullB (t : TypeId) (k : Int) (b : UInt32) (h0 : 0 ≤ k) (h1 : k < 4294967296) : binOp .mul t (.int .u32 k) (.int .u32 (U32 b)) = pure (.int .u32 (U32 (mul32 (UInt32.ofNat k.toNat) b))) := by
  rw [binOp_mul]; exact u32_mul_l k b h0 h1
@[go_sem high] theorem u32_shlB (t : TypeId) (a : UInt32) (yk : IntKind) (y : Int) (hy : 0 ≤ y) : binOp .shl t (.int .u32 (U32 a)) (.int yk y) = pure (.int .u32 (U32 (shl32 a y.toNat))) := by
  rw [binOp_shl]; exact u32_shl_ a yk y hy
@[go_sem high] theorem u32_shrB (t : TypeId) (a : UInt32) (yk : IntKind) (y : Int) (hy : 0 ≤ y) : binOp .shr t (.int .u32 (U32 a)) (.int yk y) = pure (.int .u32 (U32 (shr32 a y.toNat))) := by
  rw [binOp_shr]; exact u32_shr_ a yk y hy

def U64 (v : UInt64) : Int := v.toNat
theorem U64_lo (v : UInt64) : 0 ≤ U64 v := by unfold U64; omega
theorem U64_hi (v : UInt64) : U64 v < 18446744073709551616 := by unfold U64; have := v.toNat_lt; omega
@[go_sem] theorem U64_eq (v : UInt64) : (v.toNat : Int) = U64 v := rfl
theorem U64_inj {a b : UInt64} : U64 a = U64 b ↔ a = b := by
  unfold U64; rw [Int.ofNat_inj]; exact UInt64.toNat_inj
theorem U64_toNat (v : UInt64) : (U64 v).toNat = v.toNat := rfl
theorem wrap_u64_ (n : Int) : IntKind.u64.wrap n = n % 18446744073709551616 := by simp [IntKind.wrap, IntKind.bits, IntKind.signed]
def add64 (a b : UInt64) : UInt64 := a + b
def sub64 (a b : UInt64) : UInt64 := a - b
def mul64 (a b : UInt64) : UInt64 := a * b
def neg64 (a : UInt64) : UInt64 := 0 - a
def and64 (a b : UInt64) : UInt64 := a &&& b
def or64 (a b : UInt64) : UInt64 := a ||| b
def xor64 (a b : UInt64) : UInt64 := a ^^^ b
def not64 (a : UInt64) : UInt64 := ~~~ a
def shl64 (a : UInt64) (k : Nat) : UInt64 := UInt64.ofNat (a.toNat * 2 ^ k)
def shr64 (a : UInt64) (k : Nat) : UInt64 := UInt64.ofNat (a.toNat / 2 ^ k)
theorem U64_ofNat (k : Nat) : U64 (UInt64.ofNat k) = ((k % 18446744073709551616 : Nat) : Int) := by unfold U64; rw [UInt64.toNat_ofNat']
theorem U64_lit (k : Nat) (h : k < 18446744073709551616) : U64 (UInt64.ofNat k) = (k : Int) := by rw [U64_ofNat, Nat.mod_eq_of_lt h]
@[go_sem 11000] theorem u64_add_ (a b : UInt64) : Op.intArith .add .u64 (U64 a) (U64 b) = pure (.int .u64 (U64 (add64 a b))) := by
  simp only [Op.intArith]; refine congrArg (fun z : Int => (pure (Value.int .u64 z) : Sem Value)) ?_; unfold U64 add64; rw [wrap_u64_, UInt64.toNat_add]; omega
@[go_sem 11000] theorem u64_sub_ (a b : UInt64) : Op.intArith .sub .u64 (U64 a) (U64 b) = pure (.int .u64 (U64 (sub64 a b))) := by
  simp only [Op.intArith]; refine congrArg (fun z : Int => (pure (Value.int .u64 z) : Sem Value)) ?_; unfold U64 sub64; rw [wrap_u64_, UInt64.toNat_sub]; have := a.toNat_lt; have := b.toNat_lt; omega
@[go_sem 11000] theorem u64_mul_ (a b : UInt64) : Op.intArith .mul .u64 (U64 a) (U64 b) = pure (.int .u64 (U64 (mul64 a b))) := by
  simp only [Op.intArith]; refine congrArg (fun z : Int => (pure (Value.int .u64 z) : Sem Value)) ?_; unfold U64 mul64; rw [wrap_u64_, UInt64.toNat_mul, ← Int.natCast_mul]; omega
@[go_sem high] theorem u64_neg_ (a : UInt64) : Op.unary .neg (.int .u64 (U64 a)) = pure (.int .u64 (U64 (neg64 a))) := by
  simp only [Op.unary, Op.intArith]; refine congrArg (fun z : Int => (pure (Value.int .u64 z) : Sem Value)) ?_; unfold U64 neg64; rw [wrap_u64_, UInt64.toNat_sub]; have := a.toNat_lt; simp; omega
theorem ofInt_U64 (a : UInt64) : BitVec.ofInt 64 (U64 a) = a.toBitVec := by
  unfold U64; rw [BitVec.ofInt_natCast]; exact BitVec.ofNat_toNat _ _ |>.trans (by simp)
@[go_sem 11000] theorem u64_and_ (a b : UInt64) : Op.intBits .and .u64 (U64 a) (U64 b) = pure (.int .u64 (U64 (and64 a b))) := by
  simp only [Op.intBits]; refine congrArg (fun z : Int => (pure (Value.int .u64 z) : Sem Value)) ?_
  show IntKind.u64.wrap ((BitVec.ofInt 64 (U64 a) &&& BitVec.ofInt 64 (U64 b)).toNat : Int) = _
  rw [ofInt_U64, ofInt_U64, wrap_u64_]; unfold U64 and64; rw [← UInt64.toBitVec_and]; have := (a &&& b).toNat_lt; show ((a &&& b).toNat : Int) % _ = _; omega
@[go_sem 11000] theorem u64_or_ (a b : UInt64) : Op.intBits .or .u64 (U64 a) (U64 b) = pure (.int .u64 (U64 (or64 a b))) := by
  simp only [Op.intBits]; refine congrArg (fun z : Int => (pure (Value.int .u64 z) : Sem Value)) ?_
  show IntKind.u64.wrap ((BitVec.ofInt 64 (U64 a) ||| BitVec.ofInt 64 (U64 b)).toNat : Int) = _
  rw [ofInt_U64, ofInt_U64, wrap_u64_]; unfold U64 or64; rw [← UInt64.toBitVec_or]; have := (a ||| b).toNat_lt; show ((a ||| b).toNat : Int) % _ = _; omega
@[go_sem 11000] theorem u64_xor_ (a b : UInt64) : Op.intBits .xor .u64 (U64 a) (U64 b) = pure (.int .u64 (U64 (xor64 a b))) := by
  simp only [Op.intBits]; refine congrArg (fun z : Int => (pure (Value.int .u64 z) : Sem Value)) ?_
  show IntKind.u64.wrap ((BitVec.ofInt 64 (U64 a) ^^^ BitVec.ofInt 64 (U64 b)).toNat : Int) = _
  rw [ofInt_U64, ofInt_U64, wrap_u64_]; unfold U64 xor64; rw [← UInt64.toBitVec_xor]; have := (a ^^^ b).toNat_lt; show ((a ^^^ b).toNat : Int) % _ = _; omega
theorem u64_of (k : Int) (h0 : 0 ≤ k) (h1 : k < 18446744073709551616) : k = U64 (UInt64.ofNat k.toNat) := by rw [U64_lit _ (by omega)]; omega
@[go_sem high] theorem u64_and_l (k : Int) (b : UInt64) (h0 : 0 ≤ k) (h1 : k < 18446744073709551616) : Op.intBits .and .u64 k (U64 b) = pure (.int .u64 (U64 (and64 (UInt64.ofNat k.toNat) b))) := by
  rw [← u64_and_, ← u64_of k h0 h1]
@[go_sem high] theorem u64_and_r (k : Int) (b : UInt64) (h0 : 0 ≤ k) (h1 : k < 18446744073709551616) : Op.intBits .and .u64 (U64 b) k = pure (.int .u64 (U64 (and64 b (UInt64.ofNat k.toNat)))) := by
  rw [← u64_and_, ← u64_of k h0 h1]
@[go_sem high] theorem u64_or_l (k : Int) (b : UInt64) (h0 : 0 ≤ k) (h1 : k < 18446744073709551616) : Op.intBits .or .u64 k (U64 b) = pure (.int .u64 (U64 (or64 (UInt64.ofNat k.toNat) b))) := by
  rw [← u64_or_, ← u64_of k h0 h1]
@[go_sem high] theorem u64_or_r (k : Int) (b : UInt64) (h0 : 0 ≤ k) (h1 : k < 18446744073709551616) : Op.intBits .or .u64 (U64 b) k = pure (.int .u64 (U64 (or64 b (UInt64.ofNat k.toNat)))) := by
  rw [← u64_or_, ← u64_of k h0 h1]
@[go_sem high] theorem u64_xor_l (k : Int) (b : UInt64) (h0 : 0 ≤ k) (h1 : k < 18446744073709551616) : Op.intBits .xor .u64 k (U64 b) = pure (.int .u64 (U64 (xor64 (UInt64.ofNat k.toNat) b))) := by
  rw [← u64_xor_, ← u64_of k h0 h1]
@[go_sem high] theorem u64_xor_r (k : Int) (b : UInt64) (h0 : 0 ≤ k) (h1 : k < 18446744073709551616) : Op.intBits .xor .u64 (U64 b) k = pure (.int .u64 (U64 (xor64 b (UInt64.ofNat k.toNat)))) := by
  rw [← u64_xor_, ← u64_of k h0 h1]
@[go_sem high] theorem u64_add_r (k : Int) (b : UInt64) (h0 : 0 ≤ k) (h1 : k < 18446744073709551616) : Op.intArith .add .u64 (U64 b) k = pure (.int .u64 (U64 (add64 b (UInt64.ofNat k.toNat)))) := by
  rw [← u64_add_, ← u64_of k h0 h1]
@[go_sem high] theorem u64_mul_l (k : Int) (b : UInt64) (h0 : 0 ≤ k) (h1 : k < 18446744073709551616) : Op.intArith .mul .u64 k (U64 b) = pure (.int .u64 (U64 (mul64 (UInt64.ofNat k.toNat) b))) := by
  rw [← u64_mul_, ← u64_of k h0 h1]
@[go_sem high] theorem u64_not_ (a : UInt64) : Op.unary .xor (.int .u64 (U64 a)) = pure (.int .u64 (U64 (not64 a))) := by
  have e : (0 - 1 : UInt64) ^^^ a = ~~~ a := by
    rw [← UInt64.toBitVec_inj, UInt64.toBitVec_xor, UInt64.toBitVec_not]; exact BitVec.allOnes_xor
  have h := u64_xor_ (0 - 1) a
  unfold xor64 at h
  rw [e] at h
  exact h
@[go_sem high] theorem u64_shl_ (a : UInt64) (yk : IntKind) (y : Int) (hy : 0 ≤ y) : Op.shift .shl .u64 (U64 a) yk y = pure (.int .u64 (U64 (shl64 a y.toNat))) := by
  simp only [Op.shift, Int.not_lt.mpr hy, if_false]; refine congrArg (fun z : Int => (pure (Value.int .u64 z) : Sem Value)) ?_
  rw [wrap_u64_]; unfold shl64; rw [U64_ofNat]; unfold U64
  show ((a.toNat : Int) * 2 ^ min y.toNat 64) % _ = _
  have e : ((2 : Int) ^ min y.toNat 64) = ((2 ^ min y.toNat 64 : Nat) : Int) := by simp
  rw [e, ← Int.natCast_mul]
  by_cases h : y.toNat ≤ 64
  · rw [Nat.min_eq_left h]; omega
  · rw [Nat.min_eq_right (by omega)]
    have hd : 18446744073709551616 ∣ 2 ^ y.toNat := by
      rw [show 18446744073709551616 = 2 ^ 64 by rfl]; exact Nat.pow_dvd_pow 2 (by omega)
    have h1 : (a.toNat * 2 ^ y.toNat) % 18446744073709551616 = 0 := Nat.mod_eq_zero_of_dvd (Nat.dvd_trans hd (Nat.dvd_mul_left _ _))
    rw [h1]; omega
@[go_sem high] theorem u64_shr_ (a : UInt64) (yk : IntKind) (y : Int) (hy : 0 ≤ y) : Op.shift .shr .u64 (U64 a) yk y = pure (.int .u64 (U64 (shr64 a y.toNat))) := by
  simp only [Op.shift, Int.not_lt.mpr hy, if_false]; refine congrArg (fun z : Int => (pure (Value.int .u64 z) : Sem Value)) ?_
  unfold shr64; rw [U64_ofNat]; unfold U64
  show ((a.toNat : Int)).fdiv (2 ^ min y.toNat 64) = _
  have e : ((2 : Int) ^ min y.toNat 64) = ((2 ^ min y.toNat 64 : Nat) : Int) := by simp
  rw [e, Int.fdiv_eq_ediv_of_nonneg _ (Int.natCast_nonneg _), ← Int.natCast_ediv]
  have ha := a.toNat_lt
  by_cases h : y.toNat ≤ 64
  · rw [Nat.min_eq_left h]
    rw [Nat.mod_eq_of_lt]; exact Nat.lt_of_le_of_lt (Nat.div_le_self _ _) ha
  · rw [Nat.min_eq_right (by omega)]
    have h1 : a.toNat / 2 ^ 64 = 0 := Nat.div_eq_of_lt ha
    have h2 : a.toNat / 2 ^ y.toNat = 0 := Nat.div_eq_of_lt (Nat.lt_of_lt_of_le ha (Nat.pow_le_pow_right (by omega) (by omega)))
    rw [h1, h2]
@[go_sem 11000] theorem u64_addB (t : TypeId) (a b : UInt64) : binOp .add t (.int .u64 (U64 a)) (.int .u64 (U64 b)) = pure (.int .u64 (U64 (add64 a b))) := by
  rw [binOp_add]; exact u64_add_ a b
@[go_sem 11000] theorem u64_subB (t : TypeId) (a b : UInt64) : binOp .sub t (.int .u64 (U64 a)) (.int .u64 (U64 b)) = pure (.int .u64 (U64 (sub64 a b))) := by
  rw [binOp_sub]; exact u64_sub_ a b
@[go_sem 11000] theorem u64_mulB (t : TypeId) (a b : UInt64) : binOp .mul t (.int .u64 (U64 a)) (.int .u64 (U64 b)) = pure (.int .u64 (U64 (mul64 a b))) := by
  rw [binOp_mul]; exact u64_mul_ a b
@[go_sem high] theorem u64_addrB (t : TypeId) (k : Int) (b : UInt64) (h0 : 0 ≤ k) (h1 : k < 18446744073709551616) : binOp .add t (.int .u64 (U64 b)) (.int .u64 k) = pure (.int .u64 (U64 (add64 b (UInt64.ofNat k.toNat)))) := by
  rw [binOp_add]; exact u64_add_r k b h0 h1
@[go_sem high] theorem u64_mulrB (t : TypeId) (k : Int) (b : UInt64) (h0 : 0 ≤ k) (h1 : k < 18446744073709551616) : binOp .mul t (.int .u64 (U64 b)) (.int .u64 k) = pure (.int .u64 (U64 (mul64 b (UInt64.ofNat k.toNat)))) := by
  rw [binOp_mul, ← u64_mul_, ← u64_of k h0 h1]
@[go_sem high] theorem u64_subrB (t : TypeId) (k : Int) (b : UInt64) (h0 : 0 ≤ k) (h1 : k < 18446744073709551616) : binOp .sub t (.int .u64 (U64 b)) (.int .u64 k) = pure (.int .u64 (U64 (sub64 b (UInt64.ofNat k.toNat)))) := by
  rw [binOp_sub, ← u64_sub_, ← u64_of k h0 h1]
@[go_sem high] theorem u64_sublB (t : TypeId) (k : Int) (b : UInt64) (h0 : 0 ≤ k) (h1 : k < 18446744073709551616) : binOp .sub t (.int .u64 k) (.int .u64 (U64 b)) = pure (.int .u64 (U64 (sub64 (UInt64.ofNat k.toNat) b))) := by
  rw [binOp_sub, ← u64_sub_, ← u64_of k h0 h1]
@[go_sem high] theorem u64_mullB (t : TypeId) (k : Int) (b : UInt64) (h0 : 0 ≤ k) (h1 : k < 18446744073709551616) : binOp .mul t (.int .u64 k) (.int .u64 (U64 b)) = pure (.int .u64 (U64 (mul64 (UInt64.ofNat k.toNat) b))) := by
  rw [binOp_mul]; exact u64_mul_l k b h0 h1
@[go_sem high] theorem u64_shlB (t : TypeId) (a : UInt64) (yk : IntKind) (y : Int) (hy : 0 ≤ y) : binOp .shl t (.int .u64 (U64 a)) (.int yk y) = pure (.int .u64 (U64 (shl64 a y.toNat))) := by
  rw [binOp_shl]; exact u64_shl_ a yk y hy
@[go_sem high] theorem u64_shrB (t : TypeId) (a : UInt64) (yk : IntKind) (y : Int) (hy : 0 ≤ y) : binOp .shr t (.int .u64 (U64 a)) (.int yk y) = pure (.int .u64 (U64 (shr64 a y.toNat))) := by
  rw [binOp_shr]; exact u64_shr_ a yk y hy

def c8to8 (v : UInt8) : UInt8 := UInt8.ofNat v.toNat
@[go_sem high] theorem conv_8_8 (v : UInt8) : Conv.intToInt .u8 (U8 v) = pure (.int .u8 (U8 (c8to8 v))) := by
  simp only [Conv.intToInt]; refine congrArg (fun z : Int => (pure (Value.int .u8 z) : Sem Value)) ?_; unfold c8to8; rw [wrap_u8_, U8_ofNat]; unfold U8; omega
@[go_sem high] theorem wrapc_8_8 (v : UInt8) : IntKind.u8.wrap (U8 v) = U8 (c8to8 v) := by
  unfold c8to8; rw [wrap_u8_, U8_ofNat]; unfold U8; omega

def c8to16 (v : UInt8) : UInt16 := UInt16.ofNat v.toNat
@[go_sem high] theorem conv_8_16 (v : UInt8) : Conv.intToInt .u16 (U8 v) = pure (.int .u16 (U16 (c8to16 v))) := by
  simp only [Conv.intToInt]; refine congrArg (fun z : Int => (pure (Value.int .u16 z) : Sem Value)) ?_; unfold c8to16; rw [wrap_u16_, U16_ofNat]; unfold U8; omega
@[go_sem high] theorem wrapc_8_16 (v : UInt8) : IntKind.u16.wrap (U8 v) = U16 (c8to16 v) := by
  unfold c8to16; rw [wrap_u16_, U16_ofNat]; unfold U8; omega

def c8to32 (v : UInt8) : UInt32 := UInt32.ofNat v.toNat
@[go_sem high] theorem conv_8_32 (v : UInt8) : Conv.intToInt .u32 (U8 v) = pure (.int .u32 (U32 (c8to32 v))) := by
  simp only [Conv.intToInt]; refine congrArg (fun z : Int => (pure (Value.int .u32 z) : Sem Value)) ?_; unfold c8to32; rw [wrap_u32_, U32_ofNat]; unfold U8; omega
@[go_sem high] theorem wrapc_8_32 (v : UInt8) : IntKind.u32.wrap (U8 v) = U32 (c8to32 v) := by
  unfold c8to32; rw [wrap_u32_, U32_ofNat]; unfold U8; omega

def c8to64 (v : UInt8) : UInt64 := UInt64.ofNat v.toNat
@[go_sem high] theorem conv_8_64 (v : UInt8) : Conv.intToInt .u64 (U8 v) = pure (.int .u64 (U64 (c8to64 v))) := by
  simp only [Conv.intToInt]; refine congrArg (fun z : Int => (pure (Value.int .u64 z) : Sem Value)) ?_; unfold c8to64; rw [wrap_u64_, U64_ofNat]; unfold U8; omega
@[go_sem high] theorem wrapc_8_64 (v : UInt8) : IntKind.u64.wrap (U8 v) = U64 (c8to64 v) := by
  unfold c8to64; rw [wrap_u64_, U64_ofNat]; unfold U8; omega

def c16to8 (v : UInt16) : UInt8 := UInt8.ofNat v.toNat
@[go_sem high] theorem conv_16_8 (v : UInt16) : Conv.intToInt .u8 (U16 v) = pure (.int .u8 (U8 (c16to8 v))) := by
  simp only [Conv.intToInt]; refine congrArg (fun z : Int => (pure (Value.int .u8 z) : Sem Value)) ?_; unfold c16to8; rw [wrap_u8_, U8_ofNat]; unfold U16; omega
@[go_sem high] theorem wrapc_16_8 (v : UInt16) : IntKind.u8.wrap (U16 v) = U8 (c16to8 v) := by
  unfold c16to8; rw [wrap_u8_, U8_ofNat]; unfold U16; omega

def c16to16 (v : UInt16) : UInt16 := UInt16.ofNat v.toNat
@[go_sem high] theorem conv_16_16 (v : UInt16) : Conv.intToInt .u16 (U16 v) = pure (.int .u16 (U16 (c16to16 v))) := by
  simp only [Conv.intToInt]; refine congrArg (fun z : Int => (pure (Value.int .u16 z) : Sem Value)) ?_; unfold c16to16; rw [wrap_u16_, U16_ofNat]; unfold U16; omega
@[go_sem high] theorem wrapc_16_16 (v : UInt16) : IntKind.u16.wrap (U16 v) = U16 (c16to16 v) := by
  unfold c16to16; rw [wrap_u16_, U16_ofNat]; unfold U16; omega

def c16to32 (v : UInt16) : UInt32 := UInt32.ofNat v.toNat
@[go_sem high] theorem conv_16_32 (v : UInt16) : Conv.intToInt .u32 (U16 v) = pure (.int .u32 (U32 (c16to32 v))) := by
  simp only [Conv.intToInt]; refine congrArg (fun z : Int => (pure (Value.int .u32 z) : Sem Value)) ?_; unfold c16to32; rw [wrap_u32_, U32_ofNat]; unfold U16; omega
@[go_sem high] theorem wrapc_16_32 (v : UInt16) : IntKind.u32.wrap (U16 v) = U32 (c16to32 v) := by
  unfold c16to32; rw [wrap_u32_, U32_ofNat]; unfold U16; omega

def c16to64 (v : UInt16) : UInt64 := UInt64.ofNat v.toNat
@[go_sem high] theorem conv_16_64 (v : UInt16) : Conv.intToInt .u64 (U16 v) = pure (.int .u64 (U64 (c16to64 v))) := by
  simp only [Conv.intToInt]; refine congrArg (fun z : Int => (pure (Value.int .u64 z) : Sem Value)) ?_; unfold c16to64; rw [wrap_u64_, U64_ofNat]; unfold U16; omega
@[go_sem high] theorem wrapc_16_64 (v : UInt16) : IntKind.u64.wrap (U16 v) = U64 (c16to64 v) := by
  unfold c16to64; rw [wrap_u64_, U64_ofNat]; unfold U16; omega

def c32to8 (v : UInt32) : UInt8 := UInt8.ofNat v.toNat
@[go_sem high] theorem conv_32_8 (v : UInt32) : Conv.intToInt .u8 (U32 v) = pure (.int .u8 (U8 (c32to8 v))) := by
  simp only [Conv.intToInt]; refine congrArg (fun z : Int => (pure (Value.int .u8 z) : Sem Value)) ?_; unfold c32to8; rw [wrap_u8_, U8_ofNat]; unfold U32; omega
@[go_sem high] theorem wrapc_32_8 (v : UInt32) : IntKind.u8.wrap (U32 v) = U8 (c32to8 v) := by
  unfold c32to8; rw [wrap_u8_, U8_ofNat]; unfold U32; omega

def c32to16 (v : UInt32) : UInt16 := UInt16.ofNat v.toNat
@[go_sem high] theorem conv_32_16 (v : UInt32) : Conv.intToInt .u16 (U32 v) = pure (.int .u16 (U16 (c32to16 v))) := by
  simp only [Conv.intToInt]; refine congrArg (fun z : Int => (pure (Value.int .u16 z) : Sem Value)) ?_; unfold c32to16; rw [wrap_u16_, U16_ofNat]; unfold U32; omega
@[go_sem high] theorem wrapc_32_16 (v : UInt32) : IntKind.u16.wrap (U32 v) = U16 (c32to16 v) := by
  unfold c32to16; rw [wrap_u16_, U16_ofNat]; unfold U32; omega

def c32to32 (v : UInt32) : UInt32 := UInt32.ofNat v.toNat
@[go_sem high] theorem conv_32_32 (v : UInt32) : Conv.intToInt .u32 (U32 v) = pure (.int .u32 (U32 (c32to32 v))) := by
  simp only [Conv.intToInt]; refine congrArg (fun z : Int => (pure (Value.int .u32 z) : Sem Value)) ?_; unfold c32to32; rw [wrap_u32_, U32_ofNat]; unfold U32; omega
@[go_sem high] theorem wrapc_32_32 (v : UInt32) : IntKind.u32.wrap (U32 v) = U32 (c32to32 v) := by
  unfold c32to32; rw [wrap_u32_, U32_ofNat]; unfold U32; omega

def c32to64 (v : UInt32) : UInt64 := UInt64.ofNat v.toNat
@[go_sem high] theorem conv_32_64 (v : UInt32) : Conv.intToInt .u64 (U32 v) = pure (.int .u64 (U64 (c32to64 v))) := by
  simp only [Conv.intToInt]; refine congrArg (fun z : Int => (pure (Value.int .u64 z) : Sem Value)) ?_; unfold c32to64; rw [wrap_u64_, U64_ofNat]; unfold U32; omega
@[go_sem high] theorem wrapc_32_64 (v : UInt32) : IntKind.u64.wrap (U32 v) = U64 (c32to64 v) := by
  unfold c32to64; rw [wrap_u64_, U64_ofNat]; unfold U32; omega

def c64to8 (v : UInt64) : UInt8 := UInt8.ofNat v.toNat
@[go_sem high] theorem conv_64_8 (v : UInt64) : Conv.intToInt .u8 (U64 v) = pure (.int .u8 (U8 (c64to8 v))) := by
  simp only [Conv.intToInt]; refine congrArg (fun z : Int => (pure (Value.int .u8 z) : Sem Value)) ?_; unfold c64to8; rw [wrap_u8_, U8_ofNat]; unfold U64; omega
@[go_sem high] theorem wrapc_64_8 (v : UInt64) : IntKind.u8.wrap (U64 v) = U8 (c64to8 v) := by
  unfold c64to8; rw [wrap_u8_, U8_ofNat]; unfold U64; omega

def c64to16 (v : UInt64) : UInt16 := UInt16.ofNat v.toNat
@[go_sem high] theorem conv_64_16 (v : UInt64) : Conv.intToInt .u16 (U64 v) = pure (.int .u16 (U16 (c64to16 v))) := by
  simp only [Conv.intToInt]; refine congrArg (fun z : Int => (pure (Value.int .u16 z) : Sem Value)) ?_; unfold c64to16; rw [wrap_u16_, U16_ofNat]; unfold U64; omega
@[go_sem high] theorem wrapc_64_16 (v : UInt64) : IntKind.u16.wrap (U64 v) = U16 (c64to16 v) := by
  unfold c64to16; rw [wrap_u16_, U16_ofNat]; unfold U64; omega

def c64to32 (v : UInt64) : UInt32 := UInt32.ofNat v.toNat
@[go_sem high] theorem conv_64_32 (v : UInt64) : Conv.intToInt .u32 (U64 v) = pure (.int .u32 (U32 (c64to32 v))) := by
  simp only [Conv.intToInt]; refine congrArg (fun z : Int => (pure (Value.int .u32 z) : Sem Value)) ?_; unfold c64to32; rw [wrap_u32_, U32_ofNat]; unfold U64; omega
@[go_sem high] theorem wrapc_64_32 (v : UInt64) : IntKind.u32.wrap (U64 v) = U32 (c64to32 v) := by
  unfold c64to32; rw [wrap_u32_, U32_ofNat]; unfold U64; omega

def c64to64 (v : UInt64) : UInt64 := UInt64.ofNat v.toNat
@[go_sem high] theorem conv_64_64 (v : UInt64) : Conv.intToInt .u64 (U64 v) = pure (.int .u64 (U64 (c64to64 v))) := by
  simp only [Conv.intToInt]; refine congrArg (fun z : Int => (pure (Value.int .u64 z) : Sem Value)) ?_; unfold c64to64; rw [wrap_u64_, U64_ofNat]; unfold U64; omega
@[go_sem high] theorem wrapc_64_64 (v : UInt64) : IntKind.u64.wrap (U64 v) = U64 (c64to64 v) := by
  unfold c64to64; rw [wrap_u64_, U64_ofNat]; unfold U64; omega

@[go_sem high] theorem wrapi_8 (v : UInt8) : IntKind.i64.wrap (U8 v) = U8 v := by
  have := U8_lo v; have := U8_hi v; rw [IntKind.wrap_i64]; omega

@[go_sem high] theorem wrapi_16 (v : UInt16) : IntKind.i64.wrap (U16 v) = U16 v := by
  have := U16_lo v; have := U16_hi v; rw [IntKind.wrap_i64]; omega

@[go_sem high] theorem wrapi_32 (v : UInt32) : IntKind.i64.wrap (U32 v) = U32 v := by
  have := U32_lo v; have := U32_hi v; rw [IntKind.wrap_i64]; omega
attribute [irreducible] add8 sub8 mul8 neg8 and8 or8 xor8 not8 shl8 shr8
attribute [irreducible] c8to8 c8to16 c8to32 c8to64
attribute [irreducible] add16 sub16 mul16 neg16 and16 or16 xor16 not16 shl16 shr16
attribute [irreducible] c16to8 c16to16 c16to32 c16to64
attribute [irreducible] add32 sub32 mul32 neg32 and32 or32 xor32 not32 shl32 shr32
attribute [irreducible] c32to8 c32to16 c32to32 c32to64
attribute [irreducible] add64 sub64 mul64 neg64 and64 or64 xor64 not64 shl64 shr64
attribute [irreducible] c64to8 c64to16 c64to32 c64to64

end Go.Proofs.Ytamcjecgkfmjkaa
