/- Parts of a proof: Common words: machine integers behind opaque names, rules of the walk for them, rows of cells in memory, A logic of values and boxes over the walk: its words, and how they stand to memory, The logic: '==' of arrays and structs of numbers and truths, The logic: operations that leave memory alone, The logic: the operations that leave memory alone do what the logic says, The logic: how memory and its words go on together: boxes made and written, rows made, The logic: operations that make or write memory, The logic: operations that make or write memory do what the logic says. -/
import Derived.WalkKit
import Derived.Deep.QuietTactic
import Derived.BigQuiet
import Derived.Outline
import Derived.Maps.AppendAt
import Derived.Deep.AppendLies
import Derived.Deep.Draws
import Derived.StillTailTactics
import Derived.KernelRfl
import Derived.Laws.CopyOwn
import Derived.Laws.StructEq
import Derived.ChangeKeysEq
import Derived.WalkLawsBesides
import Derived.Great.BuildSlice
import Derived.Laws.Tables
set_option linter.unusedSimpArgs false
set_option linter.unusedVariables false
open Go Go.RowKit
namespace Go.Proofs.YtgeelaafmnedmaaGreat
section
theorem hide {p : Prop} (h : p) : Hid p := h

/-! ### integers -/

def U8 (v : UInt8) : Int := v.toNat
@[go_sem] theorem U8_eq (v : UInt8) : (v.toNat : Int) = U8 v := rfl
theorem wrap_u8_ (n : Int) : IntKind.u8.wrap n = n % 256 := by simp [IntKind.wrap, IntKind.bits, IntKind.signed]
def add8 (a b : UInt8) : UInt8 := a + b
def sub8 (a b : UInt8) : UInt8 := a - b
def mul8 (a b : UInt8) : UInt8 := a * b
def neg8 (a : UInt8) : UInt8 := 0 - a
def and8 (a b : UInt8) : UInt8 := a &&& b
def or8 (a b : UInt8) : UInt8 := a ||| b
def xor8 (a b : UInt8) : UInt8 := a ^^^ b
def not8 (a : UInt8) : UInt8 := ~~~ a
def shl8 (a : UInt8) (k : Nat) : UInt8 := UInt8.ofNat (a.toNat * 2 ^ k)
def shr8 (a : UInt8) (k : Nat) : UInt8 := UInt8.ofNat (a.toNat / 2 ^ k)
theorem U8_ofNat (k : Nat) : U8 (UInt8.ofNat k) = ((k % 256 : Nat) : Int) := by unfold U8; rw [UInt8.toNat_ofNat']
theorem U8_lit (k : Nat) (h : k < 256) : U8 (UInt8.ofNat k) = (k : Int) := by rw [U8_ofNat, Nat.mod_eq_of_lt h]
theorem ofInt_U8 (a : UInt8) : BitVec.ofInt 8 (U8 a) = a.toBitVec := by
  unfold U8; rw [BitVec.ofInt_natCast]; exact BitVec.ofNat_toNat _ _ |>.trans (by simp)
@[go_sem 11000] theorem u8_or_ (a b : UInt8) : Op.intBits .or .u8 (U8 a) (U8 b) = pure (.int .u8 (U8 (or8 a b))) := by
  simp only [Op.intBits]; refine congrArg (fun z : Int => (pure (Value.int .u8 z) : Sem Value)) ?_
  show IntKind.u8.wrap ((BitVec.ofInt 8 (U8 a) ||| BitVec.ofInt 8 (U8 b)).toNat : Int) = _
  rw [ofInt_U8, ofInt_U8, wrap_u8_]; unfold U8 or8; rw [← UInt8.toBitVec_or]; have := (a ||| b).toNat_lt; show ((a ||| b).toNat : Int) % _ = _; omega
theorem u8_of (k : Int) (h0 : 0 ≤ k) (h1 : k < 256) : k = U8 (UInt8.ofNat k.toNat) := by rw [U8_lit _ (by omega)]; omega
def U16 (v : UInt16) : Int := v.toNat
theorem U16_lo (v : UInt16) : 0 ≤ U16 v := by unfold U16; omega
theorem U16_hi (v : UInt16) : U16 v < 65536 := by unfold U16; have := v.toNat_lt; omega
@[go_sem] theorem U16_eq (v : UInt16) : (v.toNat : Int) = U16 v := rfl
def add16 (a b : UInt16) : UInt16 := a + b
def sub16 (a b : UInt16) : UInt16 := a - b
def mul16 (a b : UInt16) : UInt16 := a * b
def neg16 (a : UInt16) : UInt16 := 0 - a
def and16 (a b : UInt16) : UInt16 := a &&& b
def or16 (a b : UInt16) : UInt16 := a ||| b
def xor16 (a b : UInt16) : UInt16 := a ^^^ b
def not16 (a : UInt16) : UInt16 := ~~~ a
def shl16 (a : UInt16) (k : Nat) : UInt16 := UInt16.ofNat (a.toNat * 2 ^ k)
def shr16 (a : UInt16) (k : Nat) : UInt16 := UInt16.ofNat (a.toNat / 2 ^ k)
def U32 (v : UInt32) : Int := v.toNat
theorem U32_lo (v : UInt32) : 0 ≤ U32 v := by unfold U32; omega
@[go_sem] theorem U32_eq (v : UInt32) : (v.toNat : Int) = U32 v := rfl
theorem wrap_u32_ (n : Int) : IntKind.u32.wrap n = n % 4294967296 := by simp [IntKind.wrap, IntKind.bits, IntKind.signed]
def add32 (a b : UInt32) : UInt32 := a + b
def sub32 (a b : UInt32) : UInt32 := a - b
def mul32 (a b : UInt32) : UInt32 := a * b
def neg32 (a : UInt32) : UInt32 := 0 - a
def and32 (a b : UInt32) : UInt32 := a &&& b
def or32 (a b : UInt32) : UInt32 := a ||| b
def xor32 (a b : UInt32) : UInt32 := a ^^^ b
def not32 (a : UInt32) : UInt32 := ~~~ a
def shl32 (a : UInt32) (k : Nat) : UInt32 := UInt32.ofNat (a.toNat * 2 ^ k)
def shr32 (a : UInt32) (k : Nat) : UInt32 := UInt32.ofNat (a.toNat / 2 ^ k)
theorem U32_ofNat (k : Nat) : U32 (UInt32.ofNat k) = ((k % 4294967296 : Nat) : Int) := by unfold U32; rw [UInt32.toNat_ofNat']
theorem U32_lit (k : Nat) (h : k < 4294967296) : U32 (UInt32.ofNat k) = (k : Int) := by rw [U32_ofNat, Nat.mod_eq_of_lt h]
@[go_sem 11000] theorem u32_add_ (a b : UInt32) : Op.intArith .add .u32 (U32 a) (U32 b) = pure (.int .u32 (U32 (add32 a b))) := by
  simp only [Op.intArith]; refine congrArg (fun z : Int => (pure (Value.int .u32 z) : Sem Value)) ?_; unfold U32 add32; rw [wrap_u32_, UInt32.toNat_add]; omega
theorem ofInt_U32 (a : UInt32) : BitVec.ofInt 32 (U32 a) = a.toBitVec := by
  unfold U32; rw [BitVec.ofInt_natCast]; exact BitVec.ofNat_toNat _ _ |>.trans (by simp)
@[go_sem 11000] theorem u32_and_ (a b : UInt32) : Op.intBits .and .u32 (U32 a) (U32 b) = pure (.int .u32 (U32 (and32 a b))) := by
  simp only [Op.intBits]; refine congrArg (fun z : Int => (pure (Value.int .u32 z) : Sem Value)) ?_
  show IntKind.u32.wrap ((BitVec.ofInt 32 (U32 a) &&& BitVec.ofInt 32 (U32 b)).toNat : Int) = _
  rw [ofInt_U32, ofInt_U32, wrap_u32_]; unfold U32 and32; rw [← UInt32.toBitVec_and]; have := (a &&& b).toNat_lt; show ((a &&& b).toNat : Int) % _ = _; omega
@[go_sem 11000] theorem u32_or_ (a b : UInt32) : Op.intBits .or .u32 (U32 a) (U32 b) = pure (.int .u32 (U32 (or32 a b))) := by
  simp only [Op.intBits]; refine congrArg (fun z : Int => (pure (Value.int .u32 z) : Sem Value)) ?_
  show IntKind.u32.wrap ((BitVec.ofInt 32 (U32 a) ||| BitVec.ofInt 32 (U32 b)).toNat : Int) = _
  rw [ofInt_U32, ofInt_U32, wrap_u32_]; unfold U32 or32; rw [← UInt32.toBitVec_or]; have := (a ||| b).toNat_lt; show ((a ||| b).toNat : Int) % _ = _; omega
@[go_sem 11000] theorem u32_xor_ (a b : UInt32) : Op.intBits .xor .u32 (U32 a) (U32 b) = pure (.int .u32 (U32 (xor32 a b))) := by
  simp only [Op.intBits]; refine congrArg (fun z : Int => (pure (Value.int .u32 z) : Sem Value)) ?_
  show IntKind.u32.wrap ((BitVec.ofInt 32 (U32 a) ^^^ BitVec.ofInt 32 (U32 b)).toNat : Int) = _
  rw [ofInt_U32, ofInt_U32, wrap_u32_]; unfold U32 xor32; rw [← UInt32.toBitVec_xor]; have := (a ^^^ b).toNat_lt; show ((a ^^^ b).toNat : Int) % _ = _; omega
@[go_sem high] theorem u32_not_ (a : UInt32) : Op.unary .xor (.int .u32 (U32 a)) = pure (.int .u32 (U32 (not32 a))) := by
  have e : (0 - 1 : UInt32) ^^^ a = ~~~ a := by
    rw [← UInt32.toBitVec_inj, UInt32.toBitVec_xor, UInt32.toBitVec_not]; exact BitVec.allOnes_xor
  have h := u32_xor_ (0 - 1) a
  unfold xor32 at h
  rw [e] at h
  exact h
@[go_sem high] theorem u32_shl_ (a : UInt32) (yk : IntKind) (y : Int) (hy : 0 ≤ y) : Op.shift .shl .u32 (U32 a) yk y = pure (.int .u32 (U32 (shl32 a y.toNat))) := by
  simp only [Op.shift, Int.not_lt.mpr hy, if_false]; refine congrArg (fun z : Int => (pure (Value.int .u32 z) : Sem Value)) ?_
  rw [wrap_u32_]; unfold shl32; rw [U32_ofNat]; unfold U32
  show ((a.toNat : Int) * 2 ^ min y.toNat 32) % _ = _
  have e : ((2 : Int) ^ min y.toNat 32) = ((2 ^ min y.toNat 32 : Nat) : Int) := by simp
  rw [e, ← Int.natCast_mul]
  by_cases h : y.toNat ≤ 32
  · rw [Nat.min_eq_left h]; omega
  rw [Nat.min_eq_right (by omega)]
  have hd : 4294967296 ∣ 2 ^ y.toNat := by
    rw [show 4294967296 = 2 ^ 32 by rfl]; exact Nat.pow_dvd_pow 2 (by omega)
  have h1 : (a.toNat * 2 ^ y.toNat) % 4294967296 = 0 := Nat.mod_eq_zero_of_dvd (Nat.dvd_trans hd (Nat.dvd_mul_left _ _))
  rw [h1]; omega
@[go_sem high] theorem u32_shr_ (a : UInt32) (yk : IntKind) (y : Int) (hy : 0 ≤ y) : Op.shift .shr .u32 (U32 a) yk y = pure (.int .u32 (U32 (shr32 a y.toNat))) := by
  simp only [Op.shift, Int.not_lt.mpr hy, if_false]; refine congrArg (fun z : Int => (pure (Value.int .u32 z) : Sem Value)) ?_
  unfold shr32; rw [U32_ofNat]; unfold U32
  show ((a.toNat : Int)).fdiv (2 ^ min y.toNat 32) = _
  have e : ((2 : Int) ^ min y.toNat 32) = ((2 ^ min y.toNat 32 : Nat) : Int) := by simp
  rw [e, Int.fdiv_eq_ediv_of_nonneg _ (Int.natCast_nonneg _), ← Int.natCast_ediv]
  have ha := a.toNat_lt
  by_cases h : y.toNat ≤ 32
  · rw [Nat.min_eq_left h]
    rw [Nat.mod_eq_of_lt]; exact Nat.lt_of_le_of_lt (Nat.div_le_self _ _) ha
  rw [Nat.min_eq_right (by omega)]
  have h1 : a.toNat / 2 ^ 32 = 0 := Nat.div_eq_of_lt ha
  have h2 : a.toNat / 2 ^ y.toNat = 0 := Nat.div_eq_of_lt (Nat.lt_of_lt_of_le ha (Nat.pow_le_pow_right (by omega) (by omega)))
  rw [h1, h2]
@[go_sem 11000] theorem u32_addB (t : TypeId) (a b : UInt32) : binOp .add t (.int .u32 (U32 a)) (.int .u32 (U32 b)) = pure (.int .u32 (U32 (add32 a b))) := by
  rw [binOp_add]; exact u32_add_ a b
@[go_sem high] theorem u32_shlB (t : TypeId) (a : UInt32) (yk : IntKind) (y : Int) (hy : 0 ≤ y) : binOp .shl t (.int .u32 (U32 a)) (.int yk y) = pure (.int .u32 (U32 (shl32 a y.toNat))) := by
  rw [binOp_shl]; exact u32_shl_ a yk y hy
@[go_sem high] theorem u32_shrB (t : TypeId) (a : UInt32) (yk : IntKind) (y : Int) (hy : 0 ≤ y) : binOp .shr t (.int .u32 (U32 a)) (.int yk y) = pure (.int .u32 (U32 (shr32 a y.toNat))) := by
  rw [binOp_shr]; exact u32_shr_ a yk y hy

def U64 (v : UInt64) : Int := v.toNat
@[go_sem] theorem U64_eq (v : UInt64) : (v.toNat : Int) = U64 v := rfl
theorem wrap_u64_ (n : Int) : IntKind.u64.wrap n = n % 18446744073709551616 := by simp [IntKind.wrap, IntKind.bits, IntKind.signed]
def add64 (a b : UInt64) : UInt64 := a + b
def sub64 (a b : UInt64) : UInt64 := a - b
def mul64 (a b : UInt64) : UInt64 := a * b
def neg64 (a : UInt64) : UInt64 := 0 - a
def and64 (a b : UInt64) : UInt64 := a &&& b
def or64 (a b : UInt64) : UInt64 := a ||| b
def xor64 (a b : UInt64) : UInt64 := a ^^^ b
def not64 (a : UInt64) : UInt64 := ~~~ a
def shl64 (a : UInt64) (k : Nat) : UInt64 := UInt64.ofNat (a.toNat * 2 ^ k)
def shr64 (a : UInt64) (k : Nat) : UInt64 := UInt64.ofNat (a.toNat / 2 ^ k)
theorem U64_ofNat (k : Nat) : U64 (UInt64.ofNat k) = ((k % 18446744073709551616 : Nat) : Int) := by unfold U64; rw [UInt64.toNat_ofNat']
theorem U64_lit (k : Nat) (h : k < 18446744073709551616) : U64 (UInt64.ofNat k) = (k : Int) := by rw [U64_ofNat, Nat.mod_eq_of_lt h]
@[go_sem 11000] theorem u64_add_ (a b : UInt64) : Op.intArith .add .u64 (U64 a) (U64 b) = pure (.int .u64 (U64 (add64 a b))) := by
  simp only [Op.intArith]; refine congrArg (fun z : Int => (pure (Value.int .u64 z) : Sem Value)) ?_; unfold U64 add64; rw [wrap_u64_, UInt64.toNat_add]; omega
@[go_sem 11000] theorem u64_mul_ (a b : UInt64) : Op.intArith .mul .u64 (U64 a) (U64 b) = pure (.int .u64 (U64 (mul64 a b))) := by
  simp only [Op.intArith]; refine congrArg (fun z : Int => (pure (Value.int .u64 z) : Sem Value)) ?_; unfold U64 mul64; rw [wrap_u64_, UInt64.toNat_mul, ← Int.natCast_mul]; omega
theorem ofInt_U64 (a : UInt64) : BitVec.ofInt 64 (U64 a) = a.toBitVec := by
  unfold U64; rw [BitVec.ofInt_natCast]; exact BitVec.ofNat_toNat _ _ |>.trans (by simp)
@[go_sem 11000] theorem u64_and_ (a b : UInt64) : Op.intBits .and .u64 (U64 a) (U64 b) = pure (.int .u64 (U64 (and64 a b))) := by
  simp only [Op.intBits]; refine congrArg (fun z : Int => (pure (Value.int .u64 z) : Sem Value)) ?_
  show IntKind.u64.wrap ((BitVec.ofInt 64 (U64 a) &&& BitVec.ofInt 64 (U64 b)).toNat : Int) = _
  rw [ofInt_U64, ofInt_U64, wrap_u64_]; unfold U64 and64; rw [← UInt64.toBitVec_and]; have := (a &&& b).toNat_lt; show ((a &&& b).toNat : Int) % _ = _; omega
@[go_sem 11000] theorem u64_xor_ (a b : UInt64) : Op.intBits .xor .u64 (U64 a) (U64 b) = pure (.int .u64 (U64 (xor64 a b))) := by
  simp only [Op.intBits]; refine congrArg (fun z : Int => (pure (Value.int .u64 z) : Sem Value)) ?_
  show IntKind.u64.wrap ((BitVec.ofInt 64 (U64 a) ^^^ BitVec.ofInt 64 (U64 b)).toNat : Int) = _
  rw [ofInt_U64, ofInt_U64, wrap_u64_]; unfold U64 xor64; rw [← UInt64.toBitVec_xor]; have := (a ^^^ b).toNat_lt; show ((a ^^^ b).toNat : Int) % _ = _; omega
theorem u64_of (k : Int) (h0 : 0 ≤ k) (h1 : k < 18446744073709551616) : k = U64 (UInt64.ofNat k.toNat) := by rw [U64_lit _ (by omega)]; omega
@[go_sem high] theorem u64_shl_ (a : UInt64) (yk : IntKind) (y : Int) (hy : 0 ≤ y) : Op.shift .shl .u64 (U64 a) yk y = pure (.int .u64 (U64 (shl64 a y.toNat))) := by
  simp only [Op.shift, Int.not_lt.mpr hy, if_false]; refine congrArg (fun z : Int => (pure (Value.int .u64 z) : Sem Value)) ?_
  rw [wrap_u64_]; unfold shl64; rw [U64_ofNat]; unfold U64
  show ((a.toNat : Int) * 2 ^ min y.toNat 64) % _ = _
  have e : ((2 : Int) ^ min y.toNat 64) = ((2 ^ min y.toNat 64 : Nat) : Int) := by simp
  rw [e, ← Int.natCast_mul]
  by_cases h : y.toNat ≤ 64
  · rw [Nat.min_eq_left h]; omega
  rw [Nat.min_eq_right (by omega)]
  have hd : 18446744073709551616 ∣ 2 ^ y.toNat := by
    rw [show 18446744073709551616 = 2 ^ 64 by rfl]; exact Nat.pow_dvd_pow 2 (by omega)
  have h1 : (a.toNat * 2 ^ y.toNat) % 18446744073709551616 = 0 := Nat.mod_eq_zero_of_dvd (Nat.dvd_trans hd (Nat.dvd_mul_left _ _))
  rw [h1]; omega
@[go_sem high] theorem u64_shr_ (a : UInt64) (yk : IntKind) (y : Int) (hy : 0 ≤ y) : Op.shift .shr .u64 (U64 a) yk y = pure (.int .u64 (U64 (shr64 a y.toNat))) := by
  simp only [Op.shift, Int.not_lt.mpr hy, if_false]; refine congrArg (fun z : Int => (pure (Value.int .u64 z) : Sem Value)) ?_
  unfold shr64; rw [U64_ofNat]; unfold U64
  show ((a.toNat : Int)).fdiv (2 ^ min y.toNat 64) = _
  have e : ((2 : Int) ^ min y.toNat 64) = ((2 ^ min y.toNat 64 : Nat) : Int) := by simp
  rw [e, Int.fdiv_eq_ediv_of_nonneg _ (Int.natCast_nonneg _), ← Int.natCast_ediv]
  have ha := a.toNat_lt
  by_cases h : y.toNat ≤ 64
  · rw [Nat.min_eq_left h]
    rw [Nat.mod_eq_of_lt]; exact Nat.lt_of_le_of_lt (Nat.div_le_self _ _) ha
  rw [Nat.min_eq_right (by omega)]
  have h1 : a.toNat / 2 ^ 64 = 0 := Nat.div_eq_of_lt ha
  have h2 : a.toNat / 2 ^ y.toNat = 0 := Nat.div_eq_of_lt (Nat.lt_of_lt_of_le ha (Nat.pow_le_pow_right (by omega) (by omega)))
  rw [h1, h2]
@[go_sem high] theorem u64_mulrB (t : TypeId) (k : Int) (b : UInt64) (h0 : 0 ≤ k) (h1 : k < 18446744073709551616) : binOp .mul t (.int .u64 (U64 b)) (.int .u64 k) = pure (.int .u64 (U64 (mul64 b (UInt64.ofNat k.toNat)))) := by
  rw [binOp_mul, ← u64_mul_, ← u64_of k h0 h1]
@[go_sem high] theorem u64_shlB (t : TypeId) (a : UInt64) (yk : IntKind) (y : Int) (hy : 0 ≤ y) : binOp .shl t (.int .u64 (U64 a)) (.int yk y) = pure (.int .u64 (U64 (shl64 a y.toNat))) := by
  rw [binOp_shl]; exact u64_shl_ a yk y hy
@[go_sem high] theorem u64_shrB (t : TypeId) (a : UInt64) (yk : IntKind) (y : Int) (hy : 0 ≤ y) : binOp .shr t (.int .u64 (U64 a)) (.int yk y) = pure (.int .u64 (U64 (shr64 a y.toNat))) := by
  rw [binOp_shr]; exact u64_shr_ a yk y hy

def c8to8 (v : UInt8) : UInt8 := UInt8.ofNat v.toNat
def c8to16 (v : UInt8) : UInt16 := UInt16.ofNat v.toNat
def c8to32 (v : UInt8) : UInt32 := UInt32.ofNat v.toNat
@[go_sem high] theorem wrapc_8_32 (v : UInt8) : IntKind.u32.wrap (U8 v) = U32 (c8to32 v) := by
  unfold c8to32; rw [wrap_u32_, U32_ofNat]; unfold U8; omega

def c8to64 (v : UInt8) : UInt64 := UInt64.ofNat v.toNat
def c16to8 (v : UInt16) : UInt8 := UInt8.ofNat v.toNat
def c16to16 (v : UInt16) : UInt16 := UInt16.ofNat v.toNat
def c16to32 (v : UInt16) : UInt32 := UInt32.ofNat v.toNat
def c16to64 (v : UInt16) : UInt64 := UInt64.ofNat v.toNat
def c32to8 (v : UInt32) : UInt8 := UInt8.ofNat v.toNat
@[go_sem high] theorem wrapc_32_8 (v : UInt32) : IntKind.u8.wrap (U32 v) = U8 (c32to8 v) := by
  unfold c32to8; rw [wrap_u8_, U8_ofNat]; unfold U32; omega

def c32to16 (v : UInt32) : UInt16 := UInt16.ofNat v.toNat
def c32to32 (v : UInt32) : UInt32 := UInt32.ofNat v.toNat
def c32to64 (v : UInt32) : UInt64 := UInt64.ofNat v.toNat
def c64to8 (v : UInt64) : UInt8 := UInt8.ofNat v.toNat
@[go_sem high] theorem wrapc_64_8 (v : UInt64) : IntKind.u8.wrap (U64 v) = U8 (c64to8 v) := by
  unfold c64to8; rw [wrap_u8_, U8_ofNat]; unfold U64; omega

def c64to16 (v : UInt64) : UInt16 := UInt16.ofNat v.toNat
def c64to32 (v : UInt64) : UInt32 := UInt32.ofNat v.toNat
def c64to64 (v : UInt64) : UInt64 := UInt64.ofNat v.toNat
attribute [irreducible] add8 sub8 mul8 neg8 and8 or8 xor8 not8 shl8 shr8
attribute [irreducible] c8to8 c8to16 c8to32 c8to64
attribute [irreducible] add16 sub16 mul16 neg16 and16 or16 xor16 not16 shl16 shr16
attribute [irreducible] c16to8 c16to16 c16to32 c16to64
attribute [irreducible] add32 sub32 mul32 neg32 and32 or32 xor32 not32 shl32 shr32
attribute [irreducible] c32to8 c32to16 c32to32 c32to64
attribute [irreducible] add64 sub64 mul64 neg64 and64 or64 xor64 not64 shl64 shr64
attribute [irreducible] c64to8 c64to16 c64to32 c64to64
end
section
/-! ### lists side by side -/
inductive All2 {α β : Type} (R : α → β → Prop) : List α → List β → Prop where
  | nil : All2 R [] []
  | cons {a : α} {b : β} {l : List α} {m : List β} (h : R a b) (t : All2 R l m) : All2 R (a :: l) (b :: m)

section
variable {α β γ : Type} {R S : α → β → Prop}
theorem All2.length {l : List α} {m : List β} (h : All2 R l m) : l.length = m.length := by
  induction h with
  | nil => rfl
  | cons _ _ ih => simp [ih]
theorem All2.get {l : List α} {m : List β} (h : All2 R l m) : ∀ {i : Nat} {a : α}, l[i]? = some a → ∃ b, m[i]? = some b ∧ R a b := by
  induction h with
  | nil => intro i a ha; simp at ha
  | cons h t ih =>
    intro i a ha
    cases i with
    | zero => simp at ha; subst ha; exact ⟨_, by simp, h⟩
    | succ i => simp at ha; obtain ⟨b, hb, hr⟩ := ih ha; exact ⟨b, by simpa using hb, hr⟩
theorem All2.of_get {l : List α} : ∀ {m : List β}, l.length = m.length → (∀ (i : Nat) (a : α) (b : β), l[i]? = some a → m[i]? = some b → R a b) → All2 R l m := by
  induction l with
  | nil => intro m hl _; cases m with
    | nil => exact .nil
    | cons _ _ => simp at hl
  | cons a l ih => intro m hl h; cases m with
    | nil => simp at hl
    | cons b m => exact .cons (h 0 a b (by simp) (by simp)) (ih (by simpa using hl) fun i a b ha hb => h (i + 1) a b (by simpa using ha) (by simpa using hb))
theorem All2.mono {l : List α} {m : List β} (h : All2 R l m) (hs : ∀ a b, R a b → S a b) : All2 S l m := by
  induction h with
  | nil => exact .nil
  | cons h _ ih => exact .cons (hs _ _ h) ih
theorem All2.map {T : γ → β → Prop} {f : α → γ} {l : List α} {m : List β} (h : All2 R l m) (hs : ∀ a b, R a b → T (f a) b) : All2 T (l.map f) m := by
  induction h with
  | nil => exact .nil
  | cons h _ ih => exact .cons (hs _ _ h) ih
theorem All2.set {l : List α} {m : List β} (h : All2 R l m) {a : α} {b : β} (hab : R a b) : ∀ i : Nat, All2 R (l.set i a) (m.set i b) := by
  induction h with
  | nil => intro i; exact .nil
  | cons h t ih => intro i; cases i with
    | zero => exact .cons hab t
    | succ i => exact .cons h (ih i)
theorem All2.append {l l' : List α} {m m' : List β} (h : All2 R l m) (h' : All2 R l' m') : All2 R (l ++ l') (m ++ m') := by
  induction h with
  | nil => exact h'
  | cons h _ ih => exact .cons h ih
theorem All2.take {l : List α} {m : List β} (h : All2 R l m) : ∀ n : Nat, All2 R (l.take n) (m.take n) := by
  induction h with
  | nil => intro n; simp; exact .nil
  | cons h t ih => intro n; cases n with
    | zero => exact .nil
    | succ n => exact .cons h (ih n)
theorem All2.drop {l : List α} {m : List β} (h : All2 R l m) : ∀ n : Nat, All2 R (l.drop n) (m.drop n) := by
  induction h with
  | nil => intro n; simp; exact .nil
  | cons h t ih => intro n; cases n with
    | zero => exact .cons h t
    | succ n => exact ih n
theorem All2.replicate (n : Nat) {a : α} {b : β} (h : R a b) : All2 R (List.replicate n a) (List.replicate n b) := by
  induction n with
  | zero => exact .nil
  | succ n ih => exact .cons h ih
theorem All2.nil_inv {m : List β} (h : All2 R [] m) : m = [] := by cases h; rfl
theorem All2.cons_inv {a : α} {l : List α} {m : List β} (h : All2 R (a :: l) m) : ∃ b t, m = b :: t ∧ R a b ∧ All2 R l t := by
  cases h with
  | cons h t => exact ⟨_, _, rfl, h, t⟩
end

/-! ### addresses -/
theorem block_of_add (a : Addr) (n : Nat) : (a.add n).block = a.block := by unfold Addr.add; split <;> rfl
theorem add_of_add (a : Addr) (i j : Nat) : (a.add i).add j = a.add (i + j) := by
  unfold Addr.add
  by_cases hi : i = 0 <;> by_cases hj : j = 0 <;> simp [hi, hj, Nat.add_assoc]
theorem add_mk (b o n : Nat) : (⟨b, o, none⟩ : Addr).add n = ⟨b, o + n, none⟩ := by
  unfold Addr.add; split <;> simp_all
theorem add_zero_ (a : Addr) : a.add 0 = a := by simp [Addr.add]

/-! ### names, values -/
/-- a box: the k-th that was handed in, or one of the call's own -/
inductive Id where
  | arg (k : Nat)
  | loc (p : List Nat)
deriving DecidableEq
/-- whose a row is that may still grow -/
inductive Tag where
  | slot (p : List Nat)
  | cell (i : Id) (o : Nat)
  | made (p : List Nat)
  | bslot (t : TypeId) (p : List Nat)
  | bcell (t : TypeId) (i : Id) (o : Nat)
deriving DecidableEq
/-- may the row be another's, if it is full? -/
def Tag.lax : Tag → Bool
  | .made _ => false
  | .bslot _ _ => false
  | .bcell _ _ _ => false
  | _ => true
/-- surely one's own, and stays so -/
def Tag.ty : Tag → Option TypeId
  | .bslot t _ => some t
  | .bcell t _ _ => some t
  | _ => none
def sigT (τ : Tag) (i : Id) (off : Nat) : Tag := match τ.ty with
  | some t => .bcell t i off
  | none => .cell i off
theorem strong_lax {τ : Tag} {e : TypeId} (h : τ.ty = some e) : τ.lax = false := by
  cases τ with
  | slot => cases h
  | cell => cases h
  | made => rfl
  | bslot => rfl
  | bcell => rfl
theorem sig_ty {τ : Tag} {i : Id} {off : Nat} : (sigT τ i off).ty = τ.ty := by cases τ <;> rfl
theorem sig_lax {τ : Tag} {i : Id} {off : Nat} (h : τ.lax = true) : (sigT τ i off).lax = true := by
  cases τ <;> first | rfl | (simp [Tag.lax] at h; done)
inductive Own where
  | no
  | full
  | tag (t : Tag)
deriving DecidableEq
/-- data that never change -/
inductive D where
  | val (x : Value)
  | lst (nl : Option Bool) (sz : Nat) (xs : List D)
/-- what one cell holds -/
inductive C where
  | undef
  | val (x : Value)
  | lst (o : Own) (nl : Option Bool) (sz : Nat) (xs : List D)
  | ptr (i : Id) (off : Nat)
  | mem (xs : List D)
  | row (i : Id) (off n c : Nat)
  | fn (f : Fn) (first caps : List (Id × Nat))
  | typ (t : TypeId)
  | ifc
  | stk (t : Tag) (sz : Nat) (ds : List D)
  | sptr (t : Tag) (off sz : Nat) (ds : List D)
inductive W where
  | c (x : C)
  | agg (cs : List C)
inductive V where
  | w (x : W)
  | tup (xs : List W)

def scalar1 : Value → Bool
  | .bool _ => true
  | .int _ _ => true
  | .string _ => true
  | .pointer none => true
  | .nilFunc => true
  | .nilIface => true
  | _ => false
def scalar : Value → Bool
  | .iface _ v => scalar1 v
  | v => scalar1 v

theorem scalar_one {v : Value} (h : scalar v = true) : v.oneCell' = true := by
  cases v <;> simp_all [scalar, scalar1, Value.oneCell']
abbrev V.undef : V := .w (.c .undef)
abbrev V.val (x : Value) : V := .w (.c (.val x))
abbrev V.int (k : IntKind) (n : Int) : V := .w (.c (.val (.int k n)))
abbrev V.bool (b : Bool) : V := .w (.c (.val (.bool b)))
abbrev V.cell (c : C) : V := .w (.c c)

/-! ### what stands for them in memory -/
structure Rec where
  blk : Nat
  n : Nat
  c : Nat
  sz : Nat
  e : TypeId
  ds : Option (List D)
structure Gh where
  M : Addr → Option Value
  B : Id → Nat
  O : Tag → Option Rec

inductive RelD (M : Addr → Option Value) : D → Value → Prop where
  | val {x : Value} (h : scalar x = true) : RelD M (.val x) x
  | nil {nl : Option Bool} {sz : Nat} (h : nl ≠ some false) (hs : 0 < sz) : RelD M (.lst nl sz []) (.slice none 0 0)
  | lst {nl : Option Bool} {sz : Nat} {xs : List D} {a : Addr} {n c : Nat} (h : nl ≠ some true) (hs : 0 < sz) (hl : n * sz = xs.length) (hc : n ≤ c) (hm : c ≤ maxLen)
      (hM : ∀ i, i < xs.length → (M (a.add i)).isSome = true) (hr : ∀ (i : Nat) (d : D), xs[i]? = some d → RelD M d ((M (a.add i)).getD undef)) : RelD M (.lst nl sz xs) (.slice (some a) n c)

/-- the cells from a on are these data -/
def RelM (M : Addr → Option Value) (a : Addr) (xs : List D) : Prop := ∀ (i : Nat) (d : D), xs[i]? = some d → ∃ u, M (a.add i) = some u ∧ RelD M d u

def RelF (y : Value) : Prop := ∀ a n c, y = .slice a n c → n = c
def RelO (O : Tag → Option Rec) (o : Own) (sz : Nat) (y : Value) : Prop :=
  match o with
  | .no => True
  | .full => RelF y
  | .tag t => (t.lax = true ∧ RelF y) ∨ ∃ r, O t = some r ∧ (r.sz = sz ∧ ∀ q, t.ty = some q → r.e = q) ∧ y = .slice (some ⟨r.blk, 0, none⟩) r.n r.c

/-- a row that is one's own alone, and may be written -/
def RelS (o : Option Rec) (sz : Nat) (ds : List D) (y : Value) : Prop := 0 < sz ∧ ((ds = [] ∧ y = .slice none 0 0) ∨ ∃ r, o = some r ∧ r.sz = sz ∧ r.ds = some ds ∧ ds.length = r.n * r.sz ∧ y = .slice (some ⟨r.blk, 0, none⟩) r.n r.c)
def RelQ (o : Option Rec) (off sz : Nat) (ds : List D) (y : Value) : Prop := ∃ r, o = some r ∧ r.sz = sz ∧ r.ds = some ds ∧ y = .pointer (some ⟨r.blk, off, none⟩)
def pv (B : Id → Nat) (p : Id × Nat) : Value := .pointer (some ⟨B p.1, p.2, none⟩)

def RelC (g : Gh) : C → Value → Prop
  | .undef, _ => True
  | .val x, y => scalar x = true ∧ y = x
  | .lst o nl sz xs, y => RelD g.M (.lst nl sz xs) y ∧ RelO g.O o sz y
  | .ptr i off, y => y = .pointer (some ⟨g.B i, off, none⟩)
  | .mem xs, y => ∃ a, y = .pointer (some a) ∧ RelM g.M a xs
  | .row i off n c, y => y = .slice (some ⟨g.B i, off, none⟩) n c
  | .fn f first caps, y => y = .func f (first.map (pv g.B)).toArray (caps.map (pv g.B)).toArray
  | .typ _, y => y = .pointer none
  | .ifc, y => ∃ t v, y = .iface t v
  | .stk t sz ds, y => RelS (g.O t) sz ds y
  | .sptr t off sz ds, y => RelQ (g.O t) off sz ds y
def RelW (g : Gh) : W → Value → Prop
  | .c x, y => RelC g x y
  | .agg cs, y => ∃ ys, y = .agg ys ∧ All2 (RelC g) cs ys.toList
def RelV (g : Gh) : V → Value → Prop
  | .w x, y => RelW g x y
  | .tup xs, y => ∃ ys, y = .tuple ys ∧ All2 (RelW g) xs ys.toList

theorem RelD.mono {M M' : Addr → Option Value} (hM : ∀ a v, M a = some v → M' a = some v) {d : D} {y : Value} (h : RelD M d y) : RelD M' d y := by
  induction h with
  | val h => exact .val h
  | nil h hs => exact .nil h hs
  | @lst nl sz xs a n c h hs hl hc hm hS hr ih =>
    have e : ∀ i, i < xs.length → M' (a.add i) = M (a.add i) := fun i hi => by
      cases hq : M (a.add i) with
      | none => have := hS i hi; rw [hq] at this; cases this
      | some v => exact hM _ _ hq
    refine .lst h hs hl hc hm (fun i hi => by rw [e i hi]; exact hS i hi) (fun i d hd => ?_)
    rw [e i (by have := (List.getElem?_eq_some_iff.1 hd).1; exact this)]
    exact ih i d hd
theorem RelM.mono {M M' : Addr → Option Value} (hM : ∀ a v, M a = some v → M' a = some v) {a : Addr} {xs : List D} (h : RelM M a xs) : RelM M' a xs :=
  fun i d hd => let ⟨u, hu, hr⟩ := h i d hd; ⟨u, hM _ _ hu, hr.mono hM⟩
theorem RelD.mk {M : Addr → Option Value} {nl : Option Bool} {sz : Nat} {xs : List D} {a : Addr} {n c : Nat} (h : nl ≠ some true) (hs : 0 < sz) (hl : n * sz = xs.length) (hc : n ≤ c) (hm : c ≤ maxLen) (hx : RelM M a xs) :
    RelD M (.lst nl sz xs) (.slice (some a) n c) :=
  .lst h hs hl hc hm (fun i hi => by obtain ⟨u, hu, _⟩ := hx i xs[i] (List.getElem?_eq_getElem hi); simp [hu])
    (fun i d hd => by obtain ⟨u, hu, hr⟩ := hx i d hd; simpa [hu] using hr)
theorem RelD.lst_inv {M : Addr → Option Value} {nl : Option Bool} {sz : Nat} {xs : List D} {y : Value} (h : RelD M (.lst nl sz xs) y) :
    0 < sz ∧ ((y = .slice none 0 0 ∧ xs = [] ∧ nl ≠ some false) ∨ ∃ a n c, y = .slice (some a) n c ∧ nl ≠ some true ∧ n * sz = xs.length ∧ n ≤ c ∧ c ≤ maxLen ∧ RelM M a xs) := by
  cases h with
  | nil h hs => exact ⟨hs, .inl ⟨rfl, rfl, h⟩⟩
  | @lst _ _ _ a n c h hs hl hc hm hS hr =>
    refine ⟨hs, .inr ⟨a, n, c, rfl, h, hl, hc, hm, fun i d hd => ?_⟩⟩
    have := hS i (List.getElem?_eq_some_iff.1 hd).1
    cases hq : M (a.add i) with
    | none => rw [hq] at this; cases this
    | some v => exact ⟨v, rfl, by have := hr i d hd; rwa [hq] at this⟩
theorem RelD.one {M : Addr → Option Value} {d : D} {y : Value} (h : RelD M d y) : y.oneCell' = true := by
  cases h with
  | val h => exact scalar_one h
  | nil => rfl
  | lst => rfl
theorem RelC.one {g : Gh} {c : C} {y : Value} (h : RelC g c y) (hu : c ≠ .undef) : y.oneCell' = true := by
  cases c with
  | undef => exact absurd rfl hu
  | val x => obtain ⟨hs, rfl⟩ := h; exact scalar_one hs
  | lst => exact h.1.one
  | ptr => cases h; rfl
  | mem => obtain ⟨a, rfl, _⟩ := h; rfl
  | row => cases h; rfl
  | fn => cases h; rfl
  | typ => cases h; rfl
  | ifc => obtain ⟨_, _, rfl⟩ := h; rfl
  | stk t sz ds => rcases h.2 with ⟨_, rfl⟩ | ⟨_, _, _, _, _, rfl⟩ <;> rfl
  | sptr t off sz ds => obtain ⟨_, _, _, _, rfl⟩ := h; rfl

/-! ### what is struck: boxes and tags -/
def C.clean (bi : Id → Bool) (bt : Tag → Bool) : C → C
  | .lst (.tag t) nl sz xs => if bt t then .lst .no nl sz xs else .lst (.tag t) nl sz xs
  | .ptr i off => if bi i then .undef else .ptr i off
  | .row i off n c => if bi i then .undef else .row i off n c
  | .fn f first caps => if first.any (fun p => bi p.1) || caps.any (fun p => bi p.1) then .undef else .fn f first caps
  | .typ t => if bt (.slot []) then .undef else .typ t
  | .stk t sz ds => if bt t then .undef else .stk t sz ds
  | .sptr t off sz ds => if bt t then .undef else .sptr t off sz ds
  | x => x
def W.clean (bi : Id → Bool) (bt : Tag → Bool) : W → W
  | .c x => .c (x.clean bi bt)
  | .agg cs => .agg (cs.map (C.clean bi bt))
def V.clean (bi : Id → Bool) (bt : Tag → Bool) : V → V
  | .w x => .w (x.clean bi bt)
  | .tup xs => .tup (xs.map (W.clean bi bt))

section
variable {g g' : Gh} {bi : Id → Bool} {bt : Tag → Bool} (hM : ∀ a v, g.M a = some v → g'.M a = some v) (hB : ∀ i, bi i = false → g'.B i = g.B i) (hO : ∀ t, bt t = false → g'.O t = g.O t)
include hB in
theorem pv_same {l : List (Id × Nat)} (h : l.any (fun p => bi p.1) = false) : l.map (pv g'.B) = l.map (pv g.B) := by
  refine List.map_congr_left fun p hp => ?_
  have : bi p.1 = false := by
    simp only [List.any_eq_false] at h
    simpa using h p hp
  simp only [pv, hB _ this]
include hM hB hO
theorem RelC.clean {c : C} {y : Value} (h : RelC g c y) : RelC g' (c.clean bi bt) y := by
  cases c with
  | undef => trivial
  | val x => exact h
  | lst o nl sz xs =>
    obtain ⟨h1, h2⟩ := h
    cases o with
    | no => exact ⟨h1.mono hM, trivial⟩
    | full => exact ⟨h1.mono hM, h2⟩
    | tag t =>
      cases hb : bt t with
      | true =>
        simp only [C.clean, hb, if_true]
        exact ⟨h1.mono hM, trivial⟩
      | false =>
        simp only [C.clean, hb]
        refine ⟨h1.mono hM, ?_⟩
        show (_ ∧ RelF y) ∨ _
        rw [hO t hb]
        exact h2
  | ptr i off =>
    cases hb : bi i with
    | true => simp only [C.clean, hb, if_true]; trivial
    | false => simp only [C.clean, hb]; show y = _; rw [hB i hb]; exact h
  | mem xs => obtain ⟨a, h1, h2⟩ := h; exact ⟨a, h1, h2.mono hM⟩
  | row i off n c =>
    cases hb : bi i with
    | true => simp only [C.clean, hb, if_true]; trivial
    | false => simp only [C.clean, hb]; show y = _; rw [hB i hb]; exact h
  | fn f first caps =>
    simp only [C.clean]
    split
    · trivial
    rename_i hq
    simp only [Bool.or_eq_true, not_or, Bool.not_eq_true] at hq
    show y = _
    rw [pv_same hB hq.1, pv_same hB hq.2]
    exact h
  | typ t =>
    simp only [C.clean]
    split
    · trivial
    exact h
  | ifc => exact h
  | stk t sz ds =>
    simp only [C.clean]
    split
    · trivial
    rename_i hb
    show RelS (g'.O t) sz ds y
    rw [hO t (by simpa using hb)]
    exact h
  | sptr t off sz ds =>
    simp only [C.clean]
    split
    · trivial
    rename_i hb
    show RelQ (g'.O t) off sz ds y
    rw [hO t (by simpa using hb)]
    exact h
theorem RelW.clean {c : W} {y : Value} (h : RelW g c y) : RelW g' (c.clean bi bt) y := by
  cases c with
  | c x => exact RelC.clean hM hB hO h
  | agg cs => obtain ⟨ys, h1, h2⟩ := h; exact ⟨ys, h1, h2.map fun _ _ h => RelC.clean hM hB hO h⟩
theorem RelV.clean {c : V} {y : Value} (h : RelV g c y) : RelV g' (c.clean bi bt) y := by
  cases c with
  | w x => exact RelW.clean hM hB hO h
  | tup cs => obtain ⟨ys, h1, h2⟩ := h; exact ⟨ys, h1, h2.map fun _ _ h => RelW.clean hM hB hO h⟩
end
theorem C.clean_none (c : C) : c.clean (fun _ => false) (fun _ => false) = c := by
  cases c with
  | lst o nl sz xs => cases o <;> rfl
  | fn f a b => simp [C.clean]
  | _ => rfl
theorem W.clean_none (c : W) : c.clean (fun _ => false) (fun _ => false) = c := by
  cases c with
  | c x => simp [W.clean, C.clean_none]
  | agg cs => simp only [W.clean]; congr 1; conv => rhs; rw [← List.map_id cs]
              exact List.map_congr_left fun c _ => C.clean_none c
theorem V.clean_none (c : V) : c.clean (fun _ => false) (fun _ => false) = c := by
  cases c with
  | w x => simp [V.clean, W.clean_none]
  | tup cs => simp only [V.clean]; congr 1; conv => rhs; rw [← List.map_id cs]
              exact List.map_congr_left fun c _ => W.clean_none c
section
variable {g g' : Gh} (hM : ∀ a v, g.M a = some v → g'.M a = some v) (hB : ∀ i, g'.B i = g.B i) (hO : ∀ t, g'.O t = g.O t)
include hM hB hO
theorem RelC.grow {c : C} {y : Value} (h : RelC g c y) : RelC g' c y := by
  have := RelC.clean (bi := fun _ => false) (bt := fun _ => false) hM (fun i _ => hB i) (fun t _ => hO t) h
  rwa [C.clean_none] at this
theorem RelW.grow {c : W} {y : Value} (h : RelW g c y) : RelW g' c y := by
  have := RelW.clean (bi := fun _ => false) (bt := fun _ => false) hM (fun i _ => hB i) (fun t _ => hO t) h
  rwa [W.clean_none] at this
theorem RelV.grow {c : V} {y : Value} (h : RelV g c y) : RelV g' c y := by
  have := RelV.clean (bi := fun _ => false) (bt := fun _ => false) hM (fun i _ => hB i) (fun t _ => hO t) h
  rwa [V.clean_none] at this
end

/-! ### boxes -/
abbrev Heap := List (Id × List C)
def hget : Heap → Id → Option (List C)
  | [], _ => none
  | (j, cs) :: h, i => if j = i then some cs else hget h i
def hset : Heap → Id → List C → Heap
  | [], i, cs => [(i, cs)]
  | (j, d) :: h, i, cs => if j = i then (i, cs) :: h else (j, d) :: hset h i cs
def hclean (bi : Id → Bool) (bt : Tag → Bool) : Heap → Heap
  | [] => []
  | (j, cs) :: h => if bi j then hclean bi bt h else (j, cs.map (C.clean bi bt)) :: hclean bi bt h
theorem hget_hset (h : Heap) (i : Id) (cs : List C) (j : Id) : hget (hset h i cs) j = if i = j then some cs else hget h j := by
  induction h with
  | nil => simp [hset, hget]
  | cons p h ih =>
    obtain ⟨k, d⟩ := p
    simp only [hset]
    by_cases hk : k = i
    · subst hk; simp only [if_true, hget]; split <;> simp_all
    simp only [hk, if_false, hget, ih]
    by_cases hkj : k = j
    · subst hkj; simp [Ne.symm hk]
    simp [hkj]
theorem hget_hclean (bi : Id → Bool) (bt : Tag → Bool) (h : Heap) (j : Id) : hget (hclean bi bt h) j = if bi j then none else (hget h j).map (List.map (C.clean bi bt)) := by
  induction h with
  | nil => simp [hclean, hget]
  | cons p h ih =>
    obtain ⟨k, d⟩ := p
    simp only [hclean]
    by_cases hb : bi k = true
    · simp only [hb, if_true, ih, hget]
      by_cases hkj : k = j
      · subst hkj; simp [hb]
      simp [hkj]
    rw [if_neg hb]
    simp only [hget]
    by_cases hkj : k = j
    · subst hkj; simp [hb]
    rw [if_neg hkj, if_neg hkj, ih]

def Foot (g : Gh) (h : Heap) (k : Nat) : Prop := (∃ i cs, hget h i = some cs ∧ g.B i = k) ∨ ∃ t r, g.O t = some r ∧ r.blk = k

/-- a box that tells its block's type -/
def tyOK (t : TypeId) (cs : List C) : Prop := ∀ τ, C.typ τ ∈ cs → τ = t
theorem tyOK.nil {t : TypeId} : tyOK t [] := fun _ h => by cases h
theorem tyOK.sub {t : TypeId} {cs ds : List C} (h : tyOK t cs) (hs : ∀ τ, C.typ τ ∈ ds → C.typ τ ∈ cs) : tyOK t ds := fun τ hτ => h τ (hs τ hτ)
theorem tyOK.none {t : TypeId} {ds : List C} (hs : ∀ τ, C.typ τ ∉ ds) : tyOK t ds := fun τ hτ => absurd hτ (hs τ)
theorem tyOK.mapf {t : TypeId} {cs : List C} (h : tyOK t cs) {f : C → C} (hf : ∀ c τ, f c = .typ τ → c = .typ τ) : tyOK t (cs.map f) := fun τ hτ => by
  obtain ⟨c, hc, e⟩ := List.mem_map.1 hτ
  rw [hf c τ e] at hc
  exact h τ hc
theorem clean_typ {bi : Id → Bool} {bt : Tag → Bool} (c : C) (τ : TypeId) (h : c.clean bi bt = .typ τ) : c = .typ τ := by
  cases c with
  | lst o nl sz xs =>
    cases o with
    | tag t => simp only [C.clean] at h; split at h <;> cases h
    | no => cases h
    | full => cases h
  | ptr i o => simp only [C.clean] at h; split at h <;> cases h
  | row i o n c => simp only [C.clean] at h; split at h <;> cases h
  | fn f x y => simp only [C.clean] at h; split at h <;> cases h
  | typ t => simp only [C.clean] at h; split at h <;> first | cases h; done | exact h
  | undef => cases h
  | val => cases h
  | mem => cases h
  | ifc => cases h
  | stk => simp only [C.clean] at h; split at h <;> cases h
  | sptr => simp only [C.clean] at h; split at h <;> cases h
theorem clean_all {bi : Id → Bool} {bt : Tag → Bool} (hb : bt (.slot []) = true) (cs : List C) {t : TypeId} : tyOK t (cs.map (C.clean bi bt)) := tyOK.none fun τ h => by
  obtain ⟨c, _, e⟩ := List.mem_map.1 h
  have := clean_typ c τ e
  subst this
  simp [C.clean, hb] at e

/-- what stands in a row that may be written -/
def MutOK (M : Addr → Option Value) (w : World) (r : Rec) : Prop := ∀ ds, r.ds = some ds → (∀ a v, M a = some v → a.block ≠ r.blk) ∧ ds.length = r.n * r.sz ∧ ∀ cur, w.heap[r.blk]? = some (.cells cur r.e (0, 0)) → All2 (RelD M) ds (cur.toList.take ds.length)
theorem MutOK.none {M : Addr → Option Value} {w : World} {r : Rec} (h : r.ds = .none) : MutOK M w r := fun ds hd => by rw [h] at hd; cases hd
theorem MutOK.mono {M M' : Addr → Option Value} {w w' : World} {r : Rec} (h : MutOK M w r) (hM : ∀ a v, M a = some v → M' a = some v) (hN : ∀ a v, M' a = some v → a.block = r.blk → M a = some v) (hw : w'.heap[r.blk]? = w.heap[r.blk]?) : MutOK M' w' r := fun ds hd => by
  obtain ⟨h1, h2, h3⟩ := h ds hd
  exact ⟨fun a v ha e => h1 a v (hN a v ha e) e, h2, fun cur hc => (h3 cur (by rw [← hw]; exact hc)).mono fun _ _ h => h.mono hM⟩
theorem MutOK.same {M : Addr → Option Value} {w w' : World} {r : Rec} (h : MutOK M w r) (hw : w'.heap[r.blk]? = w.heap[r.blk]?) : MutOK M w' r := h.mono (fun _ _ h => h) (fun _ _ h _ => h) hw
structure WI (g : Gh) (h : Heap) (w : World) : Prop where
  mem : ∀ a v, g.M a = some v → w.cell? a = some v
  box : ∀ i cs, hget h i = some cs → ∃ (ys : Array Value) (t : TypeId), w.heap[g.B i]? = some (.cells ys t (0, 0)) ∧ All2 (RelC g) cs ys.toList ∧ tyOK t cs
  inj : ∀ i j cs ds, hget h i = some cs → hget h j = some ds → g.B i = g.B j → i = j
  boxM : ∀ i cs a v, hget h i = some cs → g.M a = some v → a.block ≠ g.B i
  own : ∀ t r, g.O t = some r → ∃ cur : Array Value, w.heap[r.blk]? = some (.cells cur r.e (0, 0)) ∧ cur.size = r.c * r.sz ∧ r.n ≤ r.c ∧ r.c ≤ maxLen ∧ ∀ a v, g.M a = some v → a.block = r.blk → a.off < r.n * r.sz
  ownB : ∀ t r i cs, g.O t = some r → hget h i = some cs → r.blk ≠ g.B i
  ownI : ∀ t t' r r', g.O t = some r → g.O t' = some r' → r.blk = r'.blk → t = t'
  muta : ∀ t r, g.O t = some r → MutOK g.M w r

theorem block_lt {w : World} {k : Nat} {o : Obj} (h : w.heap[k]? = some o) : k < w.heap.size := (Array.getElem?_eq_some_iff.1 h).1
theorem WI.mem_lt {g : Gh} {h : Heap} {w : World} (hw : WI g h w) {a : Addr} {v : Value} (ha : g.M a = some v) : a.block < w.heap.size := World.block_lt_of_cell? w a (hw.mem a v ha)

/-! ### what came in, and what has become of it -/
structure Entry where
  w : World
  F : Nat → Prop
  M : Addr → Option Value
  A : Nat → Nat
structure Cum (E : Entry) (g : Gh) (h : Heap) (w : World) : Prop where
  os : w.os = E.w.os
  tape : w.tape = E.w.tape
  output : w.output = E.w.output
  size : E.w.heap.size ≤ w.heap.size
  unch : ∀ k, k < E.w.heap.size → ¬ E.F k → w.heap[k]? = E.w.heap[k]?
  foot : ∀ k, Foot g h k → E.F k ∨ E.w.heap.size ≤ k
  mem : ∀ a v, E.M a = some v → g.M a = some v
  memN : ∀ a v, g.M a = some v → E.M a = some v ∨ E.F a.block ∨ E.w.heap.size ≤ a.block
  argB : ∀ k, g.B (.arg k) = E.A k
def entry (g : Gh) (h : Heap) (w : World) : Entry := ⟨w, Foot g h, g.M, fun k => g.B (.arg k)⟩
theorem Cum.refl (g : Gh) (h : Heap) (w : World) : Cum (entry g h w) g h w :=
  ⟨rfl, rfl, rfl, Nat.le_refl _, fun _ _ _ => rfl, fun _ hk => .inl hk, fun _ _ h => h, fun _ _ h => .inl h, fun _ => rfl⟩
theorem Cum.trans {E : Entry} {g g' : Gh} {h h' : Heap} {w w' : World} (H : Cum E g h w) (K : Cum (entry g h w) g' h' w') : Cum E g' h' w' := by
  refine ⟨K.os.trans H.os, K.tape.trans H.tape, K.output.trans H.output, Nat.le_trans H.size K.size, ?_, ?_, ?_, ?_, fun k => (K.argB k).trans (H.argB k)⟩
  · intro k hk hF
    refine (K.unch k (Nat.lt_of_lt_of_le hk H.size) (fun hf => ?_)).trans (H.unch k hk hF)
    rcases H.foot k hf with h | h
    · exact hF h
    omega
  · intro k hk
    rcases K.foot k hk with h | h
    · exact H.foot k h
    exact .inr (Nat.le_trans H.size h)
  · exact fun a v ha => K.mem a v (H.mem a v ha)
  intro a v ha
  rcases K.memN a v ha with h | h | h
  · exact H.memN a v h
  · rcases H.foot _ h with h | h
    · exact .inr (.inl h)
    exact .inr (.inr h)
  exact .inr (.inr (Nat.le_trans H.size h))

/-! ### states -/
structure St where
  slots : List V
  heap : Heap
def St.put (s : St) (dst : Option Nat) (v : V) : St :=
  match dst with
  | some d => ⟨s.slots.set d v, s.heap⟩
  | none => s
def St.clean (bi : Id → Bool) (bt : Tag → Bool) (s : St) : St := ⟨s.slots.map (V.clean bi bt), hclean bi bt s.heap⟩

def ofCell (v : Value) : C :=
  if scalar v then .val v else
  match v with
  | .slice none n c => if n = 0 ∧ c = 0 then .lst .full (some true) 1 [] else .undef
  | .func f x y => if x.size = 0 ∧ y.size = 0 then .fn f [] [] else .undef
  | _ => .undef
def ofValue (v : Value) : V :=
  match v with
  | .agg cs => .w (.agg (cs.toList.map ofCell))
  | v => .w (.c (ofCell v))
theorem ofCell_rel (g : Gh) (v : Value) : RelC g (ofCell v) v := by
  unfold ofCell
  split
  · exact ⟨by assumption, rfl⟩
  cases v with
  | slice a n c =>
    cases a with
    | none =>
      simp only []
      split
      · rename_i h
        obtain ⟨rfl, rfl⟩ := h
        exact ⟨.nil (by simp) (by omega), fun a n c h => by cases h; rfl⟩
      trivial
    | some a => trivial
  | func f x y =>
    simp only []
    split
    · rename_i h
      have hx : x = #[] := Array.eq_empty_of_size_eq_zero h.1
      have hy : y = #[] := Array.eq_empty_of_size_eq_zero h.2
      subst hx; subst hy
      simp [RelC]
    trivial
  | _ => trivial
theorem ofValue_rel (g : Gh) (v : Value) : RelV g (ofValue v) v := by
  unfold ofValue
  split
  · rename_i cs
    exact ⟨cs, rfl, All2.of_get (by simp) fun i a b ha hb => by
      simp only [List.getElem?_map, hb, Option.map_some, Option.some.injEq] at ha; subst ha; exact ofCell_rel g b⟩
  exact ofCell_rel g v

/-- what the package's tables hold (a seat's own list) -/
def globD : Nat → List D
  | _ => []
def GlobOK (M : Addr → Option Value) : Prop := ∀ k, RelM M ⟨k, 0, none⟩ (globD k)
def St.ev (s : St) : Operand → V
  | .tmp t => s.slots.getD t V.undef
  | .const v => ofValue v
  | .global k => .w (.c (.mem (globD k)))
  | .func f => .w (.c (.fn (.func f) [] []))

structure Sim (E : Entry) (g : Gh) (s : St) (a : Act) (w : World) : Prop where
  slots : All2 (RelV g) s.slots a.tmps.toList
  defers : a.defers = [] ∧ GlobOK E.M
  wi : WI g s.heap w
  cum : Cum E g s.heap w

theorem Sim.ev {E : Entry} {g : Gh} {s : St} {a : Act} {w : World} (h : Sim E g s a w) (x : Operand) : RelV g (s.ev x) (a.eval x) := by
  cases x with
  | tmp t =>
    simp only [St.ev, Act.eval]
    cases hq : s.slots[t]? with
    | none => rw [List.getD_eq_getElem?_getD, hq]; trivial
    | some v =>
      obtain ⟨b, hb, hr⟩ := h.slots.get hq
      rw [List.getD_eq_getElem?_getD, hq]
      rw [Array.getElem?_toList] at hb
      simpa [hb] using hr
  | const v => exact ofValue_rel g v
  | global k => exact ⟨_, rfl, (h.defers.2 k).mono h.cum.mem⟩
  | func f => simp [St.ev, RelV, RelW, RelC, Act.eval]

theorem Sim.put {E : Entry} {g : Gh} {s : St} {a : Act} {w : World} (h : Sim E g s a w) {v : V} {x : Value} (hr : RelV g v x) (dst : Option Nat) : Sim E g (s.put dst v) (a.put dst x) w := by
  cases dst with
  | none => exact h
  | some d =>
    refine ⟨?_, h.defers, h.wi, h.cum⟩
    have := h.slots.set hr d
    simpa [St.put, Act.put] using this

abbrev U : V := .undef
end
section
/-- the kinds of the fields' cells, one behind the other -/
def flatFs (K : TypeId → Option (List (Option IntKind))) : Nat → List Field → Option (List (Option IntKind))
  | _, [] => some []
  | off, f :: fs => if f.name = "_" ∨ f.offset ≠ off then none else
    match K f.type with
    | some ks => (flatFs K (off + ks.length) fs).map (ks ++ ·)
    | none => none
/-- the kinds of a type's cells (none: a truth) -/
def flatK (P : Program) : Nat → TypeId → Option (List (Option IntKind))
  | 0, _ => none
  | d + 1, t =>
    if (P.info? t).isNone then none else
    match P.underlying t with
    | some .bool => some [none]
    | some (.int k) => some [some k]
    | some (.array n e) => match flatK P d e with
      | some ks => if P.cellsOf e = ks.length ∧ P.cellsOf t = n * ks.length then some (List.replicate n ks).flatten else none
      | none => none
    | some (.struct fs) => if P.stoodInHeld t = true ∨ d = 0 then none else match flatFs (flatK P d) 0 fs.toList with
      | some ks => if P.cellsOf t = ks.length then some ks else none
      | none => none
    | _ => none
def okK : Option IntKind → Value → Prop
  | none, v => ∃ b, v = .bool b
  | some k, v => ∃ n, v = .int k n
def aggB (P : Program) (t : TypeId) : Bool := match P.underlying t with
  | some (.struct _) => true
  | some (.array _ _) => true
  | _ => false
/-- cells as a value of the type -/
def mkT (P : Program) (t : TypeId) (us : List Value) : Value := if aggB P t then .agg us.toArray else us.headD undef
section
variable {P : Program}
theorem run_isAgg' {t : TypeId} {d : TypeDesc} (h : P.underlying t = some d) (w : World) : (isAgg t).run P w = .ok (aggB P t) w := by
  unfold isAgg aggB
  rw [Sem.run_bind, run_underlying h]
  simp only [Result.andThen_ok, h]
  cases d <;> simp
theorem flatK_und {d : Nat} {t : TypeId} {ks : List (Option IntKind)} (h : flatK P (d + 1) t = some ks) : ∃ i ds, P.info? t = some i ∧ P.underlying t = some ds := by
  unfold flatK at h
  cases hi : P.info? t with
  | none => simp [hi] at h
  | some i =>
    cases hu : P.underlying t with
    | none => simp [hi, hu] at h
    | some ds => exact ⟨i, ds, rfl, rfl⟩
theorem flatK_scalar {d : Nat} {t : TypeId} {ks : List (Option IntKind)} (h : flatK P (d + 1) t = some ks) (hb : aggB P t = false) : (P.underlying t = some .bool ∧ ks = [none]) ∨ ∃ k, P.underlying t = some (.int k) ∧ ks = [some k] := by
  unfold flatK at h
  unfold aggB at hb
  split at h
  · cases h
  split at h
  · rename_i hu; cases h; exact .inl ⟨hu, rfl⟩
  · rename_i k hu; cases h; exact .inr ⟨_, hu, rfl⟩
  · rename_i hu; rw [hu] at hb; cases hb
  · rename_i hu; rw [hu] at hb; cases hb
  cases h
theorem flatK_size {d : Nat} {t : TypeId} {ks : List (Option IntKind)} (h : flatK P (d + 1) t = some ks) (hb : aggB P t = true) : P.cellsOf t = ks.length := by
  unfold flatK at h
  unfold aggB at hb
  split at h
  · cases h
  split at h
  · rename_i hu; rw [hu] at hb; cases hb
  · rename_i hu; rw [hu] at hb; cases hb
  · split at h
    · split at h
      · rename_i hq; cases h; rw [hq.2]; simp
      cases h
    cases h
  · split at h
    · cases h
    split at h
    · split at h
      · rename_i hq; cases h; exact hq
      cases h
    cases h
  cases h
/-- a part of an aggregate -/
theorem run_part' {d : Nat} {t : TypeId} {ks : List (Option IntKind)} (h : flatK P (d + 1) t = some ks) (xs : List Value) (off : Nat) (hl : off + ks.length ≤ xs.length) (w : World) :
    (part t xs.toArray off).run P w = .ok (mkT P t ((xs.drop off).take ks.length)) w := by
  obtain ⟨i, ds, hi, hu⟩ := flatK_und h
  have ha := run_isAgg' hu w
  cases hb : aggB P t with
  | true =>
    have hs := flatK_size h hb
    have e : i.size = ks.length := by rw [← hs]; simp [Program.cellsOf, hi]
    rw [hb] at ha
    simp only [part, Sem.run_bind, ha, Result.andThen_ok, if_true, sizeOf, typeInfo, hi, mkT, hb, e]
    simp [hi, e, List.extract_eq_take_drop]
  | false =>
    have h1 : ks.length = 1 := by
      rcases flatK_scalar h hb with ⟨_, rfl⟩ | ⟨_, _, rfl⟩ <;> rfl
    rw [hb] at ha
    rw [h1] at hl
    have hlt : off < xs.length := by omega
    simp only [part, Sem.run_bind, ha, Result.andThen_ok, mkT, hb, h1]
    have e : (List.take 1 (List.drop off xs)).headD undef = xs[off] := by rw [List.drop_eq_getElem_cons hlt]; rfl
    rw [e]
    simp [hlt]
theorem sub_ok {ks : List (Option IntKind)} {us : List Value} (h : All2 okK ks us) (off n : Nat) : All2 okK ((ks.drop off).take n) ((us.drop off).take n) := (h.drop off).take n
/-- what '==' answers -/
def EqRun (P : Program) (d : Nat) (t : TypeId) (us vs : List Value) : Prop := ∃ b : Bool, (b = true ↔ us = vs) ∧ ∀ w : World, (Op.equalIn d t (mkT P t us) (mkT P t vs)).run P w = .ok b w
theorem split_eq {α : Type} {us vs : List α} {n : Nat} (hl : us.length = vs.length) : us = vs ↔ us.take n = vs.take n ∧ us.drop n = vs.drop n :=
  ⟨fun h => by subst h; exact ⟨rfl, rfl⟩, fun ⟨h1, h2⟩ => by rw [← List.take_append_drop n us, h1, h2, List.take_append_drop]⟩
theorem eqItems_run {d : Nat} {e : TypeId} {ks : List (Option IntKind)} (hk : flatK P (d + 1) e = some ks) (hc : P.cellsOf e = ks.length) (IH : ∀ us vs, All2 okK ks us → All2 okK ks vs → EqRun P (d + 1) e us vs)
    (us vs : List Value) (N : Nat) (hu : All2 okK (List.replicate N ks).flatten us) (hv : All2 okK (List.replicate N ks).flatten vs) :
    ∀ (n a : Nat), a + n = N → ∃ b : Bool, (b = true ↔ us.drop (a * ks.length) = vs.drop (a * ks.length)) ∧ ∀ w : World, (Op.eqItems (d + 1) e (P.cellsOf e) us.toArray vs.toArray (List.range' a n)).run P w = .ok b w := by
  have lu := hu.length
  have lv := hv.length
  have lN : ((List.replicate N ks).flatten).length = N * ks.length := by simp
  intro n
  induction n with
  | zero =>
    intro a ha
    refine ⟨true, ?_, fun w => by simp [Op.eqItems]⟩
    have h1 : us.drop (a * ks.length) = [] := List.drop_eq_nil_of_le (by rw [← lu, lN]; simp at ha; subst ha; omega)
    have h2 : vs.drop (a * ks.length) = [] := List.drop_eq_nil_of_le (by rw [← lv, lN]; simp at ha; subst ha; omega)
    simp [h1, h2]
  | succ n ih =>
    intro a ha
    obtain ⟨b2, hb2, hr2⟩ := ih (a + 1) (by omega)
    have hfit : a * ks.length + ks.length ≤ N * ks.length := by rw [← Nat.succ_mul]; exact Nat.mul_le_mul_right _ (by omega)
    have hks : ((List.replicate N ks).flatten.drop (a * ks.length)).take ks.length = ks := by
      have e1 : List.replicate N ks = List.replicate a ks ++ ks :: List.replicate n ks := by
        rw [← List.replicate_succ, List.replicate_append_replicate]; congr 1; omega
      rw [e1, List.flatten_append, List.drop_left' (by simp), List.flatten_cons, List.take_left' rfl]
    have su := sub_ok hu (a * ks.length) ks.length
    have sv := sub_ok hv (a * ks.length) ks.length
    rw [hks] at su sv
    obtain ⟨b1, hb1, hr1⟩ := IH _ _ su sv
    have hp1 := fun w => run_part' hk us (a * ks.length) (by rw [← lu, lN]; omega) w
    have hp2 := fun w => run_part' hk vs (a * ks.length) (by rw [← lv, lN]; omega) w
    refine ⟨b1 && b2, ?_, fun w => ?_⟩
    · rw [Bool.and_eq_true, hb1, hb2, split_eq (n := ks.length) (us := us.drop (a * ks.length)) (by simp; omega)]
      rw [List.drop_drop, List.drop_drop, Nat.succ_mul]
    simp only [List.range'_succ, Op.eqItems, Sem.run_bind, hc]
    rw [hp1, Result.andThen_ok, hp2, Result.andThen_ok, hr1, Result.andThen_ok]
    cases b1
    · simp
    have := hr2 w
    rw [hc] at this
    simp [this]
theorem eqFields_run {d : Nat} (IH : ∀ t ks us vs, flatK P (d + 1) t = some ks → All2 okK ks us → All2 okK ks vs → EqRun P (d + 1) t us vs) (us vs : List Value) (hl : us.length = vs.length) :
    ∀ (fs : List Field) (off : Nat) (ks : List (Option IntKind)), off ≤ us.length → flatFs (flatK P (d + 1)) off fs = some ks → All2 okK ks (us.drop off) → All2 okK ks (vs.drop off) →
      ∃ b : Bool, (b = true ↔ us.drop off = vs.drop off) ∧ ∀ w : World, (Op.eqFields (d + 1) us.toArray vs.toArray fs).run P w = .ok b w := by
  intro fs
  induction fs with
  | nil =>
    intro off ks hz h hu hv
    cases h
    refine ⟨true, ?_, fun w => by simp [Op.eqFields]⟩
    rw [hu.nil_inv, hv.nil_inv]
    simp
  | cons f fs ih =>
    intro off ks hz h hu hv
    unfold flatFs at h
    split at h
    · cases h
    rename_i hn
    obtain ⟨hname, hoff⟩ : f.name ≠ "_" ∧ f.offset = off := by
      constructor
      · exact fun e => hn (.inl e)
      exact Decidable.byContradiction fun e => hn (.inr e)
    split at h
    · rename_i k1 hk1
      simp only [Option.map_eq_some_iff] at h
      obtain ⟨k2, hk2, rfl⟩ := h
      have lu := hu.length
      have lv := hv.length
      simp only [List.length_append, List.length_drop] at lu lv
      have su := hu.take k1.length
      have sv := hv.take k1.length
      have ru := hu.drop k1.length
      have rv := hv.drop k1.length
      rw [List.take_left' rfl] at su sv
      rw [List.drop_left' rfl, List.drop_drop] at ru rv
      obtain ⟨b1, hb1, hr1⟩ := IH f.type k1 _ _ hk1 su sv
      obtain ⟨b2, hb2, hr2⟩ := ih (off + k1.length) k2 (by omega) hk2 ru rv
      have hp1 := fun w => run_part' hk1 us off (by omega) w
      have hp2 := fun w => run_part' hk1 vs off (by omega) w
      refine ⟨b1 && b2, ?_, fun w => ?_⟩
      · rw [Bool.and_eq_true, hb1, hb2, split_eq (n := k1.length) (us := us.drop off) (by simp; omega), List.drop_drop, List.drop_drop]
      simp only [Op.eqFields, hname, ne_eq, not_false_eq_true, if_true, Sem.run_bind, hoff]
      rw [hp1, Result.andThen_ok, hp2, Result.andThen_ok, hr1, Result.andThen_ok]
      cases b1
      · simp
      simpa using hr2 w
    cases h
theorem eq_run : ∀ (d : Nat) (t : TypeId) (ks : List (Option IntKind)) (us vs : List Value), flatK P d t = some ks → All2 okK ks us → All2 okK ks vs → EqRun P d t us vs := by
  intro d
  induction d with
  | zero => intro t ks us vs h; cases h
  | succ d ih =>
    intro t ks us vs h hu hv
    cases hb : aggB P t with
    | false =>
      rcases flatK_scalar h hb with ⟨hq, rfl⟩ | ⟨k, hq, rfl⟩
      · obtain ⟨u, us', rfl, ⟨a, rfl⟩, h2⟩ := hu.cons_inv
        obtain ⟨v, vs', rfl, ⟨b, rfl⟩, h3⟩ := hv.cons_inv
        obtain rfl := h2.nil_inv
        obtain rfl := h3.nil_inv
        refine ⟨a == b, by simp, fun w => ?_⟩
        simp only [mkT, hb, Bool.false_eq_true, if_false, List.headD_cons]
        exact run_equalIn_bool' w d t a b hq
      obtain ⟨u, us', rfl, ⟨a, rfl⟩, h2⟩ := hu.cons_inv
      obtain ⟨v, vs', rfl, ⟨b, rfl⟩, h3⟩ := hv.cons_inv
      obtain rfl := h2.nil_inv
      obtain rfl := h3.nil_inv
      refine ⟨a == b, by simp, fun w => ?_⟩
      simp only [mkT, hb, Bool.false_eq_true, if_false, List.headD_cons]
      exact run_equalIn_int w d t k k a b hq
    | true =>
      obtain ⟨i, ds, hi, hq⟩ := flatK_und h
      unfold flatK at h
      simp only [hi, Option.isNone_some, Bool.false_eq_true, if_false] at h
      split at h
      · rename_i hq'; unfold aggB at hb; rw [hq'] at hb; cases hb
      · rename_i hq'; unfold aggB at hb; rw [hq'] at hb; cases hb
      · rename_i n e hq'
        split at h
        · rename_i k1 hk1
          split at h
          · rename_i hc
            cases h
            cases d with
            | zero => cases hk1
            | succ d =>
              obtain ⟨ie, _, hie, _⟩ := flatK_und hk1
              obtain ⟨b, hb1, hr⟩ := eqItems_run hk1 hc.1 (fun us vs => ih e k1 us vs hk1) us vs n hu hv n 0 (by omega)
              refine ⟨b, by simpa using hb1, fun w => ?_⟩
              simp only [mkT, hb, if_true]
              rw [run_equalIn_array w (d + 1) _ _ hq' hie, List.range_eq_range']
              exact hr w
          cases h
        cases h
      · rename_i fs hq'
        split at h
        · cases h
        rename_i hn
        split at h
        · rename_i k1 hk1
          split at h
          · cases h
            cases d with
            | zero => exact absurd (.inr rfl) hn
            | succ d =>
              obtain ⟨b, hb1, hr⟩ := eqFields_run (fun t ks us vs => ih t ks us vs) us vs (by rw [← hu.length, hv.length]) fs.toList 0 _ (Nat.zero_le _) hk1 hu hv
              refine ⟨b, by simpa using hb1, fun w => ?_⟩
              simp only [mkT, hb, if_true]
              have hf : P.fieldsOf t = fs := by unfold Program.fieldsOf; rw [hq']
              rw [run_equalIn_struct w (d + 1) t _ _ (by rw [hf]; exact hq') (by
                cases hs : P.stoodInHeld t with
                | false => rfl
                | true => exact absurd (.inl hs) hn), hf]
              exact hr w
          cases h
        cases h
      cases h
theorem flatK_mono : ∀ (d d' : Nat) (t : TypeId) (ks : List (Option IntKind)), d ≤ d' → flatK P d t = some ks → flatK P d' t = some ks := by
  intro d
  induction d with
  | zero => intro d' t ks _ h; cases h
  | succ d ih =>
    intro d' t ks hle h
    obtain ⟨d', rfl⟩ : ∃ x, d' = x + 1 := ⟨d' - 1, by omega⟩
    have hd : d ≤ d' := by omega
    unfold flatK at h ⊢
    split at h
    · cases h
    rename_i h0
    rw [if_neg h0]
    split at h
    · exact h
    · exact h
    · split at h
      · rename_i k1 hk1
        rw [ih d' _ _ hd hk1]
        exact h
      cases h
    · split at h
      · cases h
      rename_i hn
      have hn' : ¬ (P.stoodInHeld t = true ∨ d' = 0) := fun h => hn (h.imp id (by omega))
      rw [if_neg hn']
      split at h
      · rename_i k1 hk1
        have key : ∀ (fs : List Field) (off : Nat) (ks : List (Option IntKind)), flatFs (flatK P d) off fs = some ks → flatFs (flatK P d') off fs = some ks := by
          intro fs
          induction fs with
          | nil => intro off ks h; exact h
          | cons f fs ihf =>
            intro off ks h
            unfold flatFs at h ⊢
            split at h
            · cases h
            rename_i hq
            rw [if_neg hq]
            split at h
            · rename_i k2 hk2
              rw [ih d' _ _ hd hk2]
              simp only [Option.map_eq_some_iff] at h ⊢
              obtain ⟨k3, hk3, rfl⟩ := h
              exact ⟨k3, ihf _ _ hk3, rfl⟩
            cases h
        rw [key _ _ _ hk1]
        exact h
      cases h
    cases h
/-- the kinds of an aggregate's cells -/
def flatT (P : Program) (t : TypeId) : Option (List (Option IntKind)) := if P.eqGuardType P.depth t = false ∧ aggB P t = true then flatK P 8 t else none
theorem flat_run {t : TypeId} {ks : List (Option IntKind)} {us vs : List Value} (h : flatT P t = some ks) (hu : All2 okK ks us) (hv : All2 okK ks vs) (X Y : Operand) :
    ∃ b : Bool, (b = true ↔ us = vs) ∧ (∀ w : World, (do eqGuard .eql t X Y (.agg us.toArray) (.agg vs.toArray); binOp .eql t (.agg us.toArray) (.agg vs.toArray) : Sem Value).run P w = .ok (.bool b) w) ∧
      (∀ w : World, (do eqGuard .neq t X Y (.agg us.toArray) (.agg vs.toArray); binOp .neq t (.agg us.toArray) (.agg vs.toArray) : Sem Value).run P w = .ok (.bool !b) w) := by
  unfold flatT at h
  split at h
  · rename_i hg
    obtain ⟨b, hb, hr⟩ := eq_run 10000 t ks us vs (flatK_mono _ _ _ _ (by decide) h) hu hv
    simp only [mkT, hg.2, if_true] at hr
    refine ⟨b, hb, fun w => ?_, fun w => ?_⟩
    · rw [Sem.run_bind, run_eqGuard_agg w .eql t X Y _ _ hg.1, Result.andThen_ok, run_eql_struct, hr, Result.andThen_ok]
    rw [Sem.run_bind, run_eqGuard_agg w .neq t X Y _ _ hg.1, Result.andThen_ok, run_neq_struct, hr, Result.andThen_ok]
  cases h
/-- '==' of aggregates of numbers and truths -/
def aEqA (q : Option (List (Option IntKind))) (cs ds : List C) (K : Bool → Prop) : Prop :=
  ∃ ks us vs, q = some ks ∧ cs = us.map C.val ∧ ds = vs.map C.val ∧ All2 okK ks us ∧ All2 okK ks vs ∧ ∀ b : Bool, (b = true ↔ us = vs) → K b
theorem vals_eq {g : Gh} : ∀ {us : List Value} {ys : List Value}, All2 (RelC g) (us.map C.val) ys → ys = us
  | [], ys, h => h.nil_inv
  | u :: us, ys, h => by
    obtain ⟨y, ys', rfl, ⟨_, rfl⟩, h2⟩ := h.cons_inv
    rw [vals_eq h2]
theorem run_eqA {g : Gh} {t : TypeId} {cs ds : List C} {u v : Value} {K : Bool → Prop} (hx : RelW g (.agg cs) u) (hy : RelW g (.agg ds) v) (h : aEqA (flatT P t) cs ds K) (X Y : Operand) :
    ∃ b, K b ∧ (∀ w : World, (do eqGuard .eql t X Y u v; binOp .eql t u v : Sem Value).run P w = .ok (.bool b) w) ∧ (∀ w : World, (do eqGuard .neq t X Y u v; binOp .neq t u v : Sem Value).run P w = .ok (.bool !b) w) := by
  obtain ⟨ks, us, vs, hq, rfl, rfl, hu, hv, hK⟩ := h
  obtain ⟨xs, rfl, hx⟩ := hx
  obtain ⟨ys, rfl, hy⟩ := hy
  have ex := vals_eq hx
  have ey := vals_eq hy
  obtain ⟨b, hb, h1, h2⟩ := flat_run hq hu hv X Y
  have e1 : us.toArray = xs := by rw [← ex]
  have e2 : vs.toArray = ys := by rw [← ey]
  rw [e1, e2] at h1 h2
  exact ⟨b, hK b hb, h1, h2⟩
end
end
section
def D.toC : D → C
  | .val x => .val x
  | .lst nl sz xs => .lst .no nl sz xs
def C.toD : C → Option D
  | .val x => some (.val x)
  | .lst _ nl sz xs => some (.lst nl sz xs)
  | _ => none
theorem D.toC_rel {g : Gh} {d : D} {y : Value} (h : RelD g.M d y) : RelC g d.toC y := by
  cases d with
  | val x => cases h with | val h => exact ⟨h, rfl⟩
  | lst nl sz xs => exact ⟨h, trivial⟩
theorem C.toD_rel {g : Gh} {c : C} {d : D} {y : Value} (hd : c.toD = some d) (h : RelC g c y) : RelD g.M d y := by
  cases c with
  | val x => cases hd; obtain ⟨h, rfl⟩ := h; exact .val h
  | lst o nl sz xs => cases hd; exact h.1
  | undef => cases hd
  | ptr => cases hd
  | mem => cases hd
  | row => cases hd
  | fn => cases hd
  | typ => cases hd
  | ifc => cases hd
  | stk => cases hd
  | sptr => cases hd

def MemOK (M : Addr → Option Value) (w : World) : Prop := ∀ a v, M a = some v → w.cell? a = some v

/-! ### types -/
def isAggT (P : Program) (t : TypeId) : Option Bool :=
  match P.underlying t with
  | some (.struct _) => some true
  | some (.array _ _) => some true
  | some _ => some false
  | none => none
def sizeT (P : Program) (t : TypeId) : Option Nat := (P.info? t).map (·.size)
def fldT (P : Program) (s : TypeId) (i : Nat) : Option (Nat × TypeId × Nat) :=
  match P.underlying s with
  | some (.struct fs) => match fs[i]? with
    | some f => (P.info? f.type).map fun inf => (f.offset, f.type, inf.size)
    | none => none
  | _ => none
/-- an array's length (none: a slice), the size of an element -/
def idxT (P : Program) (t : TypeId) : Option (Option Nat × TypeId × Nat) :=
  match P.underlying t with
  | some (.array n e) => (P.info? e).map fun inf => (some n, e, inf.size)
  | some (.slice e) => (P.info? e).map fun inf => (none, e, inf.size)
  | _ => none
def kindT (P : Program) (t : TypeId) : Option IntKind :=
  match P.underlying t with
  | some (.int k) => some k
  | _ => none
def isBoolT (P : Program) (t : TypeId) : Bool :=
  match P.underlying t with
  | some .bool => true
  | _ => false
def isStrT (P : Program) (t : TypeId) : Bool :=
  match P.underlying t with
  | some .string => true
  | _ => false
def isPtrT (P : Program) (t : TypeId) : Bool :=
  match P.underlying t with
  | some (.pointer _) => true
  | _ => false
def isSlcT (P : Program) (t : TypeId) : Bool :=
  match P.underlying t with
  | some (.slice _) => true
  | _ => false
def isFnT (P : Program) (t : TypeId) : Bool :=
  match P.underlying t with
  | some (.func _ _ _) => true
  | _ => false
def knownT (P : Program) (t : TypeId) : Bool := (P.underlying t).isSome

theorem sizeT_info {P : Program} {t : TypeId} {n : Nat} (h : sizeT P t = some n) : ∃ i, P.info? t = some i ∧ i.size = n := by
  unfold sizeT at h
  cases hq : P.info? t with
  | none => rw [hq] at h; cases h
  | some i => rw [hq] at h; simp at h; exact ⟨i, rfl, h⟩
theorem run_sizeOf {P : Program} {t : TypeId} {n : Nat} (h : sizeT P t = some n) (w : World) : (sizeOf t).run P w = .ok n w := by
  obtain ⟨i, hi, rfl⟩ := sizeT_info h
  simp [sizeOf, typeInfo, hi]
theorem run_isAgg {P : Program} {t : TypeId} {b : Bool} (h : isAggT P t = some b) (w : World) : (isAgg t).run P w = .ok b w := by
  unfold isAggT at h
  unfold isAgg
  split at h <;> rename_i hu <;> first | (cases h) | skip
  · simp [run_underlying hu]
  · simp [run_underlying hu]
  rename_i d h1 h2
  rw [Sem.run_bind, run_underlying hu]
  simp only [Result.andThen_ok]
  cases d <;> simp_all

/-! ### numbers -/
def aInt (op : BinOp) (k : IntKind) (a : Int) (k' : IntKind) (b : Int) (K : V → Prop) : Prop :=
  match op with
  | .shl => 0 ≤ b ∧ K (.int k (k.wrap (a * 2 ^ min b.toNat k.bits)))
  | .shr => 0 ≤ b ∧ K (.int k (a.fdiv (2 ^ min b.toNat k.bits)))
  | .add => k = k' ∧ K (.int k (k.wrap (a + b)))
  | .sub => k = k' ∧ K (.int k (k.wrap (a - b)))
  | .mul => k = k' ∧ K (.int k (k.wrap (a * b)))
  | .quo => k = k' ∧ b ≠ 0 ∧ K (.int k (k.wrap (a.tdiv b)))
  | .rem => k = k' ∧ b ≠ 0 ∧ K (.int k (a.tmod b))
  | .and => k = k' ∧ K (.int k (k.wrap (BitVec.ofInt k.bits a &&& BitVec.ofInt k.bits b).toNat))
  | .or => k = k' ∧ K (.int k (k.wrap (BitVec.ofInt k.bits a ||| BitVec.ofInt k.bits b).toNat))
  | .xor => k = k' ∧ K (.int k (k.wrap (BitVec.ofInt k.bits a ^^^ BitVec.ofInt k.bits b).toNat))
  | .andNot => k = k' ∧ K (.int k (k.wrap (BitVec.ofInt k.bits a &&& ~~~BitVec.ofInt k.bits b).toNat))
  | .eql => k = k' ∧ K (.bool (a == b))
  | .neq => k = k' ∧ K (.bool (a != b))
  | .lss => k = k' ∧ K (.bool (decide (a < b)))
  | .leq => k = k' ∧ K (.bool (decide (a ≤ b)))
  | .gtr => k = k' ∧ K (.bool (decide (a > b)))
  | .geq => k = k' ∧ K (.bool (decide (a ≥ b)))
def aStr (op : BinOp) (a b : ByteArray) (K : V → Prop) : Prop :=
  match op with
  | .add => (a.size + b.size ≤ 9223372036854775807) ∧ K (.val (.string (a ++ b)))
  | .eql => K (.bool (a.toList == b.toList))
  | .neq => K (.bool (!(a.toList == b.toList)))
  | .lss => K (.bool (Op.bytesLess a.toList b.toList))
  | _ => False
/-- 'x == nil' -/
def aNil (P : Program) (t : TypeId) (x y : V) (K : Bool → Prop) : Prop :=
  match y with
  | .w (.c (.val (.pointer none))) => isPtrT P t = true ∧ match x with
    | .w (.c (.ptr _ _)) => K false
    | .w (.c (.mem _)) => K false
    | .w (.c (.val (.pointer none))) => K true
    | _ => False
  | .w (.c (.lst _ (some true) _ _)) => isSlcT P t = true ∧ match x with
    | .w (.c (.row _ _ _ _)) => K false
    | .w (.c (.lst _ (some b) _ _)) => K b
    | .w (.c (.lst _ none _ xs)) => (xs = [] → K true) ∧ K false
    | _ => False
  | .w (.c (.val .nilFunc)) => isFnT P t = true ∧ match x with
    | .w (.c (.fn _ _ _)) => K false
    | .w (.c (.val .nilFunc)) => K true
    | _ => False
  | _ => False
def aBin (P : Program) (op : BinOp) (t : TypeId) (x y : V) (K : V → Prop) : Prop :=
  match x, y with
  | .w (.c (.val (.int k a))), .w (.c (.val (.int k' b))) => aInt op k a k' b K
  | .w (.c (.val (.string a))), .w (.c (.val (.string b))) => aStr op a b K
  | .w (.c (.val (.bool a))), .w (.c (.val (.bool b))) => isBoolT P t = true ∧ match op with
    | .eql => K (.bool (a == b))
    | .neq => K (.bool (a != b))
    | _ => False
  | .w (.agg cs), .w (.agg ds) => match op with
    | .eql => aEqA (flatT P t) cs ds fun b => K (.bool b)
    | .neq => aEqA (flatT P t) cs ds fun b => K (.bool !b)
    | _ => False
  | x, y => match op with
    | .eql => aNil P t x y fun b => K (.bool b)
    | .neq => aNil P t x y fun b => K (.bool !b)
    | _ => False

theorem run_int {P : Program} {op : BinOp} {t : TypeId} {k k' : IntKind} {a b : Int} {K : V → Prop} {x y : Operand} (h : aInt op k a k' b K) :
    ∃ u, scalar u = true ∧ K (.val u) ∧ ∀ w : World, (do eqGuard op t x y (.int k a) (.int k' b); binOp op t (.int k a) (.int k' b) : Sem Value).run P w = .ok u w := by
  have hg : ∀ w : World, (eqGuard op t x y (.int k a) (.int k' b)).run P w = .ok () w := by
    intro w; cases op <;> simp [eqGuard]
  cases op <;> simp only [aInt] at h
  case shl => exact ⟨_, rfl, h.2, fun w => by rw [Sem.run_bind, hg]; have := h.1; simp [binOp, Op.shift, show ¬ b < 0 by omega]⟩
  case shr => exact ⟨_, rfl, h.2, fun w => by rw [Sem.run_bind, hg]; have := h.1; simp [binOp, Op.shift, show ¬ b < 0 by omega]⟩
  case quo => obtain ⟨rfl, h0, h⟩ := h; exact ⟨_, rfl, h, fun w => by rw [Sem.run_bind, hg]; simp [binOp, Op.intDiv, h0]⟩
  case rem => obtain ⟨rfl, h0, h⟩ := h; exact ⟨_, rfl, h, fun w => by rw [Sem.run_bind, hg]; simp [binOp, Op.intDiv, h0]⟩
  all_goals (obtain ⟨rfl, h⟩ := h; exact ⟨_, rfl, h, fun w => by rw [Sem.run_bind, hg]; simp [binOp, Op.intArith, Op.intBits, Op.intCmp] <;> rfl⟩)
theorem run_str {P : Program} {op : BinOp} {t : TypeId} {a b : ByteArray} {K : V → Prop} {x y : Operand} (h : aStr op a b K) :
    ∃ u, scalar u = true ∧ K (.val u) ∧ ∀ w : World, (do eqGuard op t x y (.string a) (.string b); binOp op t (.string a) (.string b) : Sem Value).run P w = .ok u w := by
  have hg : ∀ w : World, (eqGuard op t x y (.string a) (.string b)).run P w = .ok () w := by
    intro w; cases op <;> simp [eqGuard]
  cases op <;> simp only [aStr] at h
  case add =>
    refine ⟨_, rfl, h.2, fun w => ?_⟩
    rw [Sem.run_bind, hg]
    have h1 : ¬ ((a.size + b.size : Nat) : Int) > IntKind.i64.max := by
      have e : IntKind.i64.max = 9223372036854775807 := by decide
      rw [e]; omega
    simp only [Result.andThen_ok, binOp, Op.stringOp]
    rw [if_neg h1]
    rfl
  all_goals exact ⟨_, rfl, h, fun w => by rw [Sem.run_bind, hg]; simp [binOp, Op.stringOp]⟩
theorem eq_of {P : Program} {t : TypeId} {u v : Value} {b : Bool} (h : ∀ d w, (Op.equalIn (d + 1) t u v).run P w = .ok b w) : ∀ w : World, (Op.equal t u v).run P w = .ok b w := fun w => h 9999 w
theorem run_eqb {P : Program} {t : TypeId} {u v : Value} {b : Bool} {X Y : Operand} (he : ∀ w : World, (Op.equal t u v).run P w = .ok b w)
    (h1 : ∀ op w, (eqGuard op t X Y u v).run P w = .ok () w) (h2 : binOp .eql t u v = do pure (.bool (← Op.equal t u v))) (h3 : binOp .neq t u v = do pure (.bool (!(← Op.equal t u v)))) :
    (∀ w : World, (do eqGuard .eql t X Y u v; binOp .eql t u v : Sem Value).run P w = .ok (.bool b) w) ∧ (∀ w : World, (do eqGuard .neq t X Y u v; binOp .neq t u v : Sem Value).run P w = .ok (.bool !b) w) := by
  constructor
  · intro w; rw [Sem.run_bind, h1, Result.andThen_ok, h2]; simp [he]
  intro w; rw [Sem.run_bind, h1, Result.andThen_ok, h3]; simp [he]
theorem ptrT {P : Program} {t : TypeId} (h : isPtrT P t = true) : ∃ e, P.underlying t = some (.pointer e) := by
  unfold isPtrT at h; split at h
  · exact ⟨_, by assumption⟩
  cases h
theorem slcT {P : Program} {t : TypeId} (h : isSlcT P t = true) : ∃ e, P.underlying t = some (.slice e) := by
  unfold isSlcT at h; split at h
  · exact ⟨_, by assumption⟩
  cases h
theorem fnT {P : Program} {t : TypeId} (h : isFnT P t = true) : ∃ a b c, P.underlying t = some (.func a b c) := by
  unfold isFnT at h; split at h
  · exact ⟨_, _, _, by assumption⟩
  cases h
theorem run_nil {P : Program} {g : Gh} {t : TypeId} {x y : V} {u v : Value} {K : Bool → Prop} {X Y : Operand} (hx : RelV g x u) (hy : RelV g y v) (h : aNil P t x y K) :
    ∃ b, K b ∧ (∀ w : World, (do eqGuard .eql t X Y u v; binOp .eql t u v : Sem Value).run P w = .ok (.bool b) w) ∧ (∀ w : World, (do eqGuard .neq t X Y u v; binOp .neq t u v : Sem Value).run P w = .ok (.bool !b) w) := by
  unfold aNil at h
  split at h
  · obtain ⟨ht, h⟩ := h
    obtain ⟨e, he⟩ := ptrT ht
    obtain ⟨_, rfl⟩ := hy
    split at h
    · obtain rfl := hx
      exact ⟨false, h, run_eqb (eq_of fun d w => by simp [Op.equalIn, run_underlying he]) (fun op w => by cases op <;> simp [eqGuard]) (by simp [binOp]) (by simp [binOp])⟩
    · obtain ⟨a, rfl, _⟩ := hx
      exact ⟨false, h, run_eqb (eq_of fun d w => by simp [Op.equalIn, run_underlying he]) (fun op w => by cases op <;> simp [eqGuard]) (by simp [binOp]) (by simp [binOp])⟩
    · obtain ⟨_, rfl⟩ := hx
      exact ⟨true, h, run_eqb (eq_of fun d w => by simp [Op.equalIn, run_underlying he]) (fun op w => by cases op <;> simp [eqGuard]) (by simp [binOp]) (by simp [binOp])⟩
    exact h.elim
  · obtain ⟨ht, h⟩ := h
    obtain ⟨e, he⟩ := slcT ht
    have hv : v = .slice none 0 0 := by
      rcases (RelD.lst_inv hy.1).2 with ⟨h, _⟩ | ⟨a, n, c, _, h, _⟩
      · exact h
      exact absurd rfl h
    subst hv
    have key : ∀ a n c, u = .slice a n c → (∀ w : World, (do eqGuard .eql t X Y u (.slice none 0 0); binOp .eql t u (.slice none 0 0) : Sem Value).run P w = .ok (.bool a.isNone) w) ∧ (∀ w : World, (do eqGuard .neq t X Y u (.slice none 0 0); binOp .neq t u (.slice none 0 0) : Sem Value).run P w = .ok (.bool !a.isNone) w) := by
      intro a n c hu
      subst hu
      cases a with
      | none => exact run_eqb (b := true) (eq_of fun d w => by simp [Op.equalIn, run_underlying he]) (fun op w => by cases op <;> simp [eqGuard]) (by simp [binOp]) (by simp [binOp])
      | some a => exact run_eqb (b := false) (eq_of fun d w => by simp [Op.equalIn, run_underlying he]) (fun op w => by cases op <;> simp [eqGuard]) (by simp [binOp]) (by simp [binOp])
    split at h
    · obtain rfl := hx
      exact ⟨false, h, key _ _ _ rfl⟩
    · rename_i b _ _
      rcases (RelD.lst_inv hx.1).2 with ⟨rfl, _, h1⟩ | ⟨a, n, c, rfl, h1, _⟩
      · cases b
        · exact absurd rfl h1
        exact ⟨true, h, key _ _ _ rfl⟩
      cases b
      · exact ⟨false, h, key _ _ _ rfl⟩
      exact absurd rfl h1
    · rcases (RelD.lst_inv hx.1).2 with ⟨rfl, h0, h1⟩ | ⟨a, n, c, rfl, h1, _⟩
      · exact ⟨true, h.1 h0, key _ _ _ rfl⟩
      exact ⟨false, h.2, key _ _ _ rfl⟩
    exact h.elim
  · obtain ⟨ht, h⟩ := h
    obtain ⟨e1, e2, e3, he⟩ := fnT ht
    obtain ⟨_, rfl⟩ := hy
    split at h
    · obtain rfl := hx
      exact ⟨false, h, run_eqb (eq_of fun d w => by simp [Op.equalIn, run_underlying he]) (fun op w => by cases op <;> simp [eqGuard]) (by simp [binOp]) (by simp [binOp])⟩
    · obtain ⟨_, rfl⟩ := hx
      exact ⟨true, h, run_eqb (eq_of fun d w => by simp [Op.equalIn, run_underlying he]) (fun op w => by cases op <;> simp [eqGuard]) (by simp [binOp]) (by simp [binOp])⟩
    exact h.elim
  exact h.elim
theorem run_bin {P : Program} {g : Gh} {op : BinOp} {t : TypeId} {x y : V} {u v : Value} {K : V → Prop} {X Y : Operand} (hx : RelV g x u) (hy : RelV g y v) (h : aBin P op t x y K) :
    ∃ r z, K r ∧ RelV g r z ∧ ∀ w : World, (do eqGuard op t X Y u v; binOp op t u v : Sem Value).run P w = .ok z w := by
  unfold aBin at h
  split at h
  · obtain ⟨_, rfl⟩ := hx
    obtain ⟨_, rfl⟩ := hy
    obtain ⟨z, hz, hk, hr⟩ := run_int (x := X) (y := Y) h
    exact ⟨_, z, hk, ⟨hz, rfl⟩, hr⟩
  · obtain ⟨_, rfl⟩ := hx
    obtain ⟨_, rfl⟩ := hy
    obtain ⟨z, hz, hk, hr⟩ := run_str (x := X) (y := Y) h
    exact ⟨_, z, hk, ⟨hz, rfl⟩, hr⟩
  · obtain ⟨_, rfl⟩ := hx
    obtain ⟨_, rfl⟩ := hy
    rename_i a b _ _
    obtain ⟨ht, h⟩ := h
    have hb : P.underlying t = some .bool := by
      unfold isBoolT at ht; split at ht
      · assumption
      cases ht
    have e := run_eqb (P := P) (X := X) (Y := Y) (t := t) (u := .bool a) (v := .bool b) (b := a == b) (eq_of fun d w => by simp [Op.equalIn, run_underlying hb]) (fun op w => by cases op <;> simp [eqGuard]) (by simp [binOp]) (by simp [binOp])
    split at h
    · exact ⟨_, .bool (a == b), h, ⟨rfl, rfl⟩, e.1⟩
    · exact ⟨_, .bool (a != b), h, ⟨rfl, rfl⟩, e.2⟩
    exact h.elim
  · split at h
    · obtain ⟨b, hk, h1, _⟩ := run_eqA hx hy h X Y
      exact ⟨_, _, hk, ⟨rfl, rfl⟩, h1⟩
    · obtain ⟨b, hk, _, h1⟩ := run_eqA hx hy h X Y
      exact ⟨_, _, hk, ⟨rfl, rfl⟩, h1⟩
    exact h.elim
  split at h
  · obtain ⟨b, hk, h1, _⟩ := run_nil (X := X) (Y := Y) hx hy h
    exact ⟨_, _, hk, ⟨rfl, rfl⟩, h1⟩
  · obtain ⟨b, hk, _, h1⟩ := run_nil (X := X) (Y := Y) hx hy h
    exact ⟨_, _, hk, ⟨rfl, rfl⟩, h1⟩
  exact h.elim

/-- 'x == nil', of interfaces -/
def isIfcT (P : Program) (t : TypeId) : Bool := match P.underlying t with
  | some (.interface _) => true
  | _ => false
def isNo (op : BinOp) (b : Bool) (K : V → Prop) : Prop := match op with
  | .eql => K (.bool b)
  | .neq => K (.bool !b)
  | _ => False
def aNilI (P : Program) (op : BinOp) (t : TypeId) (x : V) (K : V → Prop) : Prop := isIfcT P t = true ∧ match x with
  | .w (.c .ifc) => isNo op false K
  | .w (.c (.val (.iface _ _))) => isNo op false K
  | .w (.c (.val .nilIface)) => isNo op true K
  | _ => False
def aBinY (P : Program) (op : BinOp) (t : TypeId) (y : Operand) (X Y : V) (K : V → Prop) : Prop := match y with
  | .const .nilIface => aNilI P op t X K
  | _ => aBin P op t X Y K
theorem ifcT {P : Program} {t : TypeId} (h : isIfcT P t = true) : ∃ e, P.underlying t = some (.interface e) := by
  unfold isIfcT at h; split at h
  · exact ⟨_, by assumption⟩
  cases h
theorem run_nilI {P : Program} {g : Gh} {op : BinOp} {t : TypeId} {x : V} {u : Value} {K : V → Prop} {X : Operand} (hx : RelV g x u) (h : aNilI P op t x K) :
    ∃ r z, K r ∧ RelV g r z ∧ ∀ w : World, (do eqGuard op t X (.const .nilIface) u .nilIface; binOp op t u .nilIface : Sem Value).run P w = .ok z w := by
  obtain ⟨ht, h⟩ := h
  obtain ⟨e, he⟩ := ifcT ht
  have key : ∀ b : Bool, isNo op b K → (∀ w : World, (do eqGuard .eql t X (.const .nilIface) u .nilIface; binOp .eql t u .nilIface : Sem Value).run P w = .ok (.bool b) w) →
      (∀ w : World, (do eqGuard .neq t X (.const .nilIface) u .nilIface; binOp .neq t u .nilIface : Sem Value).run P w = .ok (.bool !b) w) → ∃ r z, K r ∧ RelV g r z ∧ ∀ w : World, (do eqGuard op t X (.const .nilIface) u .nilIface; binOp op t u .nilIface : Sem Value).run P w = .ok z w := by
    intro b hb h1 h2
    cases op <;> simp only [isNo] at hb
    all_goals first | exact hb.elim | exact ⟨_, _, hb, ⟨rfl, rfl⟩, h1⟩ | exact ⟨_, _, hb, ⟨rfl, rfl⟩, h2⟩
  have ifc : ∀ t' v, u = .iface t' v → isNo op false K → ∃ r z, K r ∧ RelV g r z ∧ ∀ w : World, (do eqGuard op t X (.const .nilIface) u .nilIface; binOp op t u .nilIface : Sem Value).run P w = .ok z w := by
    rintro t' v rfl hb
    have := run_eqb (P := P) (X := X) (Y := .const .nilIface) (t := t) (u := .iface t' v) (v := .nilIface) (b := false) (eq_of fun d w => by simp [Op.equalIn, run_underlying he]) (fun op w => by cases op <;> simp [eqGuard]) (by simp [binOp]) (by simp [binOp])
    exact key false hb this.1 this.2
  split at h
  · obtain ⟨t', v, rfl⟩ := hx
    exact ifc t' v rfl h
  · obtain ⟨_, rfl⟩ := hx
    exact ifc _ _ rfl h
  · obtain ⟨_, rfl⟩ := hx
    have := run_eqb (P := P) (X := X) (Y := .const .nilIface) (t := t) (u := .nilIface) (v := .nilIface) (b := true) (eq_of fun d w => by simp [Op.equalIn, run_underlying he]) (fun op w => by cases op <;> simp [eqGuard]) (by simp [binOp]) (by simp [binOp])
    exact key true h this.1 this.2
  exact h.elim

/-! ### the other operations -/
def aUn (op : UnOp) (x : V) (K : V → Prop) : Prop :=
  match op, x with
  | .not, .w (.c (.val (.bool b))) => K (.bool !b)
  | .neg, .w (.c (.val (.int k n))) => K (.int k (k.wrap (0 - n)))
  | .xor, .w (.c (.val (.int k n))) => K (.int k (k.wrap (BitVec.ofInt k.bits (if k.signed then -1 else k.max) ^^^ BitVec.ofInt k.bits n).toNat))
  | _, _ => False
def aConv (P : Program) (src dst : TypeId) (x : V) (K : V → Prop) : Prop :=
  match x with
  | .w (.c (.val (.int _ n))) => knownT P src = true ∧ ∃ k, kindT P dst = some k ∧ K (.int k (k.wrap n))
  | .w (.c (.val (.string s))) => knownT P src = true ∧ isStrT P dst = true ∧ K (.val (.string s))
  | _ => False
def aPart (P : Program) (t : TypeId) (sz : Nat) (cs : List C) (off : Nat) (K : V → Prop) : Prop :=
  match isAggT P t with
  | some true => off + sz ≤ cs.length ∧ K (.w (.agg ((cs.drop off).take sz)))
  | some false => ∃ c, cs[off]? = some c ∧ K (.w (.c c))
  | none => False
def aField (P : Program) (t : TypeId) (x : V) (i : Nat) (K : V → Prop) : Prop :=
  match x with
  | .w (.agg cs) => ∃ off ft sz, fldT P t i = some (off, ft, sz) ∧ aPart P ft sz cs off K
  | _ => False
def aFieldAddr (P : Program) (t : TypeId) (x : V) (i : Nat) (K : V → Prop) : Prop :=
  match x with
  | .w (.c (.ptr j o)) => ∃ off ft sz, fldT P t i = some (off, ft, sz) ∧ sz ≠ 0 ∧ K (.cell (.ptr j (o + off)))
  | .w (.c (.mem xs)) => ∃ off ft sz, fldT P t i = some (off, ft, sz) ∧ sz ≠ 0 ∧ K (.cell (.mem (xs.drop off)))
  | _ => False
def aIndexAddr (P : Program) (t : TypeId) (x ix : V) (K : V → Prop) : Prop :=
  match ix with
  | .w (.c (.val (.int _ i))) => ∃ l e sz, idxT P t = some (l, e, sz) ∧ match x, l with
    | .w (.c (.ptr j o)), some n => 0 ≤ i ∧ i < n ∧ K (.cell (.ptr j (o + i.toNat * sz)))
    | .w (.c (.mem xs)), some n => 0 ≤ i ∧ i < n ∧ K (.cell (.mem (xs.drop (i.toNat * sz))))
    | .w (.c (.lst _ _ sz' xs)), none => sz' = sz ∧ 0 ≤ i ∧ i * sz < xs.length ∧ K (.cell (.mem (xs.drop (i.toNat * sz))))
    | .w (.c (.row j o n _)), none => 0 ≤ i ∧ i < n ∧ K (.cell (.ptr j (o + i.toNat * sz)))
    | .w (.c (.stk τ sz' xs)), none => sz' = sz ∧ 0 ≤ i ∧ i < (xs.length / sz : Nat) ∧ K (.cell (.sptr τ (i.toNat * sz) sz xs))
    | _, _ => False
  | _ => False
def aIndex (P : Program) (t : TypeId) (x ix : V) (K : V → Prop) : Prop :=
  match ix with
  | .w (.c (.val (.int _ i))) => match x with
    | .w (.agg cs) => ∃ n e sz, idxT P t = some (some n, e, sz) ∧ 0 ≤ i ∧ i < n ∧ aPart P e sz cs (i.toNat * sz) K
    | .w (.c (.val (.string s))) => isStrT P t = true ∧ 0 ≤ i ∧ ∃ b, s.data.toList[i.toNat]? = some b ∧ K (.int .u8 b.toNat)
    | _ => False
  | _ => False
def aExtract (x : V) (i : Nat) (K : V → Prop) : Prop :=
  match x with
  | .tup xs => ∃ u, xs[i]? = some u ∧ K (.w u)
  | _ => False
def aNilCheck (x : V) (K : V → Prop) : Prop :=
  match x with
  | .w (.c (.ptr _ _)) => K x
  | .w (.c (.mem _)) => K x
  | .w (.c (.fn (.func _) _ _)) => K x
  | _ => False
def ptrs : List V → Option (List (Id × Nat))
  | [] => some []
  | .w (.c (.ptr i o)) :: l => (ptrs l).map ((i, o) :: ·)
  | _ :: _ => none
def aMakeFunc (f : Fn) (first caps : List V) (K : V → Prop) : Prop := ∃ a b, ptrs first = some a ∧ ptrs caps = some b ∧ K (.cell (.fn f a b))
def aLen (P : Program) (t : TypeId) (x : V) (K : V → Prop) : Prop :=
  match x with
  | .w (.c (.lst _ _ sz xs)) => isSlcT P t = true ∧ K (.int .i64 ((xs.length / sz : Nat) : Int))
  | .w (.c (.row _ _ n _)) => isSlcT P t = true ∧ K (.int .i64 (n : Int))
  | .w (.c (.stk _ sz xs)) => isSlcT P t = true ∧ K (.int .i64 ((xs.length / sz : Nat) : Int))
  | .w (.c (.val (.string s))) => isStrT P t = true ∧ K (.int .i64 (s.size : Int))
  | _ => False
def aMakeIface (P : Program) (t : TypeId) (x : V) (K : V → Prop) : Prop :=
  match x with
  | .w (.c (.val v)) => (∃ d, P.underlying t = some d ∧ ∀ ms, d ≠ .interface ms) ∧ scalar1 v = true ∧ K (.val (.iface t v))
  | _ => False
def bnd (d : Int) : Option V → Option Int
  | none => some d
  | some (.w (.c (.val (.int _ n)))) => some n
  | _ => none
def aSlice (P : Program) (t : TypeId) (x : V) (lo hi : Option V) (K : V → Prop) : Prop :=
  match x with
  | .w (.c (.lst o nl sz xs)) => ∃ e, idxT P t = some (none, e, sz) ∧ ∃ l h, bnd 0 lo = some l ∧ bnd ((xs.length / sz : Nat) : Int) hi = some h ∧ 0 ≤ l ∧ l ≤ h ∧ h * sz ≤ xs.length ∧
      K (.cell (.lst (match o, hi with | .full, none => .full | _, _ => .no) nl sz ((xs.take (h.toNat * sz)).drop (l.toNat * sz))))
  | .w (.c (.row i off n c)) => ∃ e sz, idxT P t = some (none, e, sz) ∧ ∃ l h, bnd 0 lo = some l ∧ bnd n hi = some h ∧ 0 ≤ l ∧ l ≤ h ∧ h ≤ (c : Int) ∧
      K (.cell (.row i (if c = l.toNat then off else off + l.toNat * sz) (h.toNat - l.toNat) (c - l.toNat)))
  | .w (.c (.ptr i off)) => ∃ n e sz, idxT P t = some (some n, e, sz) ∧ ∃ l h, bnd 0 lo = some l ∧ bnd n hi = some h ∧ 0 ≤ l ∧ l ≤ h ∧ h ≤ (n : Int) ∧
      K (.cell (.row i (if n = l.toNat then off else off + l.toNat * sz) (h.toNat - l.toNat) (n - l.toNat)))
  | .w (.c (.val (.string s))) => isStrT P t = true ∧ ∃ l h, bnd 0 lo = some l ∧ bnd s.size hi = some h ∧ 0 ≤ l ∧ l ≤ h ∧ h ≤ (s.size : Int) ∧ K (.val (.string (s.extract l.toNat h.toNat)))
  | _ => False
def aLoadMem (P : Program) (t : TypeId) (x : V) (K : V → Prop) : Prop :=
  match x with
  | .w (.c (.mem xs)) => ∃ sz, sizeT P t = some sz ∧ aPart P t sz (xs.map D.toC) 0 K
  | _ => False
def aMinMax (mx : Bool) (xs : List V) (K : V → Prop) : Prop :=
  match xs with
  | [.w (.c (.val (.int k a))), .w (.c (.val (.int k' b)))] => k = k' ∧ K (.int k (if mx then max a b else min a b))
  | _ => False
end
section
section
variable {P : Program} {g : Gh} {K : V → Prop}

theorem run_un {op : UnOp} {x : V} {u : Value} (hx : RelV g x u) (h : aUn op x K) : ∃ r z, K r ∧ RelV g r z ∧ ∀ w : World, (Op.unary op u).run P w = .ok z w := by
  unfold aUn at h
  split at h
  · obtain ⟨_, rfl⟩ := hx; exact ⟨_, _, h, ⟨rfl, rfl⟩, fun w => by simp [Op.unary]⟩
  · obtain ⟨_, rfl⟩ := hx; exact ⟨_, _, h, ⟨rfl, rfl⟩, fun w => by simp [Op.unary, Op.intArith]⟩
  · obtain ⟨_, rfl⟩ := hx; exact ⟨_, _, h, ⟨rfl, rfl⟩, fun w => by simp [Op.unary, Op.intBits]⟩
  exact h.elim
theorem knownT_spec {t : TypeId} (h : knownT P t = true) : ∃ d, P.underlying t = some d := Option.isSome_iff_exists.mp h
theorem kindT_spec {t : TypeId} {k : IntKind} (h : kindT P t = some k) : P.underlying t = some (.int k) := by
  unfold kindT at h; split at h
  · cases h; assumption
  cases h
theorem strT_spec {t : TypeId} (h : isStrT P t = true) : P.underlying t = some .string := by
  unfold isStrT at h; split at h
  · assumption
  cases h
theorem run_conv {src dst : TypeId} {x : V} {u : Value} (hx : RelV g x u) (h : aConv P src dst x K) : ∃ r z, K r ∧ RelV g r z ∧ ∀ w : World, (convert src dst u).run P w = .ok z w := by
  unfold aConv at h
  split at h
  · obtain ⟨_, rfl⟩ := hx
    obtain ⟨hs, k, hk, h⟩ := h
    obtain ⟨d, hd⟩ := knownT_spec hs
    exact ⟨_, _, h, ⟨rfl, rfl⟩, fun w => by simp [convert, run_underlying hd, run_underlying (kindT_spec hk), Conv.intToInt]⟩
  · obtain ⟨_, rfl⟩ := hx
    obtain ⟨hs, hk, h⟩ := h
    obtain ⟨d, hd⟩ := knownT_spec hs
    refine ⟨_, _, h, ⟨rfl, rfl⟩, fun w => ?_⟩
    simp [convert, run_underlying hd, run_underlying (strT_spec hk)]
  exact h.elim
theorem run_part {t : TypeId} {sz : Nat} {cs : List C} {ys : Array Value} {off : Nat} (hs : sizeT P t = some sz) (hr : All2 (RelC g) cs ys.toList) (h : aPart P t sz cs off K) :
    ∃ r z, K r ∧ RelV g r z ∧ ∀ w : World, (part t ys off).run P w = .ok z w := by
  unfold aPart at h
  split at h
  · rename_i ha
    obtain ⟨hl, h⟩ := h
    refine ⟨_, .agg (ys.extract off (off + sz)), h, ⟨_, rfl, ?_⟩, fun w => ?_⟩
    · have := (hr.drop off).take sz
      rw [Array.toList_extract, List.extract_eq_take_drop]
      simpa using this
    simp [part, run_isAgg ha, run_sizeOf hs]
  · rename_i ha
    obtain ⟨c, hc, h⟩ := h
    obtain ⟨v, hv, hv2⟩ := hr.get hc
    rw [Array.getElem?_toList] at hv
    exact ⟨_, v, h, hv2, fun w => by simp [part, run_isAgg ha, hv]⟩
  exact h.elim
theorem fldT_spec {t : TypeId} {i off : Nat} {ft : TypeId} {sz : Nat} (h : fldT P t i = some (off, ft, sz)) : ∃ fs f, P.underlying t = some (.struct fs) ∧ fs[i]? = some f ∧ f.offset = off ∧ f.type = ft ∧ sizeT P ft = some sz := by
  unfold fldT at h
  split at h
  · rename_i fs hu
    split at h
    · rename_i f hf
      cases hq : P.info? f.type with
      | none => rw [hq] at h; cases h
      | some inf =>
        rw [hq] at h
        simp only [Option.map_some, Option.some.injEq, Prod.mk.injEq] at h
        obtain ⟨h1, h2, h3⟩ := h
        exact ⟨fs, f, hu, hf, h1, h2, by subst h2; simp [sizeT, hq, h3]⟩
    cases h
  cases h
theorem idxT_arr {t : TypeId} {n : Nat} {e : TypeId} {sz : Nat} (h : idxT P t = some (some n, e, sz)) : P.underlying t = some (.array n e) ∧ sizeT P e = some sz := by
  unfold idxT at h
  split at h
  · rename_i n' e' hu
    cases hq : P.info? e' with
    | none => rw [hq] at h; cases h
    | some inf => rw [hq] at h; simp only [Option.map_some, Option.some.injEq, Prod.mk.injEq] at h; obtain ⟨h1, h2, h3⟩ := h; subst h1; subst h2; exact ⟨hu, by simp [sizeT, hq, h3]⟩
  · rename_i e' hu
    cases hq : P.info? e' with
    | none => rw [hq] at h; cases h
    | some inf => rw [hq] at h; simp at h
  cases h
theorem idxT_slc {t : TypeId} {e : TypeId} {sz : Nat} (h : idxT P t = some (none, e, sz)) : P.underlying t = some (.slice e) ∧ sizeT P e = some sz := by
  unfold idxT at h
  split at h
  · rename_i n' e' hu
    cases hq : P.info? e' with
    | none => rw [hq] at h; cases h
    | some inf => rw [hq] at h; simp at h
  · rename_i e' hu
    cases hq : P.info? e' with
    | none => rw [hq] at h; cases h
    | some inf => rw [hq] at h; simp only [Option.map_some, Option.some.injEq, Prod.mk.injEq, true_and] at h; obtain ⟨h2, h3⟩ := h; subst h2; exact ⟨hu, by simp [sizeT, hq, h3]⟩
  cases h
theorem run_field {t : TypeId} {x : V} {u : Value} {i : Nat} (hx : RelV g x u) (h : aField P t x i K) : ∃ r z, K r ∧ RelV g r z ∧ ∀ w : World, (Instr.field t u i).run P w = .ok z w := by
  unfold aField at h
  split at h
  · obtain ⟨ys, rfl, hr⟩ := hx
    obtain ⟨off, ft, sz, hf, h⟩ := h
    obtain ⟨fs, f, hu, hfs, rfl, rfl, hs⟩ := fldT_spec hf
    obtain ⟨r, z, h1, h2, h3⟩ := run_part hs hr h
    exact ⟨r, z, h1, h2, fun w => by simp [Instr.field, run_underlying hu, hfs, asAgg, h3]⟩
  exact h.elim
theorem run_fieldAddr {t : TypeId} {x : V} {u : Value} {i : Nat} (hx : RelV g x u) (h : aFieldAddr P t x i K) : ∃ r z, K r ∧ RelV g r z ∧ ∀ w : World, (Instr.fieldAt t u i).run P w = .ok z w := by
  unfold aFieldAddr at h
  split at h
  · obtain rfl := hx
    obtain ⟨off, ft, sz, hf, h0, h⟩ := h
    obtain ⟨fs, f, hu, hfs, rfl, rfl, hs⟩ := fldT_spec hf
    refine ⟨_, _, h, rfl, fun w => ?_⟩
    simp [Instr.fieldAt, run_underlying hu, hfs, Instr.sureAddr, fieldPlace, run_sizeOf hs, h0, add_mk]
  · obtain ⟨a, rfl, hm⟩ := hx
    obtain ⟨off, ft, sz, hf, h0, h⟩ := h
    obtain ⟨fs, f, hu, hfs, rfl, rfl, hs⟩ := fldT_spec hf
    refine ⟨_, _, h, ⟨a.add f.offset, rfl, fun j d hd => ?_⟩, fun w => ?_⟩
    · rw [List.getElem?_drop] at hd
      rw [add_of_add]
      exact hm _ d hd
    simp [Instr.fieldAt, run_underlying hu, hfs, Instr.sureAddr, fieldPlace, run_sizeOf hs, h0]
  exact h.elim
theorem mem_drop {M : Addr → Option Value} {a : Addr} {xs : List D} (hm : RelM M a xs) (k : Nat) : RelM M (a.add k) (xs.drop k) := fun j d hd => by
  rw [List.getElem?_drop] at hd; rw [add_of_add]; exact hm _ d hd
theorem run_indexAddr {t : TypeId} {x ix : V} {u v : Value} (hx : RelV g x u) (hi : RelV g ix v) (h : aIndexAddr P t x ix K) : ∃ r z, K r ∧ RelV g r z ∧ ∀ w : World, (Instr.indexAt t u v).run P w = .ok z w := by
  unfold aIndexAddr at h
  split at h
  · obtain ⟨_, rfl⟩ := hi
    obtain ⟨l, e, sz, ht, h⟩ := h
    split at h
    · obtain rfl := hx
      obtain ⟨h0, h1, h⟩ := h
      obtain ⟨hu, hs⟩ := idxT_arr ht
      refine ⟨_, _, h, rfl, fun w => ?_⟩
      simp [Instr.indexAt, run_underlying hu, Instr.sureAddr, asIntOf, h0, h1, run_sizeOf hs, add_mk]
    · obtain ⟨a, rfl, hm⟩ := hx
      obtain ⟨h0, h1, h⟩ := h
      obtain ⟨hu, hs⟩ := idxT_arr ht
      refine ⟨_, _, h, ⟨_, rfl, mem_drop hm _⟩, fun w => ?_⟩
      simp [Instr.indexAt, run_underlying hu, Instr.sureAddr, asIntOf, h0, h1, run_sizeOf hs]
    · obtain ⟨rfl, h0, h1, h⟩ := h
      obtain ⟨hu, hs⟩ := idxT_slc ht
      obtain ⟨hsz, h2⟩ := RelD.lst_inv hx.1
      rcases h2 with ⟨rfl, rfl, _⟩ | ⟨a, n, c, rfl, _, hl, hc, _, hm⟩
      · exact absurd h1 (Int.not_lt.2 (Int.mul_nonneg h0 (Int.natCast_nonneg _)))
      refine ⟨_, _, h, ⟨_, rfl, mem_drop hm _⟩, fun w => ?_⟩
      have h3 := h1
      rw [← hl, Int.natCast_mul] at h3
      replace h3 := Int.lt_of_mul_lt_mul_right h3 (by omega)
      simp [Instr.indexAt, run_underlying hu, asIntOf, h0, h3, run_sizeOf hs]
    · obtain rfl := hx
      obtain ⟨h0, h1, h⟩ := h
      obtain ⟨hu, hs⟩ := idxT_slc ht
      refine ⟨_, _, h, rfl, fun w => ?_⟩
      simp [Instr.indexAt, run_underlying hu, asIntOf, h0, h1, run_sizeOf hs, add_mk]
    · obtain ⟨rfl, h0, h1, h⟩ := h
      obtain ⟨hu, hs⟩ := idxT_slc ht
      obtain ⟨hsz, h2⟩ := hx
      rcases h2 with ⟨rfl, rfl⟩ | ⟨r, hr, rfl, hrd, hl, rfl⟩
      · simp at h1; omega
      rw [hl, Nat.mul_div_cancel _ hsz] at h1
      refine ⟨_, _, h, ⟨r, hr, rfl, hrd, rfl⟩, fun w => ?_⟩
      simp [Instr.indexAt, run_underlying hu, asIntOf, h0, h1, run_sizeOf hs, add_mk]
    exact h.elim
  exact h.elim
theorem str_get {s : ByteArray} {j : Nat} {b : UInt8} (hb : s.data.toList[j]? = some b) : s[j]? = some b := by
  rw [Array.getElem?_toList] at hb
  rw [← hb]
  obtain ⟨hlt, _⟩ := Array.getElem?_eq_some_iff.1 hb
  rw [Array.getElem?_eq_getElem hlt]
  exact getElem?_pos s j hlt
theorem run_index {t : TypeId} {x ix : V} {u v : Value} (hx : RelV g x u) (hi : RelV g ix v) (h : aIndex P t x ix K) : ∃ r z, K r ∧ RelV g r z ∧ ∀ w : World, (Instr.index t u v).run P w = .ok z w := by
  unfold aIndex at h
  split at h
  · obtain ⟨_, rfl⟩ := hi
    split at h
    · obtain ⟨ys, rfl, hr⟩ := hx
      obtain ⟨n, e, sz, ht, h0, h1, h⟩ := h
      obtain ⟨hu, hs⟩ := idxT_arr ht
      obtain ⟨r, z, h2, h3, h4⟩ := run_part hs hr h
      exact ⟨r, z, h2, h3, fun w => by simp [Instr.index, asIntOf, run_underlying hu, h0, h1, run_sizeOf hs, h4]⟩
    · obtain ⟨_, rfl⟩ := hx
      obtain ⟨ht, h0, b, hb, h⟩ := h
      refine ⟨_, _, h, ⟨rfl, rfl⟩, fun w => ?_⟩
      have hb' := str_get hb
      simp [Instr.index, asIntOf, run_underlying (strT_spec ht), h0, hb']
    exact h.elim
  exact h.elim
theorem run_extract {x : V} {u : Value} {i : Nat} (hx : RelV g x u) (h : aExtract x i K) : ∃ r z, K r ∧ RelV g r z ∧ ∀ w : World, (Instr.extract u i).run P w = .ok z w := by
  unfold aExtract at h
  split at h
  · obtain ⟨ys, rfl, hr⟩ := hx
    obtain ⟨y, hy, h⟩ := h
    obtain ⟨v, hv, hv2⟩ := hr.get hy
    rw [Array.getElem?_toList] at hv
    exact ⟨_, v, h, hv2, fun w => by simp [Instr.extract, hv]⟩
  exact h.elim
theorem run_len {t ty : TypeId} {x : V} {u : Value} (hx : RelV g x u) (h : aLen P t x K) : ∃ r z, K r ∧ RelV g r z ∧ ∀ w : World, (Builtin.len_ #[t] ty #[u]).run P w = .ok z w := by
  unfold aLen at h
  split at h
  · obtain ⟨ht, h⟩ := h
    obtain ⟨e, hu⟩ := slcT ht
    rename_i o nl sz xs
    obtain ⟨hsz, h2⟩ := RelD.lst_inv hx.1
    rcases h2 with ⟨rfl, rfl, _⟩ | ⟨a, n, c, rfl, _, hl, hc, _, hm⟩
    · refine ⟨_, _, h, ⟨rfl, rfl⟩, fun w => ?_⟩
      simp [Builtin.len_, run_underlying hu, goInt]
    refine ⟨_, _, h, ⟨rfl, rfl⟩, fun w => ?_⟩
    rw [← hl, Nat.mul_div_cancel _ hsz]
    simp [Builtin.len_, run_underlying hu, goInt]
  · obtain ⟨ht, h⟩ := h
    obtain ⟨e, hu⟩ := slcT ht
    obtain rfl := hx
    exact ⟨_, _, h, ⟨rfl, rfl⟩, fun w => by simp [Builtin.len_, run_underlying hu, goInt]⟩
  · obtain ⟨ht, h⟩ := h
    obtain ⟨e, hu⟩ := slcT ht
    obtain ⟨hsz, h2⟩ := hx
    rcases h2 with ⟨rfl, rfl⟩ | ⟨r, _, rfl, _, hl, rfl⟩
    · refine ⟨_, _, h, ⟨rfl, rfl⟩, fun w => ?_⟩
      simp [Builtin.len_, run_underlying hu, goInt]
    refine ⟨_, _, h, ⟨rfl, rfl⟩, fun w => ?_⟩
    rw [hl, Nat.mul_div_cancel _ hsz]
    simp [Builtin.len_, run_underlying hu, goInt]
  · obtain ⟨ht, h⟩ := h
    obtain ⟨_, rfl⟩ := hx
    exact ⟨_, _, h, ⟨rfl, rfl⟩, fun w => by simp [Builtin.len_, run_underlying (strT_spec ht), goInt]⟩
  exact h.elim
theorem run_iface {t : TypeId} {x : V} {u : Value} (hx : RelV g x u) (h : aMakeIface P t x K) : ∃ r z, K r ∧ RelV g r z ∧ ∀ w : World, (Instr.makeInterface t u).run P w = .ok z w := by
  unfold aMakeIface at h
  split at h
  · obtain ⟨_, rfl⟩ := hx
    obtain ⟨⟨d, hd, hn⟩, h1, h⟩ := h
    refine ⟨_, _, h, ⟨h1, rfl⟩, fun w => ?_⟩
    rw [Instr.makeInterface, Sem.run_bind, run_underlying hd]
    cases d <;> first | exact absurd rfl (hn _) | simp
  exact h.elim
theorem run_loadMem {t : TypeId} {x : V} {u : Value} (hx : RelV g x u) (h : aLoadMem P t x K) : ∃ r z, K r ∧ RelV g r z ∧ ∀ w : World, MemOK g.M w → (Instr.loadAt t u).run P w = .ok z w := by
  unfold aLoadMem at h
  split at h
  · obtain ⟨a, rfl, hm⟩ := hx
    rename_i xs
    obtain ⟨sz, hs, h⟩ := h
    unfold aPart at h
    split at h
    · rename_i ha
      obtain ⟨hl, h⟩ := h
      have hcell : ∀ j, j < sz → ∃ d u, xs[j]? = some d ∧ g.M (a.add j) = some u ∧ RelD g.M d u := fun j hj => by
        have hlt : j < xs.length := by simp at hl; omega
        obtain ⟨u, hu, hr⟩ := hm j xs[j] (List.getElem?_eq_getElem hlt)
        exact ⟨_, u, List.getElem?_eq_getElem hlt, hu, hr⟩
      refine ⟨_, .agg (((List.range sz).map fun j => (g.M (a.add j)).getD undef).toArray), h, ⟨_, rfl, ?_⟩, fun w hw => ?_⟩
      · refine All2.of_get (by simp at hl ⊢; omega) fun i c v hc hv => ?_
        simp only [List.drop_zero, List.getElem?_take, List.getElem?_map] at hc
        split at hc
        · rename_i hi
          obtain ⟨d, u, hd, hu, hr⟩ := hcell i hi
          rw [hd] at hc
          simp only [Option.map_some, Option.some.injEq] at hc
          subst hc
          simp only [List.getElem?_map] at hv
          rw [List.getElem?_range hi] at hv
          simp only [Option.map_some, Option.some.injEq, hu, Option.getD_some] at hv
          subst hv
          exact D.toC_rel hr
        cases hc
      have := run_loadCells (P := P) w a sz (fun j => (g.M (a.add j)).getD undef) (fun j hj => by
        obtain ⟨d, u, _, hu, _⟩ := hcell j hj
        rw [hu]; exact hw _ _ hu)
      simp [Instr.loadAt, Instr.sureAddr, loadVar, run_isAgg ha, run_sizeOf hs, this]
    · rename_i ha
      obtain ⟨c, hc, h⟩ := h
      rw [List.getElem?_map] at hc
      cases hq : xs[0]? with
      | none => rw [hq] at hc; cases hc
      | some d =>
        rw [hq] at hc
        simp only [Option.map_some, Option.some.injEq] at hc
        subst hc
        obtain ⟨u, hu, hr⟩ := hm 0 d hq
        rw [add_zero_] at hu
        refine ⟨_, u, h, D.toC_rel hr, fun w hw => ?_⟩
        simp [Instr.loadAt, Instr.sureAddr, loadVar, run_isAgg ha, load, Sem.run, hw _ _ hu]
    exact h.elim
  exact h.elim
theorem bnd_rel {d : Int} {x : Option V} {l : Int} {u : Option Value} (hb : bnd d x = some l) (hx : ∀ v, x = some v → ∃ z, u = some z ∧ RelV g v z) (hn : x = none → u = none) :
    (x = none ∧ u = none ∧ l = d) ∨ ∃ k, u = some (.int k l) := by
  unfold bnd at hb
  split at hb
  · cases hb; exact .inl ⟨rfl, hn rfl, rfl⟩
  · cases hb
    obtain ⟨z, hz, _, hr⟩ := hx _ rfl
    exact .inr ⟨_, by rw [hz, hr]⟩
  cases hb
theorem run_slice {t : TypeId} {x : V} {u : Value} {lo hi : Option V} {l h : Option Value} (hx : RelV g x u) (hlo : ∀ v, lo = some v → ∃ z, l = some z ∧ RelV g v z) (hlo' : lo = none → l = none)
    (hhi : ∀ v, hi = some v → ∃ z, h = some z ∧ RelV g v z) (hhi' : hi = none → h = none) (H : aSlice P t x lo hi K) : ∃ r z, K r ∧ RelV g r z ∧ ∀ w : World, (Instr.sliceAt t u l h none).run P w = .ok z w := by
  unfold aSlice at H
  split at H
  · obtain ⟨e, ht, a, b, ha, hb, h0, h1, h2, H⟩ := H
    obtain ⟨hu, hs⟩ := idxT_slc ht
    rename_i o nl sz xs
    obtain ⟨hsz, h3⟩ := RelD.lst_inv hx.1
    obtain ⟨a, rfl⟩ := Int.eq_ofNat_of_zero_le h0
    obtain ⟨b, rfl⟩ := Int.eq_ofNat_of_zero_le (Int.le_trans h0 h1)
    have h1' : a ≤ b := by omega
    have h2' : b * sz ≤ xs.length := by rw [← Int.natCast_mul] at h2; omega
    have bl := bnd_rel ha hlo hlo'
    have bh := bnd_rel hb hhi hhi'
    rcases h3 with ⟨rfl, rfl, hnl⟩ | ⟨ad, n, c, rfl, hnl, hl, hc, hm, hM⟩
    · have hb0 : b = 0 := by
        rcases Nat.eq_zero_or_pos b with h | h
        · exact h
        have := Nat.mul_pos h hsz; simp at h2'; omega
      subst hb0
      obtain rfl : a = 0 := by omega
      refine ⟨_, .slice none 0 0, H, ⟨by simpa using RelD.nil hnl hsz, ?_⟩, fun w => ?_⟩
      · split
        · intro a n c h; cases h; rfl
        trivial
      rcases bl with ⟨_, rfl, _⟩ | ⟨k1, rfl⟩ <;> rcases bh with ⟨_, rfl, _⟩ | ⟨k2, rfl⟩ <;>
        simp [Instr.sliceAt, Instr.slice, run_underlying hu, Instr.sliceBounds, Instr.sliceBound, asIntOf, run_sizeOf hs]
    have hbn : b ≤ n := by rw [← hl] at h2'; exact Nat.le_of_mul_le_mul_right h2' hsz
    have hlen : ((xs.take (b * sz)).drop (a * sz)).length = (b - a) * sz := by
      rw [List.length_drop, List.length_take, Nat.sub_mul]; omega
    have hM' : RelM g.M (ad.add (a * sz)) ((xs.take (b * sz)).drop (a * sz)) := by
      refine mem_drop (fun j d hd => ?_) _
      rw [List.getElem?_take] at hd
      split at hd
      · exact hM j d hd
      cases hd
    have key : ∀ (ho : (match o, hi with | .full, none => Own.full | _, _ => Own.no) = .full → b = c),
        RelC g (.lst (match o, hi with | .full, none => .full | _, _ => .no) nl sz ((xs.take ((b : Int).toNat * sz)).drop ((a : Int).toNat * sz))) (.slice (some (if c = a then ad else ad.add (a * sz))) (b - a) (c - a)) := by
      intro ho
      refine ⟨?_, ?_⟩
      · simp only [Int.toNat_natCast]
        refine RelD.mk hnl hsz (by rw [hlen]) (by omega) (by omega) ?_
        split
        · have e : (b - a) * sz = 0 := by rw [show b - a = 0 by omega]; omega
          intro j d hd
          have := (List.getElem?_eq_some_iff.1 hd).1
          rw [hlen, e] at this
          omega
        exact hM'
      split
      · intro a' n' c' h
        cases h
        have := ho rfl
        omega
      trivial
    have run : (∀ w : World, (Instr.sliceAt t (.slice (some ad) n c) l h none).run P w = .ok (.slice (some (if c = a then ad else ad.add (a * sz))) (b - a) (c - a)) w) := by
      intro w
      have hac : a ≤ c := by omega
      have hbc : b ≤ c := by omega
      have e : ∀ q : Addr, (if c = a then some q else some (q.add (a * sz))) = some (if c = a then q else q.add (a * sz)) := fun q => by split <;> rfl
      rcases bl with ⟨_, rfl, h5⟩ | ⟨k1, rfl⟩ <;> rcases bh with ⟨_, rfl, h6⟩ | ⟨k2, rfl⟩
      · have h5' : a = 0 := by omega
        have h6' : b = n := by have := Nat.mul_div_cancel n hsz; rw [hl] at this; omega
        subst h5'; subst h6'
        simp [Instr.sliceAt, Instr.slice, run_underlying hu, Instr.sliceBounds, Instr.sliceBound, asIntOf, run_sizeOf hs, add_zero_]
      · have h5' : a = 0 := by omega
        subst h5'
        simp [Instr.sliceAt, Instr.slice, run_underlying hu, Instr.sliceBounds, Instr.sliceBound, asIntOf, run_sizeOf hs, hbc, add_zero_]
      · have h6' : b = n := by have := Nat.mul_div_cancel n hsz; rw [hl] at this; omega
        subst h6'
        simp [Instr.sliceAt, Instr.slice, run_underlying hu, Instr.sliceBounds, Instr.sliceBound, asIntOf, run_sizeOf hs, h1', ← e]
      simp [Instr.sliceAt, Instr.slice, run_underlying hu, Instr.sliceBounds, Instr.sliceBound, asIntOf, run_sizeOf hs, h1', hbc, ← e]
    refine ⟨_, _, H, key ?_, run⟩
    intro ho
    split at ho
    · rcases bh with ⟨_, _, h6⟩ | ⟨k2, h6⟩
      · have := hx.2 _ _ _ rfl
        have h6' : b = n := by have := Nat.mul_div_cancel n hsz; rw [hl] at this; omega
        omega
      have := hhi' rfl; rw [this] at h6; cases h6
    cases ho
  · obtain ⟨e, sz, ht, a, b, ha, hb, h0, h1, h2, H⟩ := H
    obtain ⟨hu, hs⟩ := idxT_slc ht
    obtain rfl := hx
    obtain ⟨a, rfl⟩ := Int.eq_ofNat_of_zero_le h0
    obtain ⟨b, rfl⟩ := Int.eq_ofNat_of_zero_le (Int.le_trans h0 h1)
    have h1' : a ≤ b := by omega
    have h2' := Int.ofNat_le.1 h2
    refine ⟨_, _, H, rfl, fun w => ?_⟩
    simp only [Int.toNat_natCast]
    rcases bnd_rel ha hlo hlo' with ⟨_, rfl, h5⟩ | ⟨k1, rfl⟩ <;> rcases bnd_rel hb hhi hhi' with ⟨_, rfl, h6⟩ | ⟨k2, rfl⟩
    · have h5' : a = 0 := by omega
      have h6' := Int.ofNat_inj.1 h6
      subst h5'; subst h6'
      simp [Instr.sliceAt, Instr.slice, run_underlying hu, Instr.sliceBounds, Instr.sliceBound, asIntOf, run_sizeOf hs, add_zero_]
    · have h5' : a = 0 := by omega
      subst h5'
      simp [Instr.sliceAt, Instr.slice, run_underlying hu, Instr.sliceBounds, Instr.sliceBound, asIntOf, run_sizeOf hs, h2', add_zero_]
    · have h6' := Int.ofNat_inj.1 h6
      subst h6'
      simp [Instr.sliceAt, Instr.slice, run_underlying hu, Instr.sliceBounds, Instr.sliceBound, asIntOf, run_sizeOf hs, h1', add_mk]
      split <;> rfl
    simp [Instr.sliceAt, Instr.slice, run_underlying hu, Instr.sliceBounds, Instr.sliceBound, asIntOf, run_sizeOf hs, h1', h2', add_mk]
    split <;> rfl
  · obtain ⟨n, e, sz, ht, a, b, ha, hb, h0, h1, h2, H⟩ := H
    obtain ⟨hu, hs⟩ := idxT_arr ht
    obtain rfl := hx
    obtain ⟨a, rfl⟩ := Int.eq_ofNat_of_zero_le h0
    obtain ⟨b, rfl⟩ := Int.eq_ofNat_of_zero_le (Int.le_trans h0 h1)
    have h1' : a ≤ b := by omega
    have h2' : b ≤ n := by omega
    refine ⟨_, _, H, rfl, fun w => ?_⟩
    simp only [Int.toNat_natCast]
    rcases bnd_rel ha hlo hlo' with ⟨_, rfl, h5⟩ | ⟨k1, rfl⟩ <;> rcases bnd_rel hb hhi hhi' with ⟨_, rfl, h6⟩ | ⟨k2, rfl⟩
    · have h5' : a = 0 := by omega
      have h6' : b = n := by omega
      subst h5'; subst h6'
      simp [Instr.sliceAt, run_underlying hu, Instr.sureAddr, Instr.sliceBounds, Instr.sliceBound, asIntOf, run_sizeOf hs, add_zero_]
    · have h5' : a = 0 := by omega
      subst h5'
      simp [Instr.sliceAt, run_underlying hu, Instr.sureAddr, Instr.sliceBounds, Instr.sliceBound, asIntOf, run_sizeOf hs, h2', add_zero_]
    · have h6' : b = n := by omega
      subst h6'
      simp [Instr.sliceAt, run_underlying hu, Instr.sureAddr, Instr.sliceBounds, Instr.sliceBound, asIntOf, run_sizeOf hs, h1', add_mk]
      split <;> rfl
    simp [Instr.sliceAt, run_underlying hu, Instr.sureAddr, Instr.sliceBounds, Instr.sliceBound, asIntOf, run_sizeOf hs, h1', h2', add_mk]
    split <;> rfl
  · obtain ⟨ht, a, b, ha, hb, h0, h1, h2, H⟩ := H
    have hu := strT_spec ht
    obtain ⟨_, rfl⟩ := hx
    obtain ⟨a, rfl⟩ := Int.eq_ofNat_of_zero_le h0
    obtain ⟨b, rfl⟩ := Int.eq_ofNat_of_zero_le (Int.le_trans h0 h1)
    have h1' : a ≤ b := by omega
    have h2' := Int.ofNat_le.1 h2
    refine ⟨_, _, H, ⟨rfl, rfl⟩, fun w => ?_⟩
    simp only [Int.toNat_natCast]
    rcases bnd_rel ha hlo hlo' with ⟨_, rfl, h5⟩ | ⟨k1, rfl⟩ <;> rcases bnd_rel hb hhi hhi' with ⟨_, rfl, h6⟩ | ⟨k2, rfl⟩
    · have h5' : a = 0 := by omega
      have h6' := Int.ofNat_inj.1 h6
      subst h5'; subst h6'
      simp [Instr.sliceAt, Instr.slice, run_underlying hu, Instr.sliceBounds, Instr.sliceBound, asIntOf]
    · have h5' : a = 0 := by omega
      subst h5'
      simp [Instr.sliceAt, Instr.slice, run_underlying hu, Instr.sliceBounds, Instr.sliceBound, asIntOf, h2']
    · have h6' := Int.ofNat_inj.1 h6
      subst h6'
      simp [Instr.sliceAt, Instr.slice, run_underlying hu, Instr.sliceBounds, Instr.sliceBound, asIntOf, h1']
    simp [Instr.sliceAt, Instr.slice, run_underlying hu, Instr.sliceBounds, Instr.sliceBound, asIntOf, h1', h2']
  exact H.elim
theorem run_minmax {b : Bool} {xs : List V} {us : List Value} {ty : TypeId} {ts : Array TypeId} (hx : All2 (RelV g) xs us) (h : aMinMax b xs K) :
    ∃ r z, K r ∧ RelV g r z ∧ ∀ w : World, ((if b then Builtin.max_ else Builtin.min_) ts ty us.toArray).run P w = .ok z w := by
  unfold aMinMax at h
  split at h
  · rename_i k a k' b'
    obtain ⟨rfl, h⟩ := h
    obtain ⟨u, l, rfl, hu, hl⟩ := hx.cons_inv
    obtain ⟨v, l, rfl, hv, hl⟩ := hl.cons_inv
    obtain rfl := hl.nil_inv
    obtain ⟨_, rfl⟩ := hu
    obtain ⟨_, rfl⟩ := hv
    refine ⟨_, _, h, ⟨rfl, rfl⟩, fun w => ?_⟩
    cases b
    · simp [Builtin.min_, Builtin.min2]
      split <;> omega
    simp [Builtin.max_, Builtin.max2]
    split <;> omega
  exact h.elim
theorem ptrs_rel {xs : List V} {l : List (Id × Nat)} : ∀ {us : List Value}, All2 (RelV g) xs us → ptrs xs = some l → us = l.map (pv g.B) := by
  induction xs generalizing l with
  | nil => intro us hu h; cases h; exact hu.nil_inv
  | cons x xs ih =>
    intro us hu h
    obtain ⟨u, us, rfl, h1, h2⟩ := hu.cons_inv
    unfold ptrs at h
    split at h
    · rename_i heq; cases heq
    · rename_i i o l' heq
      injection heq with e1 e2
      subst e1; subst e2
      cases hq : ptrs xs with
      | none => rw [hq] at h; cases h
      | some l2 =>
        rw [hq] at h
        cases h
        rw [ih h2 hq]
        obtain rfl := h1
        rfl
    cases h
end
/-- an operation that leaves memory alone -/
def aPureOp (P : Program) (op : Op) (s : St) (K : V → Prop) : Prop :=
  match op with
  | .move x => K (s.ev x)
  | .assign x => K (s.ev x)
  | .pick c a b => match s.ev c with
    | .w (.c (.val (.bool t))) => (t = true → K (s.ev a)) ∧ (t = false → K (s.ev b))
    | _ => False
  | .binOp op t x y _ => aBinY P op t y (s.ev x) (s.ev y) K
  | .unOp op _ x => aUn op (s.ev x) K
  | .convert a b x => aConv P a b (s.ev x) K
  | .fieldAddr t x i => aFieldAddr P t (s.ev x) i K
  | .field t x i => aField P t (s.ev x) i K
  | .indexAddr t x i => aIndexAddr P t (s.ev x) (s.ev i) K
  | .index t x i => aIndex P t (s.ev x) (s.ev i) K
  | .extract x i => aExtract (s.ev x) i K
  | .nilCheck x => aNilCheck (s.ev x) K
  | .makeFunc f a b => aMakeFunc f (a.toList.map s.ev) (b.toList.map s.ev) K
  | .makeInterface t x => aMakeIface P t (s.ev x) K
  | .slice t x lo hi none => aSlice P t (s.ev x) (lo.map s.ev) (hi.map s.ev) K
  | .load t x => aLoadMem P t (s.ev x) K
  | .call ⟨.builtin .len, ⟨[x]⟩, ⟨[t]⟩⟩ => aLen P t (s.ev x) K
  | .call ⟨.builtin .max, ⟨xs⟩, _⟩ => aMinMax true (xs.map s.ev) K
  | .call ⟨.builtin .min, ⟨xs⟩, _⟩ => aMinMax false (xs.map s.ev) K
  | _ => False
def isLoad : Op → Bool
  | .load _ _ => true
  | _ => false
theorem aPureOp_sound {P : Program} {g : Gh} {o : Oper} {s : St} {ρ : Operand → Value} {K : V → Prop} (hs : ∀ x, RelV g (s.ev x) (ρ x)) (h : aPureOp P o.op s K) :
    ∃ r z, K r ∧ RelV g r z ∧ ∀ w : World, (isLoad o.op = true → MemOK g.M w) → (execOp ρ o).run P w = .ok (.value z) w := by
  have v : ∀ {z : Value} {w : World} {S : Sem Value}, S.run P w = .ok z w → (do pure (Next.value (← S)) : Sem Next).run P w = .ok (.value z) w := fun h => by simp [h]
  have map_rel : ∀ l : List Operand, All2 (RelV g) (l.map s.ev) (l.map ρ) := fun l => by
    induction l with
    | nil => exact .nil
    | cons x l ih => exact .cons (hs x) ih
  have opt1 : ∀ (x : Option Operand) v, x.map s.ev = some v → ∃ z, x.map ρ = some z ∧ RelV g v z := by
    intro x v h
    cases x with
    | none => cases h
    | some x => cases h; exact ⟨_, rfl, hs x⟩
  have opt2 : ∀ (x : Option Operand), x.map s.ev = none → x.map ρ = none := by
    intro x h; cases x with
    | none => rfl
    | some x => cases h
  obtain ⟨dst, op, type, pos, after, guard⟩ := o
  simp only at h
  unfold aPureOp at h
  split at h
  · exact ⟨_, _, h, hs _, fun w _ => rfl⟩
  · exact ⟨_, _, h, hs _, fun w _ => rfl⟩
  · rename_i c a b
    split at h
    · rename_i t ht
      have hc := hs c
      rw [ht] at hc
      obtain ⟨_, hc⟩ := hc
      cases t
      · exact ⟨_, _, h.2 rfl, hs b, fun w _ => by simp [execOp, hc, asBool]⟩
      exact ⟨_, _, h.1 rfl, hs a, fun w _ => by simp [execOp, hc, asBool]⟩
    exact h.elim
  · unfold aBinY at h
    split at h
    · rename_i x _ _
      have hn : ρ (.const .nilIface) = .nilIface := (hs (.const .nilIface)).2
      obtain ⟨r, z, h1, h2, h3⟩ := run_nilI (X := x) (hs _) h
      refine ⟨r, z, h1, h2, fun w _ => v ?_⟩
      rw [hn]; exact h3 w
    obtain ⟨r, z, h1, h2, h3⟩ := run_bin (X := _) (Y := _) (hs _) (hs _) h
    exact ⟨r, z, h1, h2, fun w _ => v (h3 w)⟩
  · obtain ⟨r, z, h1, h2, h3⟩ := run_un (P := P) (hs _) h
    exact ⟨r, z, h1, h2, fun w _ => v (h3 w)⟩
  · obtain ⟨r, z, h1, h2, h3⟩ := run_conv (hs _) h
    exact ⟨r, z, h1, h2, fun w _ => v (h3 w)⟩
  · obtain ⟨r, z, h1, h2, h3⟩ := run_fieldAddr (hs _) h
    exact ⟨r, z, h1, h2, fun w _ => v (h3 w)⟩
  · obtain ⟨r, z, h1, h2, h3⟩ := run_field (hs _) h
    exact ⟨r, z, h1, h2, fun w _ => v (h3 w)⟩
  · obtain ⟨r, z, h1, h2, h3⟩ := run_indexAddr (hs _) (hs _) h
    exact ⟨r, z, h1, h2, fun w _ => v (h3 w)⟩
  · obtain ⟨r, z, h1, h2, h3⟩ := run_index (hs _) (hs _) h
    exact ⟨r, z, h1, h2, fun w _ => v (h3 w)⟩
  · obtain ⟨r, z, h1, h2, h3⟩ := run_extract (P := P) (hs _) h
    exact ⟨r, z, h1, h2, fun w _ => v (h3 w)⟩
  · rename_i x
    have hx := hs x
    unfold aNilCheck at h
    split at h
    · rename_i heq; rw [heq] at hx; obtain hx := hx; exact ⟨_, _, h, by rw [heq]; exact hx, fun w _ => by have := hx; simp only [RelV, RelW, RelC] at this; simp [execOp, this]⟩
    · rename_i heq; rw [heq] at hx; obtain ⟨a, ha, hm⟩ := hx; exact ⟨_, _, h, by rw [heq]; exact ⟨a, ha, hm⟩, fun w _ => by simp [execOp, ha]⟩
    · rename_i heq; rw [heq] at hx; exact ⟨_, _, h, by rw [heq]; exact hx, fun w _ => by have := hx; simp only [RelV, RelW, RelC] at this; simp [execOp, this]⟩
    exact h.elim
  · obtain ⟨a, b, h1, h2, h⟩ := h
    refine ⟨_, _, h, rfl, fun w _ => ?_⟩
    have e1 := ptrs_rel (map_rel _) h1
    have e2 := ptrs_rel (map_rel _) h2
    have e0 : ∀ l : Array Operand, l.map ρ = (l.toList.map ρ).toArray := fun l => Array.ext' (Array.toList_map)
    simp only [execOp, Instr.makeFunc, e0, e1, e2]
    rfl
  · obtain ⟨r, z, h1, h2, h3⟩ := run_iface (hs _) h
    exact ⟨r, z, h1, h2, fun w _ => v (h3 w)⟩
  · obtain ⟨r, z, h1, h2, h3⟩ := run_slice (hs _) (opt1 _) (opt2 _) (opt1 _) (opt2 _) h
    exact ⟨r, z, h1, h2, fun w _ => v (h3 w)⟩
  · obtain ⟨r, z, h1, h2, h3⟩ := run_loadMem (hs _) h
    exact ⟨r, z, h1, h2, fun w hw => v (h3 w (hw rfl))⟩
  · obtain ⟨r, z, h1, h2, h3⟩ := run_len (ty := type) (hs _) h
    exact ⟨r, z, h1, h2, fun w _ => by simp [execOp, resolve, invoke, builtin, h3]⟩
  · obtain ⟨r, z, h1, h2, h3⟩ := run_minmax (P := P) (ty := type) (ts := _) (map_rel _) h
    exact ⟨r, z, h1, h2, fun w _ => by have h4 := h3 w; simp at h4; simp [execOp, resolve, invoke, builtin]; rw [h4]; rfl⟩
  · obtain ⟨r, z, h1, h2, h3⟩ := run_minmax (P := P) (ty := type) (ts := _) (map_rel _) h
    exact ⟨r, z, h1, h2, fun w _ => by have h4 := h3 w; simp at h4; simp [execOp, resolve, invoke, builtin]; rw [h4]; rfl⟩
  exact h.elim
end
section
theorem cell_eq {w w' : World} {a : Addr} (h : w'.heap[a.block]? = w.heap[a.block]?) : w'.cell? a = w.cell? a := World.cell?_of_block h
theorem cell_row {w : World} {k : Nat} {ys : Array Value} {t : TypeId} {fr : Nat × Nat} (h : w.heap[k]? = some (.cells ys t fr)) (o : Nat) : w.cell? ⟨k, o, none⟩ = ys[o]? := by
  simp [World.cell?, h]
theorem spot_none {w : World} {a : Addr} {v : Value} (h : w.cell? a = some v) : a.spot = none := by
  unfold World.cell? at h
  split at h
  · split at h
    · cases h
    rename_i hs; simpa using hs
  cases h

section
variable {E : Entry} {g g' : Gh} {h : Heap} {w w' : World} {s : St} {a : Act} {bi : Id → Bool} {bt : Tag → Bool}

/-- what is struck -/
theorem WI.clean (hw : WI g h w) (hM : g'.M = g.M) (hB : ∀ i, bi i = false → g'.B i = g.B i) (hO : ∀ t, g'.O t = if bt t then none else g.O t) : WI g' (hclean bi bt h) w := by
  have hb : ∀ i cs, hget (hclean bi bt h) i = some cs → bi i = false ∧ ∃ cs0, hget h i = some cs0 ∧ cs = cs0.map (C.clean bi bt) := by
    intro i cs hi
    rw [hget_hclean] at hi
    cases hq : bi i with
    | true => rw [hq] at hi; cases hi
    | false =>
      rw [hq] at hi
      cases hc : hget h i with
      | none => rw [hc] at hi; cases hi
      | some c => rw [hc] at hi; cases hi; exact ⟨rfl, _, rfl, rfl⟩
  have ho : ∀ t r, g'.O t = some r → g.O t = some r := by
    intro t r ht; rw [hO] at ht; split at ht
    · cases ht
    exact ht
  refine ⟨?_, ?_, ?_, ?_, ?_, ?_, ?_, fun t r ht => by rw [hM]; exact hw.muta t r (ho t r ht)⟩
  · intro a v ha; rw [hM] at ha; exact hw.mem a v ha
  · intro i cs hi
    obtain ⟨hbi, cs0, h0, rfl⟩ := hb i cs hi
    obtain ⟨ys, t, h1, h2, hT⟩ := hw.box i cs0 h0
    refine ⟨ys, t, by rw [hB i hbi]; exact h1, h2.map fun c y hc => ?_, hT.mapf clean_typ⟩
    exact RelC.clean (fun a v ha => by rw [hM]; exact ha) hB (fun t ht => by rw [hO, if_neg (by simp [ht])]) hc
  · intro i j cs ds hi hj e
    obtain ⟨hbi, cs0, h0, rfl⟩ := hb i cs hi
    obtain ⟨hbj, ds0, h1, rfl⟩ := hb j ds hj
    rw [hB i hbi, hB j hbj] at e
    exact hw.inj i j _ _ h0 h1 e
  · intro i cs a v hi ha
    obtain ⟨hbi, cs0, h0, rfl⟩ := hb i cs hi
    rw [hM] at ha
    rw [hB i hbi]
    exact hw.boxM i _ a v h0 ha
  · intro t r ht
    obtain ⟨cur, h1, h2, h3, h4, h5⟩ := hw.own t r (ho t r ht)
    exact ⟨cur, h1, h2, h3, h4, by rw [hM]; exact h5⟩
  · intro t r i cs ht hi
    obtain ⟨hbi, cs0, h0, rfl⟩ := hb i cs hi
    rw [hB i hbi]
    exact hw.ownB t r i _ (ho t r ht) h0
  intro t t' r r' h1 h2 e
  exact hw.ownI t t' r r' (ho t r h1) (ho t' r' h2) e
theorem Sim.clean (hs : Sim E g s a w) (hM : g'.M = g.M) (hB : ∀ i, bi i = false → g'.B i = g.B i) (hO : ∀ t, g'.O t = if bt t then none else g.O t) (hA : ∀ k, g'.B (.arg k) = g.B (.arg k)) :
    Sim E g' (s.clean bi bt) a w := by
  have hO' : ∀ t, bt t = false → g'.O t = g.O t := fun t ht => by rw [hO, if_neg (by simp [ht])]
  refine ⟨hs.slots.map fun v x hv => RelV.clean (fun a v ha => by rw [hM]; exact ha) hB hO' hv, hs.defers, hs.wi.clean hM hB hO, ?_⟩
  refine hs.cum.trans ⟨rfl, rfl, rfl, Nat.le_refl _, fun _ _ _ => rfl, ?_, fun a v ha => by rw [hM]; exact ha, fun a v ha => .inl (by rw [hM] at ha; exact ha), hA⟩
  rintro k (⟨i, cs, hi, rfl⟩ | ⟨t, r, ht, rfl⟩)
  · simp only [St.clean] at hi
    rw [hget_hclean] at hi
    cases hq : bi i with
    | true => rw [hq] at hi; cases hi
    | false =>
      rw [hq] at hi
      cases hc : hget s.heap i with
      | none => rw [hc] at hi; cases hi
      | some c => exact .inl (.inl ⟨i, c, hc, (hB i hq).symm⟩)
  rw [hO] at ht
  split at ht
  · cases ht
  exact .inl (.inr ⟨t, r, ht, rfl⟩)

/-- one block more -/
structure Grow1 (w w' : World) (ys : Array Value) (t : TypeId) : Prop where
  os : w'.os = w.os
  tape : w'.tape = w.tape
  output : w'.output = w.output
  size : w'.heap.size = w.heap.size + 1
  old : ∀ k, k < w.heap.size → w'.heap[k]? = w.heap[k]?
  new : w'.heap[w.heap.size]? = some (.cells ys t (0, 0))
theorem Grow1.alloc (w : World) (ys : Array Value) (t : TypeId) : Grow1 w (w.alloc (.cells ys t)) ys t :=
  ⟨rfl, rfl, rfl, by simp, fun k hk => Below.heap_alloc w _ k hk, heap_alloc_new w _⟩
theorem Grow1.allocDrew (w : World) (ys : Array Value) (t : TypeId) : Grow1 w (w.drew.alloc (.cells ys t)) ys t :=
  ⟨rfl, rfl, rfl, by simp, fun k hk => Below.heap_alloc w.drew _ k hk, heap_alloc_new w.drew _⟩
variable {ys : Array Value} {t : TypeId}
theorem Grow1.cell (hg : Grow1 w w' ys t) {a : Addr} {v : Value} (h : w.cell? a = some v) : w'.cell? a = some v := by
  rw [cell_eq (hg.old _ (World.block_lt_of_cell? w a h))]; exact h

theorem WI.addBox (hw : WI g h w) (hg : Grow1 w w' ys t) {i : Id} {cs : List C} (hB : g.B i = w.heap.size) (hr : All2 (RelC g) cs ys.toList) (hT : tyOK t cs) : WI g ((i, cs) :: h) w' := by
  have hb : ∀ j ds, hget ((i, cs) :: h) j = some ds → (j = i ∧ ds = cs) ∨ (j ≠ i ∧ hget h j = some ds) := by
    intro j ds hj
    simp only [hget] at hj
    split at hj
    · rename_i e; cases hj; exact .inl ⟨e.symm, rfl⟩
    rename_i e; exact .inr ⟨fun e' => e e'.symm, hj⟩
  have lt : ∀ j ds, hget h j = some ds → g.B j < w.heap.size := fun j ds hj => by obtain ⟨_, _, h1, _⟩ := hw.box j ds hj; exact block_lt h1
  refine ⟨fun a v ha => hg.cell (hw.mem a v ha), ?_, ?_, ?_, ?_, ?_, hw.ownI, fun t r ht => (hw.muta t r ht).same (by obtain ⟨_, h1, _⟩ := hw.own t r ht; exact hg.old _ (block_lt h1))⟩
  · intro j ds hj
    rcases hb j ds hj with ⟨rfl, rfl⟩ | ⟨_, hj⟩
    · exact ⟨ys, t, by rw [hB]; exact hg.new, hr, hT⟩
    obtain ⟨zs, u, h1, h2⟩ := hw.box j ds hj
    exact ⟨zs, u, by rw [hg.old _ (lt j ds hj)]; exact h1, h2⟩
  · intro j k ds es hj hk e
    rcases hb j ds hj with ⟨e1, _⟩ | ⟨hji, hj'⟩ <;> rcases hb k es hk with ⟨e2, _⟩ | ⟨hki, hk'⟩
    · rw [e1, e2]
    · have := lt k es hk'; rw [e1] at e; omega
    · have := lt j ds hj'; rw [e2] at e; omega
    exact hw.inj j k _ _ hj' hk' e
  · intro j ds a v hj ha
    rcases hb j ds hj with ⟨rfl, rfl⟩ | ⟨_, hj⟩
    · have := hw.mem_lt ha; omega
    exact hw.boxM j ds a v hj ha
  · intro t r ht
    obtain ⟨cur, h1, h2⟩ := hw.own t r ht
    exact ⟨cur, by rw [hg.old _ (block_lt h1)]; exact h1, h2⟩
  intro t r j ds ht hj
  obtain ⟨cur, h1, h2⟩ := hw.own t r ht
  have := block_lt h1
  rcases hb j ds hj with ⟨rfl, rfl⟩ | ⟨_, hj⟩
  · omega
  exact hw.ownB t r j ds ht hj
theorem Sim.addBox (hs : Sim E g s a w) (hg : Grow1 w w' ys t) {i : Id} {cs : List C} (hB : g.B i = w.heap.size) (hr : All2 (RelC g) cs ys.toList) (hT : tyOK t cs) : Sim E g ⟨s.slots, (i, cs) :: s.heap⟩ a w' := by
  refine ⟨hs.slots, hs.defers, hs.wi.addBox hg hB hr hT, hs.cum.trans ⟨hg.os, hg.tape, hg.output, by show w.heap.size ≤ _; rw [hg.size]; omega, fun k hk _ => hg.old k hk, ?_, fun _ _ h => h, fun _ _ h => .inl h, fun _ => rfl⟩⟩
  rintro k (⟨j, ds, hj, rfl⟩ | ⟨t, r, ht, rfl⟩)
  · simp only [hget] at hj
    split at hj
    · rename_i e; subst e; exact .inr (by show w.heap.size ≤ _; omega)
    exact .inl (.inl ⟨j, ds, hj, rfl⟩)
  exact .inl (.inr ⟨t, r, ht, rfl⟩)

/-- memory that is read from now on: a row of cells in a block -/
def addM (M : Addr → Option Value) (k : Nat) (ys : List Value) : Addr → Option Value := fun a => if a.block = k ∧ a.spot = none ∧ a.off < ys.length then ys[a.off]? else M a
theorem addM_get {M : Addr → Option Value} {k : Nat} {ys : List Value} {i : Nat} {v : Value} (h : ys[i]? = some v) : addM M k ys ((⟨k, 0, none⟩ : Addr).add i) = some v := by
  rw [add_mk, Nat.zero_add]
  unfold addM
  rw [if_pos ⟨rfl, rfl, (List.getElem?_eq_some_iff.1 h).1⟩]
  exact h
theorem addM_old {M : Addr → Option Value} {k : Nat} {ys : List Value} (hn : ∀ a v, M a = some v → a.block = k → a.off < ys.length → ys[a.off]? = some v) {a : Addr} {v : Value} (h : M a = some v) : addM M k ys a = some v := by
  unfold addM
  split
  · rename_i hc; exact hn a v h hc.1 hc.2.2
  exact h
theorem addM_inv {M : Addr → Option Value} {k : Nat} {ys : List Value} {a : Addr} {v : Value} (h : addM M k ys a = some v) : M a = some v ∨ (a.block = k ∧ a.spot = none ∧ a.off < ys.length ∧ ys[a.off]? = some v) := by
  unfold addM at h
  split at h
  · rename_i hc; exact .inr ⟨hc.1, hc.2.1, hc.2.2, h⟩
  exact .inl h

/-- a row that is made: it may be read, and it is somebody's -/
theorem Sim.addRow (hs : Sim E g s a w) (hg : Grow1 w w' ys t) {τ : Tag} {n c sz : Nat} (hτ : g.O τ = none) (hc : ys.size = c * sz) (hn : n ≤ c) (hm : c ≤ maxLen)
    (hM : g'.M = addM g.M w.heap.size (ys.toList.take (n * sz))) (hB : g'.B = g.B) (hO : ∀ u, g'.O u = if u = τ then some ⟨w.heap.size, n, c, sz, t, none⟩ else g.O u) : Sim E g' s a w' := by
  have hold : ∀ a v, g.M a = some v → a.block = w.heap.size → a.off < (ys.toList.take (n * sz)).length → (ys.toList.take (n * sz))[a.off]? = some v := fun a v ha e => by
    have := hs.wi.mem_lt ha; omega
  have hMm : ∀ a v, g.M a = some v → g'.M a = some v := fun a v ha => by rw [hM]; exact addM_old hold ha
  have hOm : ∀ u r, g.O u = some r → g'.O u = some r := fun u r hu => by
    rw [hO, if_neg]; exact hu
    rintro rfl; rw [hτ] at hu; cases hu
  have lt : ∀ j ds, hget s.heap j = some ds → g.B j < w.heap.size := fun j ds hj => by obtain ⟨_, _, h1, _⟩ := hs.wi.box j ds hj; exact block_lt h1
  have relC : ∀ c y, RelC g c y → RelC g' c y := by
    intro c y hc
    cases c with
    | undef => trivial
    | val x => exact hc
    | lst o nl sz' xs =>
      refine ⟨hc.1.mono hMm, ?_⟩
      cases o with
      | no => trivial
      | full => exact hc.2
      | tag u =>
        rcases hc.2 with h | ⟨r, h1, h2⟩
        · exact .inl h
        exact .inr ⟨r, hOm u r h1, h2⟩
    | ptr i o => show y = _; rw [hB]; exact hc
    | mem xs => obtain ⟨a, h1, h2⟩ := hc; exact ⟨a, h1, h2.mono hMm⟩
    | row i o n c => show y = _; rw [hB]; exact hc
    | fn f x y' => show y = _; rw [hB]; exact hc
    | typ => exact hc
    | ifc => exact hc
    | stk u sz ds =>
      rcases hc.2 with h | ⟨r, h1, h2⟩
      · exact ⟨hc.1, .inl h⟩
      exact ⟨hc.1, .inr ⟨r, hOm u r h1, h2⟩⟩
    | sptr u off sz ds => obtain ⟨r, h1, h2⟩ := hc; exact ⟨r, hOm u r h1, h2⟩
  have relW : ∀ c y, RelW g c y → RelW g' c y := by
    intro c y hc
    cases c with
    | c x => exact relC _ _ hc
    | agg cs => obtain ⟨ys, h1, h2⟩ := hc; exact ⟨ys, h1, h2.mono relC⟩
  have relV : ∀ c y, RelV g c y → RelV g' c y := by
    intro c y hc
    cases c with
    | w x => exact relW _ _ hc
    | tup cs => obtain ⟨ys, h1, h2⟩ := hc; exact ⟨ys, h1, h2.mono relW⟩
  refine ⟨hs.slots.mono relV, hs.defers, ⟨?_, ?_, ?_, ?_, ?_, ?_, ?_, ?_⟩, hs.cum.trans ⟨hg.os, hg.tape, hg.output, by show w.heap.size ≤ _; rw [hg.size]; omega, fun k hk _ => hg.old k hk, ?_, hMm, ?_, fun k => by rw [hB]; rfl⟩⟩
  · intro a v ha
    rw [hM] at ha
    rcases addM_inv ha with ha | ⟨h1, h2, h3, h4⟩
    · exact hg.cell (hs.wi.mem a v ha)
    obtain ⟨b, o, sp⟩ := a
    simp only at h1 h2 h3 h4
    subst h1; subst h2
    rw [cell_row hg.new, ← Array.getElem?_toList]
    rw [List.getElem?_take] at h4
    split at h4
    · exact h4
    cases h4
  · intro j ds hj
    obtain ⟨zs, u, h1, h2, hT⟩ := hs.wi.box j ds hj
    exact ⟨zs, u, by rw [hB, hg.old _ (lt j ds hj)]; exact h1, h2.mono relC, hT⟩
  · intro i j cs ds hi hj e; rw [hB] at e; exact hs.wi.inj i j _ _ hi hj e
  · intro j ds a v hj ha
    rw [hB]
    rw [hM] at ha
    rcases addM_inv ha with ha | ⟨h1, _⟩
    · exact hs.wi.boxM j ds a v hj ha
    have := lt j ds hj; omega
  · intro u r hu
    rw [hO] at hu
    split at hu
    · cases hu
      refine ⟨ys, hg.new, hc, hn, hm, fun a v ha hb => ?_⟩
      rw [hM] at ha
      rcases addM_inv ha with ha | ⟨_, _, h3, _⟩
      · have := hs.wi.mem_lt ha; simp only at hb; omega
      simp only [List.length_take] at h3; simp only; omega
    obtain ⟨cur, h1, h2, h3, h4, h5⟩ := hs.wi.own u r hu
    have := block_lt h1
    refine ⟨cur, by rw [hg.old _ this]; exact h1, h2, h3, h4, fun a v ha hb => ?_⟩
    rw [hM] at ha
    rcases addM_inv ha with ha | ⟨h6, _⟩
    · exact h5 a v ha hb
    omega
  · intro u r j ds hu hj
    rw [hB]
    have := lt j ds hj
    rw [hO] at hu
    split at hu
    · cases hu; simp only; omega
    exact hs.wi.ownB u r j ds hu hj
  · intro u u' r r' h1 h2 e
    have own_lt : ∀ u r, g.O u = some r → r.blk < w.heap.size := fun u r hu => by obtain ⟨cur, h1, _⟩ := hs.wi.own u r hu; exact block_lt h1
    rw [hO] at h1 h2
    split at h1 <;> split at h2
    · rename_i e1 e2; rw [e1, e2]
    · cases h1; have := own_lt _ _ h2; simp only at e; omega
    · cases h2; have := own_lt _ _ h1; simp only at e; omega
    exact hs.wi.ownI u u' r r' h1 h2 e
  · intro u r hu
    rw [hO] at hu
    split at hu
    · cases hu; exact .none rfl
    obtain ⟨_, h1, _⟩ := hs.wi.own u r hu
    have := block_lt h1
    refine (hs.wi.muta u r hu).mono hMm (fun a v ha e => ?_) (hg.old _ this)
    rw [hM] at ha
    rcases addM_inv ha with ha | ⟨h6, _⟩
    · exact ha
    omega
  · rintro k (⟨j, ds, hj, rfl⟩ | ⟨u, r, hu, rfl⟩)
    · rw [hB]; exact .inl (.inl ⟨j, ds, hj, rfl⟩)
    rw [hO] at hu
    split at hu
    · cases hu; exact .inr (Nat.le_refl _)
    exact .inl (.inr ⟨u, r, hu, rfl⟩)
  intro a v ha
  rw [hM] at ha
  rcases addM_inv ha with ha | ⟨h1, _⟩
  · exact .inl ha
  exact .inr (.inr (by show w.heap.size ≤ _; omega))

/-- a box is written -/
theorem Sim.setBox (hs : Sim E g s a w) {i : Id} {cs : List C} (hi : hget s.heap i = some cs) {cs' : List C} {ys' : Array Value} (hr : All2 (RelC g) cs' ys'.toList)
    (hw : ∀ k, k ≠ g.B i → w'.heap[k]? = w.heap[k]?) (hn : ∃ ys t, w.heap[g.B i]? = some (.cells ys t (0, 0)) ∧ w'.heap[g.B i]? = some (.cells ys' t (0, 0))) (hTT : ∀ t, tyOK t cs → tyOK t cs') (ho : w'.os = w.os) (ht : w'.tape = w.tape) (hp : w'.output = w.output) (hz : w'.heap.size = w.heap.size) :
    Sim E g ⟨s.slots, hset s.heap i cs'⟩ a w' := by
  have hb : ∀ j ds, hget (hset s.heap i cs') j = some ds → (j = i ∧ ds = cs') ∨ (j ≠ i ∧ hget s.heap j = some ds) := by
    intro j ds hj
    rw [hget_hset] at hj
    split at hj
    · rename_i e; cases hj; exact .inl ⟨e.symm, rfl⟩
    rename_i e; exact .inr ⟨fun e' => e e'.symm, hj⟩
  have hb' : ∀ j ds, hget (hset s.heap i cs') j = some ds → ∃ ds0, hget s.heap j = some ds0 := by
    intro j ds hj
    rcases hb j ds hj with ⟨rfl, _⟩ | ⟨_, hj⟩
    · exact ⟨_, hi⟩
    exact ⟨_, hj⟩
  refine ⟨hs.slots, hs.defers, ⟨?_, ?_, ?_, ?_, ?_, ?_, hs.wi.ownI, fun t r hr' => (hs.wi.muta t r hr').same (hw _ (hs.wi.ownB t r i cs hr' hi))⟩, hs.cum.trans ⟨ho, ht, hp, by show w.heap.size ≤ _; omega, ?_, ?_, fun _ _ h => h, fun _ _ h => .inl h, fun _ => rfl⟩⟩
  · intro a v ha
    rw [cell_eq (hw _ (hs.wi.boxM i cs a v hi ha))]
    exact hs.wi.mem a v ha
  · intro j ds hj
    rcases hb j ds hj with ⟨rfl, rfl⟩ | ⟨hne, hj⟩
    · obtain ⟨ys0, t, h0, ht⟩ := hn
      obtain ⟨zs, u, h1, _, hT⟩ := hs.wi.box j cs hi
      rw [h0] at h1
      cases h1
      exact ⟨ys', t, ht, hr, hTT t hT⟩
    obtain ⟨zs, u, h1, h2⟩ := hs.wi.box j ds hj
    exact ⟨zs, u, by rw [hw _ (fun e => hne (hs.wi.inj j i _ _ hj hi e))]; exact h1, h2⟩
  · intro j k ds es hj hk e
    obtain ⟨d0, h1⟩ := hb' j ds hj
    obtain ⟨e0, h2⟩ := hb' k es hk
    exact hs.wi.inj j k _ _ h1 h2 e
  · intro j ds a v hj ha
    obtain ⟨d0, h1⟩ := hb' j ds hj
    exact hs.wi.boxM j d0 a v h1 ha
  · intro t r hr'
    obtain ⟨cur, h1, h2⟩ := hs.wi.own t r hr'
    exact ⟨cur, by rw [hw _ (hs.wi.ownB t r i cs hr' hi)]; exact h1, h2⟩
  · intro t r j ds hr' hj
    obtain ⟨d0, h1⟩ := hb' j ds hj
    exact hs.wi.ownB t r j d0 hr' h1
  · intro k hk hF
    exact hw k (fun e => hF (.inl ⟨i, cs, hi, e.symm⟩))
  rintro k (⟨j, ds, hj, rfl⟩ | ⟨u, r, hu, rfl⟩)
  · obtain ⟨d0, h1⟩ := hb' j ds hj
    exact .inl (.inl ⟨j, d0, h1, rfl⟩)
  exact .inl (.inr ⟨u, r, hu, rfl⟩)
end
end
section
/-! ### cells laid over cells -/
def spl {α : Type} : List α → Nat → List α → List α
  | l, _, [] => l
  | l, o, v :: vs => spl (l.set o v) (o + 1) vs
theorem spl_rel {α β : Type} {R : α → β → Prop} {vs : List α} : ∀ {us : List β} {l : List α} {m : List β} {o : Nat}, All2 R l m → All2 R vs us → All2 R (spl l o vs) (spl m o us) := by
  induction vs with
  | nil => intro us l m o h hv; rw [hv.nil_inv]; exact h
  | cons v vs ih =>
    intro us l m o h hv
    obtain ⟨u, us', rfl, h1, h2⟩ := hv.cons_inv
    exact ih (h.set h1 o) h2
theorem spl_length {α : Type} {vs : List α} : ∀ {l : List α} {o : Nat}, (spl l o vs).length = l.length := by
  induction vs with
  | nil => intro l o; rfl
  | cons v vs ih => intro l o; simp only [spl, ih, List.length_set]
theorem spl_eq {α : Type} {vs : List α} : ∀ {l : List α} {o : Nat}, o + vs.length ≤ l.length → spl l o vs = l.take o ++ vs ++ l.drop (o + vs.length) := by
  induction vs with
  | nil => intro l o _; simp [spl]
  | cons v vs ih =>
    intro l o h
    simp only [List.length_cons] at h
    rw [spl, ih (by simp; omega)]
    have ho : o < l.length := by omega
    rw [List.take_succ_eq_append_getElem (by simpa using ho), List.take_set_of_le (Nat.le_refl _), List.getElem_set_self, List.drop_set_of_lt (by omega)]
    simp only [List.append_assoc, List.cons_append, List.nil_append, List.length_cons]
    congr 3
    rw [Nat.add_right_comm, Nat.add_assoc]
theorem foldl_spl (off : Nat) (l : List Value) : ∀ (k : Nat) (ys : Array Value), ((l.zipIdx k).foldl (fun cs p => cs.setIfInBounds (off + p.2) p.1) ys).toList = spl ys.toList (off + k) l := by
  induction l with
  | nil => intro k ys; rfl
  | cons v l ih =>
    intro k ys
    simp only [List.zipIdx_cons, List.foldl_cons, ih, spl, Array.toList_setIfInBounds, Nat.add_assoc]

/-- the cells of a value -/
def cellsOf : V → Option (List C)
  | .w (.c .undef) => none
  | .w (.c c) => some [c]
  | .w (.agg cs) => some cs
  | .tup _ => none
def known : C → Bool
  | .undef => false
  | .typ _ => false
  | _ => true
theorem known_ne {c : C} (h : known c = true) : c ≠ .undef := by rintro rfl; cases h
theorem one_cells {v : Value} (h : v.oneCell' = true) : v.cells = #[v] := by cases v <;> simp_all [Value.oneCell', Value.cells]
theorem cellsOf_rel {g : Gh} {v : V} {y : Value} {cs : List C} (hr : RelV g v y) (h : cellsOf v = some cs) : All2 (RelC g) cs y.cells.toList := by
  unfold cellsOf at h
  split at h
  · cases h
  · rename_i c hc
    cases h
    have := RelC.one hr (by rintro rfl; exact hc rfl)
    rw [one_cells this]
    exact .cons hr .nil
  · cases h
    obtain ⟨ys, rfl, h⟩ := hr
    exact h
  cases h

def aFill (place : Nat → Option (Nat × Nat)) : List C → List (Nat × V) → Option (List C)
  | cells, [] => some cells
  | cells, (i, v) :: rest =>
    match place i, cellsOf v with
    | some (off, size), some vs => if vs.length ≠ size ∨ off + vs.length > cells.length then none else aFill place (spl cells off vs) rest
    | _, _ => none
theorem spl_mem {α : Type} {x : α} {vs : List α} : ∀ {l : List α} {o : Nat}, x ∈ spl l o vs → x ∈ l ∨ x ∈ vs := by
  induction vs with
  | nil => intro l o h; exact .inl h
  | cons v vs ih =>
    intro l o h
    rcases ih (l := l.set o v) (o := o + 1) h with h | h
    · rcases List.mem_or_eq_of_mem_set h with h | h
      · exact .inl h
      subst h; exact .inr (by simp)
    exact .inr (List.mem_cons_of_mem _ h)
theorem tyOK.spl {t : TypeId} {cs vs : List C} {o : Nat} (h : tyOK t cs) (hv : ∀ τ, C.typ τ ∉ vs) : tyOK t (Proofs.YtgeelaafmnedmaaGreat.spl cs o vs) := fun τ hτ => by
  rcases spl_mem hτ with h1 | h1
  · exact h τ h1
  exact absurd h1 (hv τ)
theorem no_typ {bi : Id → Bool} {bt : Tag → Bool} (hb : bt (.slot []) = true) (cs : List C) (τ : TypeId) : C.typ τ ∉ cs.map (C.clean bi bt) := fun h => by
  obtain ⟨c, _, e⟩ := List.mem_map.1 h
  have := clean_typ c τ e
  subst this
  simp [C.clean, hb] at e
theorem no_typD (ds : List D) (τ : TypeId) : C.typ τ ∉ ds.map D.toC := fun h => by
  obtain ⟨d, _, e⟩ := List.mem_map.1 h
  cases d <;> cases e
theorem no_typV (vs : List Value) (τ : TypeId) : C.typ τ ∉ vs.map ofCell := fun h => by
  obtain ⟨v, _, e⟩ := List.mem_map.1 h
  unfold ofCell at e
  split at e
  · cases e
  split at e
  · split at e <;> cases e
  · split at e <;> cases e
  cases e
theorem aFill_rel {g : Gh} {place : Nat → Option (Nat × Nat)} {parts : List (Nat × V)} : ∀ {us : List (Nat × Value)} {cs cs' : List C} {ys : Array Value}, All2 (fun p q => p.1 = q.1 ∧ RelV g p.2 q.2) parts us → All2 (RelC g) cs ys.toList →
    aFill place cs parts = some cs' → ∃ ys', Instr.fill place ys us = some ys' ∧ All2 (RelC g) cs' ys'.toList := by
  induction parts with
  | nil => intro us cs cs' ys hp hc h; rw [hp.nil_inv]; cases h; exact ⟨ys, rfl, hc⟩
  | cons p parts ih =>
    intro us cs cs' ys hp hc h
    obtain ⟨q, us', rfl, ⟨h1, h2⟩, h3⟩ := hp.cons_inv
    obtain ⟨i, v⟩ := p
    obtain ⟨j, u⟩ := q
    simp only at h1 h2
    subst h1
    simp only [aFill] at h
    split at h
    · rename_i off size vs hpl hvs
      split at h
      · cases h
      rename_i hn
      have hv := cellsOf_rel h2 hvs
      have hl := hv.length
      have hcl := hc.length
      simp only [Array.length_toList] at hl hcl
      have hn' : ¬ (u.cells.size ≠ size ∨ off + u.cells.size > ys.size) := by rw [← hl, ← hcl]; exact hn
      simp only [Instr.fill, hpl]
      have hb : (decide (u.cells.size ≠ size) || decide (off + u.cells.size > ys.size)) = false := by
        simp only [Bool.or_eq_false_iff, decide_eq_false_iff_not]
        exact ⟨fun h => hn' (.inl h), fun h => hn' (.inr h)⟩
      refine Exists.imp (fun ys' => And.imp_left fun h => ?_) (ih (ys := u.cells.zipIdx.foldl (fun cs x => cs.setIfInBounds (off + x.2) x.1) ys) h3 ?_ h)
      · rw [if_neg (by simpa using hn')]
        exact h
      have e := foldl_spl off u.cells.toList 0 ys
      have e2 : (u.cells.zipIdx.foldl (fun cs x => cs.setIfInBounds (off + x.2) x.1) ys) = ((u.cells.toList.zipIdx 0).foldl (fun cs p => cs.setIfInBounds (off + p.2) p.1) ys) := by
        rw [← Array.foldl_toList, Array.toList_zipIdx]
      rw [e2, e, Nat.add_zero]
      exact spl_rel hc hv
    cases h

/-! ### zeros -/
def zeroC (P : Program) (t : TypeId) : Option (List C) := ((P.info? t).bind (·.zero)).map fun z => z.cells.toList.map ofCell
theorem zeroC_spec {P : Program} {t : TypeId} {cs : List C} (h : zeroC P t = some cs) : ∃ i z, P.info? t = some i ∧ i.zero = some z ∧ cs = z.cells.toList.map ofCell := by
  unfold zeroC at h
  cases hi : P.info? t with
  | none => rw [hi] at h; cases h
  | some i =>
    rw [hi] at h
    cases hz : i.zero with
    | none => simp [hz] at h
    | some z => simp [hz] at h; exact ⟨i, z, rfl, hz, by simp [← h]⟩
theorem ofCells_rel (g : Gh) (l : List Value) : All2 (RelC g) (l.map ofCell) l := by
  induction l with
  | nil => exact .nil
  | cons v l ih => exact .cons (ofCell_rel g v) ih
theorem flat_rel {α β : Type} {R : α → β → Prop} {l : List α} {m : List β} (h : All2 R l m) (n : Nat) : All2 R (List.replicate n l).flatten (List.replicate n m).flatten := by
  induction n with
  | zero => exact .nil
  | succ n ih => simp only [List.replicate_succ, List.flatten_cons]; exact h.append ih
theorem flat_get {α : Type} (l : List α) (hl : 0 < l.length) : ∀ (n i : Nat), i < n * l.length → (List.replicate n l).flatten[i]? = l[i % l.length]? := by
  intro n
  induction n with
  | zero => intro i h; omega
  | succ n ih =>
    intro i h
    simp only [List.replicate_succ, List.flatten_cons]
    by_cases hi : i < l.length
    · rw [List.getElem?_append_left hi, Nat.mod_eq_of_lt hi]
    rw [List.getElem?_append_right (by omega), ih _ (by rw [Nat.succ_mul] at h; omega)]
    congr 1
    rw [Nat.mod_eq_sub_mod (by omega : l.length ≤ i)]
theorem zeros_eq (z : Array Value) (n : Nat) (hz : 0 < z.size) : ((Array.range (n * z.size)).map (z[· % z.size]!)).toList = (List.replicate n z.toList).flatten := by
  apply List.ext_getElem?
  intro i
  by_cases hi : i < n * z.size
  · rw [flat_get z.toList (by simpa using hz) n i (by simpa using hi)]
    have hm : i % z.size < z.size := Nat.mod_lt _ hz
    simp [hi, hm]
  rw [List.getElem?_eq_none (by simp; omega), List.getElem?_eq_none]
  have : (List.replicate n z.toList).flatten.length = n * z.size := by simp
  omega

def allD : List C → Option (List D)
  | [] => some []
  | c :: l => match c.toD, allD l with
    | some d, some ds => some (d :: ds)
    | _, _ => none
theorem allD_rel {g : Gh} {cs : List C} : ∀ {ds : List D} {ys : List Value}, allD cs = some ds → All2 (RelC g) cs ys → All2 (RelD g.M) ds ys := by
  induction cs with
  | nil => intro ds ys h hr; cases h; rw [hr.nil_inv]; exact .nil
  | cons c cs ih =>
    intro ds ys h hr
    obtain ⟨y, ys', rfl, h1, h2⟩ := hr.cons_inv
    unfold allD at h
    split at h
    · rename_i d ds' hd hds
      cases h
      exact .cons (C.toD_rel hd h1) (ih hds h2)
    cases h
/-! ### whose things are that are made at a place -/
def rootI (d : Nat) : Id → Bool
  | .loc (x :: _) => x == d
  | _ => false
def rootT (d : Nat) : Tag → Bool
  | .slot (x :: _) => x == d
  | .made (x :: _) => x == d
  | .cell i _ => rootI d i
  | .bslot _ (x :: _) => x == d
  | .bcell _ i _ => rootI d i
  | _ => false

/-! ### the operations -/
def aLoadBox (P : Program) (t : TypeId) (x : V) (s : St) (K : V → Prop) : Prop :=
  match x with
  | .w (.c (.ptr i off)) => ∃ cs sz, hget s.heap i = some cs ∧ sizeT P t = some sz ∧ aPart P t sz cs off K
  | _ => False
def St.stow (s : St) (i : Id) (off : Nat) (cs vs : List C) : St :=
  match vs with
  | [.lst (.tag τ) nl sz xs] =>
    let bt := fun t => t == τ || t == sigT τ i off
    ⟨s.slots.map (V.clean (fun _ => false) bt), hset (hclean (fun _ => false) bt s.heap) i (spl (cs.map (C.clean (fun _ => false) bt)) off [.lst (.tag (sigT τ i off)) nl sz xs])⟩
  | [.stk τ sz ds] =>
    let bt := fun t => t == τ || t == .cell i off
    ⟨s.slots.map (V.clean (fun _ => false) bt), hset (hclean (fun _ => false) bt s.heap) i (spl (cs.map (C.clean (fun _ => false) bt)) off [.stk (.cell i off) sz ds])⟩
  | vs => ⟨s.slots, hset s.heap i (spl cs off (vs.map (C.clean (fun _ => false) fun _ => true)))⟩
def aStore (P : Program) (t : TypeId) (x v : V) (s : St) (K : V → St → Prop) : Prop :=
  match x with
  | .w (.c (.ptr i off)) => ∃ cs vs, hget s.heap i = some cs ∧ cellsOf v = some vs ∧ sizeT P t = some vs.length ∧ off + vs.length ≤ cs.length ∧ vs.all known = true ∧ K V.undef (s.stow i off cs vs)
  | _ => False
def aNew (d : Nat) (cs : List C) (s : St) (K : V → St → Prop) : Prop :=
  K (.cell (.ptr (.loc [d]) 0)) ⟨(s.clean (rootI d) (rootT d)).slots, (.loc [d], cs.map (C.clean (rootI d) fun _ => true)) :: (s.clean (rootI d) (rootT d)).heap⟩
/-- a box made of a type: one that points to itself tells its type -/
def selfT (P : Program) (e : TypeId) : Bool := match P.underlying e with
  | some (.struct fs) => match fs[0]? with
    | some f => match P.underlying f.type with
      | some (.pointer e') => e' == e
      | _ => false
    | none => false
  | _ => false
def allocC (P : Program) (e : TypeId) : Option (List C) := (zeroC P e).map fun z => if selfT P e = true then (match z with
  | .val (.pointer none) :: r => .typ e :: r
  | z => z) else z
def aNewA (d : Nat) (cs : List C) (s : St) (K : V → St → Prop) : Prop :=
  K (.cell (.ptr (.loc [d]) 0)) ⟨(s.clean (rootI d) (rootT d)).slots, (.loc [d], cs) :: (s.clean (rootI d) (rootT d)).heap⟩
/-- a string, or a row of bytes -/
def sbT (P : Program) (t : TypeId) : Option Bool := if isStrT P t = true then some false else
  match idxT P t with
  | some (none, e, 1) => if kindT P e = some .u8 then some true else none
  | _ => none
def aBuild (P : Program) (t : TypeId) (parts : List (Nat × V)) (K : V → Prop) : Prop :=
  ∃ z pl cs, zeroC P t = some z ∧ (match P.underlying t with
    | some (.array _ e) => ∃ n, sizeT P e = some n ∧ pl = fun i => some (i * n, n)
    | some (.struct fs) => ∃ l, fs.toList.mapM (fun f => (P.info? f.type).map fun i => (f.offset, i.size)) = some l ∧ pl = fun i => l[i]?
    | _ => False) ∧ aFill pl z parts = some cs ∧ K (.w (.agg cs))
/-- a row of nothing is full -/
def ownB (len d : Nat) : Own := if len = 0 then .full else .tag (.made [d])
def aBuildSlice (P : Program) (t : TypeId) (len : Nat) (parts : List (Nat × V)) (d : Nat) (s : St) (K : V → St → Prop) : Prop :=
  ∃ e sz z cs ds, idxT P t = some (none, e, sz) ∧ 0 < sz ∧ len * sz ≤ 16777216 ∧ zeroC P e = some z ∧ z.length = sz ∧ aFill (fun i => some (i * sz, sz)) (List.replicate len z).flatten parts = some cs ∧ allD cs = some ds ∧
    K (.cell (.lst (ownB len d) (some false) sz ds)) (s.clean (fun _ => false) (rootT d))
def bytesT (P : Program) (t : TypeId) : Option Nat := (P.info? t).map (·.bytes)
def aMakeSlice (P : Program) (t : TypeId) (l c : V) (d : Nat) (s : St) (K : V → St → Prop) : Prop :=
  match l, c with
  | .w (.c (.val (.int _ l))), .w (.c (.val (.int _ c))) => ∃ e sz z ds b, idxT P t = some (none, e, sz) ∧ 0 < sz ∧ zeroC P e = some z ∧ z.length = sz ∧ allD z = some ds ∧ bytesT P e = some b ∧ 0 < b ∧ 0 ≤ l ∧ l ≤ c ∧ (b : Int) * c ≤ 140737488355328 ∧
    (K (.cell (.lst (.tag (.slot [d])) (some false) sz (List.replicate l.toNat ds).flatten)) (s.clean (fun _ => false) (rootT d)) ∨
     K (.cell (.row (.loc [d]) 0 l.toNat c.toNat)) ⟨(s.clean (rootI d) (rootT d)).slots, (.loc [d], (List.replicate c.toNat z).flatten) :: (s.clean (rootI d) (rootT d)).heap⟩)
  | _, _ => False
/-- what is appended or copied -/
def aSrc (sz : Nat) (x : V) (s : St) (K : List D → Prop) : Prop :=
  match x with
  | .w (.c (.lst _ _ sz' ys)) => (sz' = sz ∨ ys = []) ∧ K ys
  | .w (.c (.row i off n _)) => ∃ cs ds, hget s.heap i = some cs ∧ off + n * sz ≤ cs.length ∧ allD ((cs.drop off).take (n * sz)) = some ds ∧ K ds
  | _ => False
def killT (o : Own) (d : Nat) : Tag → Bool := fun t => rootT d t || (match o with
  | .tag τ => t == τ
  | _ => false)
def aAppend (P : Program) (t : TypeId) (sv x : V) (d : Nat) (s : St) (K : V → St → Prop) : Prop :=
  match sv with
  | .w (.c (.lst o nl sz' xs)) => ∃ e sz z b, idxT P t = some (none, e, sz) ∧ 0 < sz ∧ zeroC P e = some z ∧ z.length = sz ∧ bytesT P e = some b ∧ 0 < b ∧ (sz' = sz ∨ xs = [] ∧ ∀ τ, o ≠ .tag τ) ∧ o ≠ .no ∧ aSrc sz x s fun ys =>
    (xs.length + ys.length) / sz * b ≤ 140737488355328 ∧ K (.cell (.lst (.tag (.slot [d])) (if nl = some false then some false else none) sz (xs ++ ys))) (s.clean (fun _ => false) (killT o d))
  | _ => False
/-- 'append' whose row is a box of its own from now on: onto a full row, onto a row in a box -/
def aAppendB (P : Program) (t : TypeId) (sv x : V) (d : Nat) (s : St) (K : V → St → Prop) : Prop :=
  match sv with
  | .w (.c (.lst .full nl sz' xs)) => ∃ e sz z b, idxT P t = some (none, e, sz) ∧ 0 < sz ∧ zeroC P e = some z ∧ z.length = sz ∧ bytesT P e = some b ∧ 0 < b ∧ (sz' = sz ∨ xs = []) ∧ aSrc sz x s fun ys =>
    (xs.length + ys.length) / sz * b ≤ 140737488355328 ∧
    (ys = [] → K (.cell (.lst .full nl sz xs)) s) ∧
    (ys ≠ [] → ∀ c', (xs.length + ys.length) / sz ≤ c' → c' ≤ maxLen → aNew d ((xs ++ ys).map D.toC ++ List.replicate (c' * sz - (xs.length + ys.length)) .undef) s fun _ s' => K (.cell (.row (.loc [d]) 0 ((xs.length + ys.length) / sz) c')) s')
  | .w (.c (.row i off n c)) => ∃ e sz z b cs, idxT P t = some (none, e, sz) ∧ 0 < sz ∧ zeroC P e = some z ∧ z.length = sz ∧ bytesT P e = some b ∧ 0 < b ∧ off = 0 ∧ n ≤ c ∧ c ≤ maxLen ∧ hget s.heap i = some cs ∧ c * sz ≤ cs.length ∧ aSrc sz x s fun ys =>
    (n + ys.length / sz) * b ≤ 140737488355328 ∧
    (n + ys.length / sz ≤ c → K (.cell (.row i 0 (n + ys.length / sz) c)) ⟨s.slots, hset s.heap i (spl cs (n * sz) (ys.map D.toC))⟩) ∧
    (c < n + ys.length / sz → ∀ c', n + ys.length / sz ≤ c' → c' ≤ maxLen → aNew d (cs.take (n * sz) ++ ys.map D.toC ++ List.replicate (c' * sz - (n * sz + ys.length)) .undef) s fun _ s' => K (.cell (.row (.loc [d]) 0 (n + ys.length / sz) c')) s')
  | _ => False
/-- 'append' whose row is surely one's own -/
def aAppendS (P : Program) (t : TypeId) (sv x : V) (d : Nat) (s : St) (K : V → St → Prop) : Prop :=
  match sv with
  | .w (.c (.lst o nl sz' xs)) => ∃ e sz z b, idxT P t = some (none, e, sz) ∧ 0 < sz ∧ zeroC P e = some z ∧ z.length = sz ∧ bytesT P e = some b ∧ 0 < b ∧ (sz' = sz ∨ xs = [] ∧ ∀ τ, o ≠ .tag τ) ∧ aSrc sz x s fun ys =>
    ((o = .full ∧ 0 < ys.length) ∨ ∃ τ, o = .tag τ ∧ τ.ty = some e) ∧
    (xs.length + ys.length) / sz * b ≤ 140737488355328 ∧ K (.cell (.lst (.tag (.bslot e [d])) (if nl = some false then some false else none) sz (xs ++ ys))) (s.clean (fun _ => false) (killT o d))
  | _ => False
/-- 'append' onto a row that is one's own alone -/
def aAppendK (P : Program) (t : TypeId) (sv x : V) (d : Nat) (s : St) (K : V → St → Prop) : Prop :=
  match sv with
  | .w (.c (.stk τ sz' xs)) => ∃ e sz z b, idxT P t = some (none, e, sz) ∧ 0 < sz ∧ zeroC P e = some z ∧ z.length = sz ∧ bytesT P e = some b ∧ 0 < b ∧ sz' = sz ∧ aSrc sz x s fun ys =>
    (xs.length + ys.length) / sz * b ≤ 140737488355328 ∧ K (.cell (.stk (.slot [d]) sz (xs ++ ys))) (s.clean (fun _ => false) (killT (.tag τ) d))
  | _ => False
/-- such a row is cut short -/
def aSliceK (P : Program) (t : TypeId) (τ : Tag) (sz : Nat) (xs : List D) (hi : Int) (d : Nat) (s : St) (K : V → St → Prop) : Prop :=
  ∃ e, idxT P t = some (none, e, sz) ∧ 0 ≤ hi ∧ hi.toNat * sz ≤ xs.length ∧ K (.cell (.stk (.slot [d]) sz (xs.take (hi.toNat * sz)))) (s.clean (fun _ => false) (killT (.tag τ) d))
def aAppX (P : Program) (t : TypeId) (sv x : V) (d : Nat) (s : St) (K : V → St → Prop) : Prop := aAppend P t sv x d s K ∨ aAppendB P t sv x d s K ∨ aAppendS P t sv x d s K ∨ aAppendK P t sv x d s K
def isIntT (P : Program) (t : TypeId) : Bool := match P.underlying t with
  | some (.int _) => true
  | _ => false
/-- 'append' of a string's bytes -/
def aAppZ (P : Program) (t t' : TypeId) (o : Own) (nl : Option Bool) (sz' : Nat) (xs : List D) (b : ByteArray) (d : Nat) (s : St) (K : V → St → Prop) : Prop :=
  isStrT P t' = true ∧ ∃ e z q, idxT P t = some (none, e, 1) ∧ zeroC P e = some z ∧ z.length = 1 ∧ bytesT P e = some q ∧ 0 < q ∧ (sz' = 1 ∨ xs = [] ∧ ∀ τ, o ≠ .tag τ) ∧ (xs.length + b.size) * q ≤ 140737488355328 ∧
    ((o ≠ .no ∧ K (.cell (.lst (.tag (.slot [d])) (if nl = some false then some false else none) 1 (xs ++ b.data.toList.map fun c => .val (.int .u8 c.toNat)))) (s.clean (fun _ => false) (killT o d))) ∨
     (((o = .full ∧ 0 < b.size) ∨ ∃ τ, o = .tag τ ∧ τ.ty = some e) ∧ K (.cell (.lst (.tag (.bslot e [d])) (if nl = some false then some false else none) 1 (xs ++ b.data.toList.map fun c => .val (.int .u8 c.toNat)))) (s.clean (fun _ => false) (killT o d))))
/-- 'append(x, make([]T, n)...)' -/
def aAppN (P : Program) (t t' : TypeId) (sv x : V) (d : Nat) (s : St) (K : V → St → Prop) : Prop :=
  match sv, x with
  | .w (.c (.lst o nl sz' xs)), .w (.c (.val (.string b))) => aAppZ P t t' o nl sz' xs b d s K
  | .w (.c (.lst o nl sz' xs)), .w (.c (.val (.int _ n))) => isIntT P t' = true ∧ ∃ e sz z b ds, idxT P t = some (none, e, sz) ∧ 0 < sz ∧ zeroC P e = some z ∧ z.length = sz ∧ allD z = some ds ∧ bytesT P e = some b ∧ 0 < b ∧ (sz' = sz ∨ xs = [] ∧ ∀ τ, o ≠ .tag τ) ∧ o ≠ .no ∧
    0 ≤ n ∧ n * b ≤ 140737488355328 ∧ (xs.length + n.toNat * sz) / sz * b ≤ 140737488355328 ∧ K (.cell (.lst (.tag (.slot [d])) (if nl = some false then some false else none) sz (xs ++ (List.replicate n.toNat ds).flatten))) (s.clean (fun _ => false) (killT o d))
  | _, _ => False
def aAppT (P : Program) (t t' : TypeId) (sv x : V) (d : Nat) (s : St) (K : V → St → Prop) : Prop := if t' = t then aAppX P t sv x d s K else aAppN P t t' sv x d s K
def aCopy (P : Program) (t : TypeId) (dv x : V) (s : St) (K : V → St → Prop) : Prop :=
  match dv with
  | .w (.c (.row i off n _)) => ∃ e cs, idxT P t = some (none, e, 1) ∧ hget s.heap i = some cs ∧ aSrc 1 x s fun ys =>
    off + min ys.length n ≤ cs.length ∧ K (.int .i64 (min ys.length n : Nat)) ⟨s.slots, hset s.heap i (spl cs off ((ys.take n).map D.toC))⟩
  | _ => False
end
section
section
variable {P : Program} {E : Entry} {g : Gh} {w : World} {s : St} {a : Act}

theorem sound_loadBox {t : TypeId} {x : V} {u : Value} {K : V → Prop} (hw : WI g s.heap w) (hx : RelV g x u) (h : aLoadBox P t x s K) : ∃ r z, K r ∧ RelV g r z ∧ ∀ w' : World, w'.heap = w.heap → (Instr.loadAt t u).run P w' = .ok z w' := by
  unfold aLoadBox at h
  split at h
  · obtain rfl := hx
    rename_i i off
    obtain ⟨cs, sz, hi, hz, h⟩ := h
    obtain ⟨ys, ty, hb, hr, _⟩ := hw.box i cs hi
    have hc : ∀ w' : World, w'.heap = w.heap → ∀ j, w'.cell? ⟨g.B i, j, none⟩ = ys[j]? := fun w' hw' j => cell_row (by rw [hw']; exact hb) j
    unfold aPart at h
    split at h
    · rename_i ha
      obtain ⟨hl, h⟩ := h
      have hlen := hr.length
      simp only [Array.length_toList] at hlen
      refine ⟨_, .agg ((ys.toList.drop off).take sz).toArray, h, ⟨_, rfl, (hr.drop off).take sz⟩, fun w' hw' => ?_⟩
      have hl2 := run_loadCells_list (P := P) w' ⟨g.B i, off, none⟩ ((ys.toList.drop off).take sz) (fun j v hj => by
        rw [add_mk, hc w' hw']
        rw [List.getElem?_take] at hj
        split at hj
        · rw [List.getElem?_drop] at hj; rw [← Array.getElem?_toList]; exact hj
        cases hj)
      rw [show ((ys.toList.drop off).take sz).length = sz by simp; omega] at hl2
      simp [Instr.loadAt, Instr.sureAddr, loadVar, run_isAgg ha, run_sizeOf hz, hl2]
    · rename_i ha
      obtain ⟨c, hc1, h⟩ := h
      obtain ⟨v, hv, hv2⟩ := hr.get hc1
      rw [Array.getElem?_toList] at hv
      exact ⟨_, v, h, hv2, fun w' hw' => by simp [Instr.loadAt, Instr.sureAddr, loadVar, run_isAgg ha, load, Sem.run, hc w' hw', hv]⟩
    exact h.elim
  exact h.elim

theorem rels_clean {bi : Id → Bool} {bt : Tag → Bool} {g g' : Gh} (hM : ∀ a v, g.M a = some v → g'.M a = some v) (hB : ∀ i, bi i = false → g'.B i = g.B i) (hO : ∀ t, bt t = false → g'.O t = g.O t) {cs : List C} {ys : List Value} (h : All2 (RelC g) cs ys) :
    All2 (RelC g') (cs.map (C.clean bi bt)) ys := h.map fun _ _ h => RelC.clean hM hB hO h

theorem run_storeAt {t ty : TypeId} {v : Value} {k off : Nat} {ys : Array Value} (hb : w.heap[k]? = some (.cells ys ty (0, 0))) (hz : sizeT P t = some v.cells.size) (hfit : off + v.cells.size ≤ ys.size) (h1 : ∀ u ∈ v.cells.toList, u.oneCell' = true) :
    (Instr.storeAt t (.pointer (some ⟨k, off, none⟩)) v).run P w = .ok () (w.setRow k (spl ys.toList off v.cells.toList).toArray) := by
  have hst := run_storeCells_at P k off ty v.cells.toList 0 ys w hb (by simpa using hfit) h1
  rw [← Nat.add_zero off, spl_eq (by simpa using hfit), Nat.add_zero]
  simp only [Nat.add_zero] at hst
  simp [Instr.storeAt, Instr.sureAddr, storeVar, run_sizeOf hz, hst]

/-- a row's owner gets another name; what stands under that name is struck -/
def Gh.move (g : Gh) (τ υ : Tag) : Gh := ⟨g.M, g.B, fun t => if t = υ then g.O τ else if (t == τ || t == υ) then none else g.O t⟩
theorem Sim.move (hs : Sim E g s a w) (τ υ : Tag) : Sim E (g.move τ υ) (s.clean (fun _ => false) fun t => t == τ || t == υ) a w ∧ ∀ c z, RelC g c z → RelC (g.move τ υ) (c.clean (fun _ => false) fun t => t == τ || t == υ) z := by
  let bt : Tag → Bool := fun t => t == τ || t == υ
  let g1 : Gh := ⟨g.M, g.B, fun t => if bt t then none else g.O t⟩
  let g2 : Gh := g.move τ υ
  have hs1 : Sim E g1 (s.clean (fun _ => false) bt) a w := hs.clean rfl (fun _ _ => rfl) (fun _ => rfl) (fun _ => rfl)
  have hcl : ∀ t, t = υ → bt t = true := fun t ht => by simp [bt, ht]
  have hO2 : ∀ t, bt t = false → g2.O t = g.O t := fun t ht => by
    show (if t = υ then g.O τ else if bt t then none else g.O t) = _
    rw [if_neg (fun e => by rw [hcl t e] at ht; cases ht), if_neg (by simp [ht])]
  have relC2 : ∀ c z, RelC g c z → RelC g2 (c.clean (fun _ => false) bt) z := fun c z hc => RelC.clean (g := g) (g' := g2) (fun _ _ h => h) (fun _ _ => rfl) hO2 hc
  have inv2 : ∀ t r, g2.O t = some r → (t = υ ∧ g.O τ = some r) ∨ (bt t = false ∧ g.O t = some r) := by
    intro t r ht
    change (if t = υ then g.O τ else if bt t then none else g.O t) = some r at ht
    split at ht
    · rename_i e; exact .inl ⟨e, ht⟩
    split at ht
    · cases ht
    rename_i e; exact .inr ⟨by simpa using e, ht⟩
  have own2 : ∀ t r, g2.O t = some r → ∃ t0, g.O t0 = some r := fun t r ht => by
    rcases inv2 t r ht with ⟨_, h⟩ | ⟨_, h⟩ <;> exact ⟨_, h⟩
  refine ⟨⟨?_, hs.defers, ⟨hs.wi.mem, ?_, ?_, ?_, ?_, ?_, ?_, ?_⟩, hs.cum.trans ⟨rfl, rfl, rfl, Nat.le_refl _, fun _ _ _ => rfl, ?_, fun _ _ h => h, fun _ _ h => .inl h, fun _ => rfl⟩⟩, relC2⟩
  · exact hs.slots.map fun v x hv => RelV.clean (g := g) (g' := g2) (fun _ _ h => h) (fun _ _ => rfl) hO2 hv
  · intro j ds hj
    simp only [St.clean] at hj
    rw [hget_hclean] at hj
    simp only [Bool.false_eq_true, if_false, Option.map_eq_some_iff] at hj
    obtain ⟨d0, hj, rfl⟩ := hj
    obtain ⟨zs, u, h1, h2, hT⟩ := hs.wi.box j d0 hj
    exact ⟨zs, u, h1, h2.map relC2, hT.mapf clean_typ⟩
  · exact hs1.wi.inj
  · exact hs1.wi.boxM
  · intro t r ht
    obtain ⟨t0, h0⟩ := own2 t r ht
    exact hs.wi.own t0 r h0
  · intro t r j ds ht hj
    obtain ⟨t0, h0⟩ := own2 t r ht
    simp only [St.clean] at hj
    rw [hget_hclean] at hj
    simp only [Bool.false_eq_true, if_false, Option.map_eq_some_iff] at hj
    obtain ⟨d0, hj, rfl⟩ := hj
    exact hs.wi.ownB t0 r j d0 h0 hj
  · intro t t' r r' h1 h2 e
    rcases inv2 t r h1 with ⟨e1, h1⟩ | ⟨b1, h1⟩ <;> rcases inv2 t' r' h2 with ⟨e2, h2⟩ | ⟨b2, h2⟩
    · rw [e1, e2]
    · have := hs.wi.ownI _ _ _ _ h1 h2 e
      subst this
      simp [bt] at b2
    · have := hs.wi.ownI _ _ _ _ h1 h2 e
      subst this
      simp [bt] at b1
    exact hs.wi.ownI _ _ _ _ h1 h2 e
  · intro t r ht
    obtain ⟨t0, h0⟩ := own2 t r ht
    exact hs.wi.muta t0 r h0
  rintro k (⟨j, ds, hj, rfl⟩ | ⟨t, r, ht, rfl⟩)
  · simp only [St.clean] at hj
    rw [hget_hclean] at hj
    simp only [Bool.false_eq_true, if_false, Option.map_eq_some_iff] at hj
    obtain ⟨d0, hj, rfl⟩ := hj
    exact .inl (.inl ⟨j, d0, hj, rfl⟩)
  obtain ⟨t0, h0⟩ := own2 t r ht
  exact .inl (.inr ⟨t0, r, h0, rfl⟩)
theorem sound_store {t : TypeId} {x v : V} {u y : Value} {K : V → St → Prop} (hs : Sim E g s a w) (hx : RelV g x u) (hv : RelV g v y) (h : aStore P t x v s K) :
    ∃ r s' g' w', K r s' ∧ r = V.undef ∧ Sim E g' s' a w' ∧ (Instr.storeAt t u y).run P w = .ok () w' := by
  unfold aStore at h
  split at h
  · obtain rfl := hx
    rename_i i off
    obtain ⟨cs, vs, hi, hc, hz, hfit, hk, h⟩ := h
    obtain ⟨ys, ty, hb, hr, _⟩ := hs.wi.box i cs hi
    have hcells := cellsOf_rel hv hc
    have hlen := hcells.length
    have hlen2 := hr.length
    simp only [Array.length_toList] at hlen hlen2
    have h1 : ∀ q ∈ y.cells.toList, q.oneCell' = true := by
      intro q hq
      obtain ⟨j, hj⟩ := List.mem_iff_getElem?.1 hq
      have hlt := (List.getElem?_eq_some_iff.1 hj).1
      rw [← hcells.length] at hlt
      obtain ⟨b, hb1, hb2⟩ := hcells.get (List.getElem?_eq_getElem hlt)
      rw [hj] at hb1
      cases hb1
      exact hb2.one (known_ne (List.all_eq_true.1 hk _ (List.getElem_mem hlt)))
    have hrun := run_storeAt (P := P) (t := t) (v := y) (off := off) hb (by rw [hz, hlen]) (by omega) h1
    unfold St.stow at h
    split at h
    · rename_i τ nl sz xs
      simp only at h
      have hmv := hs.move τ (sigT τ i off)
      have hs2 := hmv.1
      have relC2 := hmv.2
      let g2 : Gh := g.move τ (sigT τ i off)
      have hi2 : hget (s.clean (fun _ => false) fun t => t == τ || t == sigT τ i off).heap i = some (cs.map (C.clean (fun _ => false) fun t => t == τ || t == sigT τ i off)) := by
        simp only [St.clean]
        rw [hget_hclean, hi]
        rfl
      refine ⟨_, _, g2, _, h, rfl, hs2.setBox (w' := w.setRow (g.B i) (spl ys.toList off y.cells.toList).toArray) (ys' := (spl ys.toList off y.cells.toList).toArray) hi2 ?_ (fun k hk => setRow_other w _ k _ hk) ⟨ys, ty, hb, setRow_heap w _ ys _ ty _ hb⟩ (fun t ht => ht.spl (by simp)) rfl rfl rfl (by simp), hrun⟩
      refine spl_rel (hr.map relC2) ?_
      obtain ⟨y0, l, e, h2, h3⟩ := hcells.cons_inv
      obtain rfl := h3.nil_inv
      rw [e]
      refine .cons ⟨h2.1, ?_⟩ .nil
      rcases h2.2 with h4 | ⟨r, h4, h5, h6⟩
      · exact .inl ⟨sig_lax h4.1, h4.2⟩
      refine .inr ⟨r, ?_, ⟨h5.1, fun q hq => h5.2 q (by rw [sig_ty] at hq; exact hq)⟩, h6⟩
      show (if sigT τ i off = sigT τ i off then g.O τ else _) = _
      rw [if_pos rfl]; exact h4
    · rename_i τ sz ds
      simp only at h
      have hmv := hs.move τ (.cell i off)
      have hs2 := hmv.1
      have relC2 := hmv.2
      let g2 : Gh := g.move τ (.cell i off)
      have hi2 : hget (s.clean (fun _ => false) fun t => t == τ || t == .cell i off).heap i = some (cs.map (C.clean (fun _ => false) fun t => t == τ || t == .cell i off)) := by
        simp only [St.clean]
        rw [hget_hclean, hi]
        rfl
      refine ⟨_, _, g2, _, h, rfl, hs2.setBox (w' := w.setRow (g.B i) (spl ys.toList off y.cells.toList).toArray) (ys' := (spl ys.toList off y.cells.toList).toArray) hi2 ?_ (fun k hk => setRow_other w _ k _ hk) ⟨ys, ty, hb, setRow_heap w _ ys _ ty _ hb⟩ (fun t ht => ht.spl (by simp)) rfl rfl rfl (by simp), hrun⟩
      refine spl_rel (hr.map relC2) ?_
      obtain ⟨y0, l, e, h2, h3⟩ := hcells.cons_inv
      obtain rfl := h3.nil_inv
      rw [e]
      refine .cons ?_ .nil
      show RelS (if Tag.cell i off = .cell i off then g.O τ else _) sz ds y0
      rw [if_pos rfl]
      exact h2
    refine ⟨_, _, g, _, h, rfl, hs.setBox (w' := w.setRow (g.B i) (spl ys.toList off y.cells.toList).toArray) (ys' := (spl ys.toList off y.cells.toList).toArray) hi ?_ (fun k hk => setRow_other w _ k _ hk) ⟨ys, ty, hb, setRow_heap w _ ys _ ty _ hb⟩ (fun t ht => ht.spl (no_typ rfl _)) rfl rfl rfl (by simp), hrun⟩
    exact spl_rel hr (rels_clean (g := g) (g' := g) (fun _ _ h => h) (fun _ _ => rfl) (fun _ h => by cases h) hcells)
  exact h.elim

theorem sound_new {d : Nat} {cs : List C} {ys : Array Value} {t : TypeId} {K : V → St → Prop} {w' : World} (hs : Sim E g s a w) (hr : All2 (RelC g) cs ys.toList) (hg : Grow1 w w' ys t) (h : aNew d cs s K) :
    ∃ r s' g', K r s' ∧ RelV g' r (.pointer (some ⟨w.heap.size, 0, none⟩)) ∧ Sim E g' s' a w' ∧ g'.B (.loc [d]) = w.heap.size := by
  let g1 : Gh := ⟨g.M, fun i => if i = .loc [d] then w.heap.size else g.B i, fun t => if rootT d t then none else g.O t⟩
  have hB : ∀ i, rootI d i = false → g1.B i = g.B i := fun i hi => by
    show (if i = Id.loc [d] then w.heap.size else g.B i) = _
    rw [if_neg]; rintro rfl; simp [rootI] at hi
  have hs1 : Sim E g1 (s.clean (rootI d) (rootT d)) a w := hs.clean rfl hB (fun _ => rfl) (fun k => hB _ rfl)
  exact ⟨_, _, g1, h, by simp [RelV, RelW, RelC, g1], hs1.addBox hg (by simp [g1]) (rels_clean (g := g) (g' := g1) (fun _ _ h => h) hB (fun _ h => by cases h) hr) (clean_all rfl _), by simp [g1]⟩

theorem allocC_spec {e : TypeId} {cs : List C} (h : allocC P e = some cs) : ∃ i z, P.info? e = some i ∧ i.zero = some z ∧ (∀ g, All2 (RelC g) cs z.cells.toList) ∧ tyOK e cs := by
  unfold allocC at h
  cases hz : zeroC P e with
  | none => rw [hz] at h; cases h
  | some cs0 =>
    rw [hz] at h
    simp only [Option.map_some, Option.some.injEq] at h
    obtain ⟨i, z, h1, h2, rfl⟩ := zeroC_spec hz
    have hr : ∀ g, All2 (RelC g) (z.cells.toList.map ofCell) z.cells.toList := fun g => ofCells_rel g _
    refine ⟨i, z, h1, h2, ?_⟩
    split at h
    · split at h
      · rename_i r hc
        subst h
        refine ⟨fun g => ?_, ?_⟩
        · have := hr g
          rw [hc] at this
          obtain ⟨y, m, hm, h3, h4⟩ := this.cons_inv
          rw [hm]
          exact .cons h3.2 h4
        intro τ hτ
        rcases List.mem_cons.1 hτ with h | h
        · cases h; rfl
        exact absurd (show C.typ τ ∈ z.cells.toList.map ofCell by rw [hc]; exact List.mem_cons_of_mem _ h) (no_typV _ τ)
      subst h; exact ⟨hr, tyOK.none (no_typV _)⟩
    subst h; exact ⟨hr, tyOK.none (no_typV _)⟩
theorem sound_newA {d : Nat} {cs : List C} {ys : Array Value} {t : TypeId} {K : V → St → Prop} {w' : World} (hs : Sim E g s a w) (hr : ∀ g, All2 (RelC g) cs ys.toList) (hT : tyOK t cs) (hg : Grow1 w w' ys t) (h : aNewA d cs s K) :
    ∃ r s' g', K r s' ∧ RelV g' r (.pointer (some ⟨w.heap.size, 0, none⟩)) ∧ Sim E g' s' a w' := by
  let g1 : Gh := ⟨g.M, fun i => if i = .loc [d] then w.heap.size else g.B i, fun t => if rootT d t then none else g.O t⟩
  have hB : ∀ i, rootI d i = false → g1.B i = g.B i := fun i hi => by
    show (if i = Id.loc [d] then w.heap.size else g.B i) = _
    rw [if_neg]; rintro rfl; simp [rootI] at hi
  have hs1 : Sim E g1 (s.clean (rootI d) (rootT d)) a w := hs.clean rfl hB (fun _ => rfl) (fun k => hB _ rfl)
  exact ⟨_, _, g1, h, by simp [RelV, RelW, RelC, g1], hs1.addBox hg (by simp [g1]) (hr g1) hT⟩
/-- the data of a row that was just made -/
theorem relM_new {M : Addr → Option Value} {k : Nat} {ys : List Value} {ds : List D} (h : All2 (RelD (addM M k ys)) ds ys) : RelM (addM M k ys) ⟨k, 0, none⟩ ds := fun i d hd => by
  obtain ⟨y, hy, hr⟩ := h.get hd
  exact ⟨y, addM_get hy, hr⟩

theorem sound_buildSlice {t : TypeId} {len d : Nat} {parts : List (Nat × V)} {us : List (Nat × Value)} {K : V → St → Prop} (hs : Sim E g s a w) (hp : All2 (fun p q => p.1 = q.1 ∧ RelV g p.2 q.2) parts us) (h : aBuildSlice P t len parts d s K) :
    ∃ r s' g' w' z, K r s' ∧ RelV g' r z ∧ Sim E g' s' a w' ∧ (Instr.buildSlice t len us.toArray).run P w = .ok z w' := by
  obtain ⟨e, sz, z, cs, ds, ht, h0, hsmall, hz, hzl, hf, hd, h⟩ := h
  obtain ⟨hu, hsz⟩ := idxT_slc ht
  obtain ⟨ie, zv, hie, hzv, rfl⟩ := zeroC_spec hz
  have hzl' : zv.cells.size = sz := by simpa using hzl
  have hsz' : ie.size = sz := by simpa [sizeT, hie] using hsz
  obtain ⟨ys, hfill, hr⟩ := aFill_rel (ys := (List.replicate len zv.cells.toList).flatten.toArray) hp (by simpa using flat_rel (ofCells_rel g zv.cells.toList) len) hf
  have hz0 : ((Array.range (len * ie.size)).map (zv.cells[· % zv.cells.size]!)) = (List.replicate len zv.cells.toList).flatten.toArray := by
    apply Array.ext'
    have := zeros_eq zv.cells len (by omega)
    rw [hzl'] at this
    rw [hsz', hzl']
    simpa using this
  have hrun : (Instr.buildSlice t len us.toArray).run P w = .ok (.slice (some ⟨w.heap.size, 0, none⟩) len len) (w.alloc (.cells ys e)) := by
    rcases Nat.eq_zero_or_pos (len * ie.size) with hl0 | hl0
    · have hf' : Instr.fill (fun i => some (i * ie.size, ie.size)) #[] us = some ys := by
        rw [hsz']
        have : len = 0 := by rcases Nat.eq_zero_or_pos len with h | h; exact h; have := Nat.mul_pos h h0; rw [hsz'] at hl0; omega
        subst this
        simpa using hfill
      simp [Instr.buildSlice, run_underlying hu, sizeOf, typeInfo, hie, hl0, hf', newRow, zeroValue, hzv, Array.range_zero']
    refine run_buildSlice (P := P) w t e len us.toArray ys ie zv hu hie hzv (by rw [hsz']; omega) (by omega) ?_
    rw [hz0, hsz']
    exact hfill
  have hlen := hr.length
  simp only [Array.length_toList] at hlen
  have hcs : cs.length = len * sz := by
    have : ∀ (pl : Nat → Option (Nat × Nat)) (parts : List (Nat × V)) (cs cs' : List C), aFill pl cs parts = some cs' → cs'.length = cs.length := by
      intro pl parts
      induction parts with
      | nil => intro cs cs' h; cases h; rfl
      | cons p parts ih =>
        intro cs cs' h
        obtain ⟨i, v⟩ := p
        simp only [aFill] at h
        split at h
        · split at h
          · cases h
          rw [ih _ _ h, spl_length]
        cases h
    rw [this _ _ _ _ hf]
    simp [hzl']
  let g1 : Gh := ⟨g.M, g.B, fun t => if rootT d t then none else g.O t⟩
  have hs1 : Sim E g1 (s.clean (fun _ => false) (rootT d)) a w := hs.clean rfl (fun _ _ => rfl) (fun _ => rfl) (fun _ => rfl)
  let g2 : Gh := ⟨addM g.M w.heap.size (ys.toList.take (len * sz)), g.B, fun u => if u = Tag.made [d] then some ⟨w.heap.size, len, len, sz, e, none⟩ else g1.O u⟩
  have hs2 : Sim E g2 (s.clean (fun _ => false) (rootT d)) a (w.alloc (.cells ys e)) :=
    hs1.addRow (Grow1.alloc w ys e) (τ := .made [d]) (n := len) (c := len) (sz := sz) (by simp [g1, rootT]) (by omega) (Nat.le_refl _)
      (by have : len ≤ len * sz := Nat.le_mul_of_pos_right _ h0
          simp only [maxLen]; omega) rfl rfl (fun _ => rfl)
  have htake : ys.toList.take (len * sz) = ys.toList := List.take_of_length_le (by simp; omega)
  have hown : RelO g2.O (ownB len d) sz (.slice (some ⟨w.heap.size, 0, none⟩) len len) := by
    unfold ownB
    split
    · exact fun a n c h => by cases h; rfl
    exact .inr ⟨_, by simp [g2]; rfl, ⟨rfl, fun _ h => by cases h⟩, rfl⟩
  refine ⟨_, _, g2, _, _, h, ⟨RelD.mk (by simp) h0 ?_ (Nat.le_refl _) ?_ ?_, hown⟩, hs2, hrun⟩
  · have := (allD_rel hd hr).length
    simp only [Array.length_toList] at this
    omega
  · have : len ≤ len * sz := Nat.le_mul_of_pos_right _ h0
    simp only [maxLen]; omega
  show RelM (addM _ _ _) _ _
  rw [htake]
  refine relM_new ?_
  have := allD_rel hd hr
  refine this.mono fun _ _ h => RelD.mono (fun a v ha => ?_) h
  refine addM_old (fun a v ha e => ?_) ha
  have := hs.wi.mem_lt ha
  omega
end
end
end Go.Proofs.YtgeelaafmnedmaaGreat
