/- The logic: rules for machine integers (written by genint.py). -/
import Derived.Test.YtamcjecgkfmjkaaCw
import Derived.Test.YtamcjecgkfmjkaaAwN
open Go Go.RowKit
namespace Go.Proofs.Ytamcjecgkfmjkaa

theorem pure_inj {x y : Value} (P : Program) (w : World) (h : (pure x : Sem Value) = pure y) : x = y := by
  have := congrArg (fun s : Sem Value => s.run P w) h
  simp only [Sem.run_pure] at this
  injection this
variable {V' : V → Prop} {P : Program} {t t' : TypeId}
@[go_sem ↓ 1200] theorem i8_add (a b : UInt8) : aInt .add .u8 (U8 a) .u8 (U8 b) V' = V' (.int .u8 (U8 (add8 a b))) := by
  rw [e_add]; exact congrArg (fun z => V' (.w (.c (.val z)))) (pure_inj (default : Program) (default : World) (u8_add_ a b))
@[go_sem ↓ 1100] theorem i8_add_r (k : Int) (a : UInt8) (h0 : 0 ≤ k) (h1 : k < 256) : aInt .add .u8 (U8 a) .u8 k V' = V' (.int .u8 (U8 (add8 a (UInt8.ofNat k.toNat)))) := by
  have h := i8_add (V' := V') a (UInt8.ofNat k.toNat); rw [← u8_of k h0 h1] at h; exact h
@[go_sem ↓ 1100] theorem i8_add_l (k : Int) (a : UInt8) (h0 : 0 ≤ k) (h1 : k < 256) : aInt .add .u8 k .u8 (U8 a) V' = V' (.int .u8 (U8 (add8 (UInt8.ofNat k.toNat) a))) := by
  have h := i8_add (V' := V') (UInt8.ofNat k.toNat) a; rw [← u8_of k h0 h1] at h; exact h
@[go_sem ↓ 1200] theorem i8_sub (a b : UInt8) : aInt .sub .u8 (U8 a) .u8 (U8 b) V' = V' (.int .u8 (U8 (sub8 a b))) := by
  rw [e_sub]; exact congrArg (fun z => V' (.w (.c (.val z)))) (pure_inj (default : Program) (default : World) (u8_sub_ a b))
@[go_sem ↓ 1100] theorem i8_sub_r (k : Int) (a : UInt8) (h0 : 0 ≤ k) (h1 : k < 256) : aInt .sub .u8 (U8 a) .u8 k V' = V' (.int .u8 (U8 (sub8 a (UInt8.ofNat k.toNat)))) := by
  have h := i8_sub (V' := V') a (UInt8.ofNat k.toNat); rw [← u8_of k h0 h1] at h; exact h
@[go_sem ↓ 1100] theorem i8_sub_l (k : Int) (a : UInt8) (h0 : 0 ≤ k) (h1 : k < 256) : aInt .sub .u8 k .u8 (U8 a) V' = V' (.int .u8 (U8 (sub8 (UInt8.ofNat k.toNat) a))) := by
  have h := i8_sub (V' := V') (UInt8.ofNat k.toNat) a; rw [← u8_of k h0 h1] at h; exact h
@[go_sem ↓ 1200] theorem i8_mul (a b : UInt8) : aInt .mul .u8 (U8 a) .u8 (U8 b) V' = V' (.int .u8 (U8 (mul8 a b))) := by
  rw [e_mul]; exact congrArg (fun z => V' (.w (.c (.val z)))) (pure_inj (default : Program) (default : World) (u8_mul_ a b))
@[go_sem ↓ 1100] theorem i8_mul_r (k : Int) (a : UInt8) (h0 : 0 ≤ k) (h1 : k < 256) : aInt .mul .u8 (U8 a) .u8 k V' = V' (.int .u8 (U8 (mul8 a (UInt8.ofNat k.toNat)))) := by
  have h := i8_mul (V' := V') a (UInt8.ofNat k.toNat); rw [← u8_of k h0 h1] at h; exact h
@[go_sem ↓ 1100] theorem i8_mul_l (k : Int) (a : UInt8) (h0 : 0 ≤ k) (h1 : k < 256) : aInt .mul .u8 k .u8 (U8 a) V' = V' (.int .u8 (U8 (mul8 (UInt8.ofNat k.toNat) a))) := by
  have h := i8_mul (V' := V') (UInt8.ofNat k.toNat) a; rw [← u8_of k h0 h1] at h; exact h
@[go_sem ↓ 1200] theorem i8_and (a b : UInt8) : aInt .and .u8 (U8 a) .u8 (U8 b) V' = V' (.int .u8 (U8 (and8 a b))) := by
  rw [e_and]; exact congrArg (fun z => V' (.w (.c (.val z)))) (pure_inj (default : Program) (default : World) (u8_and_ a b))
@[go_sem ↓ 1100] theorem i8_and_r (k : Int) (a : UInt8) (h0 : 0 ≤ k) (h1 : k < 256) : aInt .and .u8 (U8 a) .u8 k V' = V' (.int .u8 (U8 (and8 a (UInt8.ofNat k.toNat)))) := by
  have h := i8_and (V' := V') a (UInt8.ofNat k.toNat); rw [← u8_of k h0 h1] at h; exact h
@[go_sem ↓ 1100] theorem i8_and_l (k : Int) (a : UInt8) (h0 : 0 ≤ k) (h1 : k < 256) : aInt .and .u8 k .u8 (U8 a) V' = V' (.int .u8 (U8 (and8 (UInt8.ofNat k.toNat) a))) := by
  have h := i8_and (V' := V') (UInt8.ofNat k.toNat) a; rw [← u8_of k h0 h1] at h; exact h
@[go_sem ↓ 1200] theorem i8_or (a b : UInt8) : aInt .or .u8 (U8 a) .u8 (U8 b) V' = V' (.int .u8 (U8 (or8 a b))) := by
  rw [e_or]; exact congrArg (fun z => V' (.w (.c (.val z)))) (pure_inj (default : Program) (default : World) (u8_or_ a b))
@[go_sem ↓ 1100] theorem i8_or_r (k : Int) (a : UInt8) (h0 : 0 ≤ k) (h1 : k < 256) : aInt .or .u8 (U8 a) .u8 k V' = V' (.int .u8 (U8 (or8 a (UInt8.ofNat k.toNat)))) := by
  have h := i8_or (V' := V') a (UInt8.ofNat k.toNat); rw [← u8_of k h0 h1] at h; exact h
@[go_sem ↓ 1100] theorem i8_or_l (k : Int) (a : UInt8) (h0 : 0 ≤ k) (h1 : k < 256) : aInt .or .u8 k .u8 (U8 a) V' = V' (.int .u8 (U8 (or8 (UInt8.ofNat k.toNat) a))) := by
  have h := i8_or (V' := V') (UInt8.ofNat k.toNat) a; rw [← u8_of k h0 h1] at h; exact h
@[go_sem ↓ 1200] theorem i8_xor (a b : UInt8) : aInt .xor .u8 (U8 a) .u8 (U8 b) V' = V' (.int .u8 (U8 (xor8 a b))) := by
  rw [e_xor]; exact congrArg (fun z => V' (.w (.c (.val z)))) (pure_inj (default : Program) (default : World) (u8_xor_ a b))
@[go_sem ↓ 1100] theorem i8_xor_r (k : Int) (a : UInt8) (h0 : 0 ≤ k) (h1 : k < 256) : aInt .xor .u8 (U8 a) .u8 k V' = V' (.int .u8 (U8 (xor8 a (UInt8.ofNat k.toNat)))) := by
  have h := i8_xor (V' := V') a (UInt8.ofNat k.toNat); rw [← u8_of k h0 h1] at h; exact h
@[go_sem ↓ 1100] theorem i8_xor_l (k : Int) (a : UInt8) (h0 : 0 ≤ k) (h1 : k < 256) : aInt .xor .u8 k .u8 (U8 a) V' = V' (.int .u8 (U8 (xor8 (UInt8.ofNat k.toNat) a))) := by
  have h := i8_xor (V' := V') (UInt8.ofNat k.toNat) a; rw [← u8_of k h0 h1] at h; exact h
@[go_sem ↓ 1200] theorem i8_shl (a : UInt8) (k : IntKind) (y : Int) (hy : 0 ≤ y) : aInt .shl .u8 (U8 a) k y V' = V' (.int .u8 (U8 (shl8 a y.toNat))) := by
  rw [e_shl hy]
  refine congrArg (fun z => V' (.w (.c (.val z)))) (pure_inj (default : Program) (default : World) ?_)
  have h := u8_shl_ a k y hy
  simp only [Op.shift, Int.not_lt.mpr hy, if_false] at h
  exact h
@[go_sem ↓ 1200] theorem i8_shr (a : UInt8) (k : IntKind) (y : Int) (hy : 0 ≤ y) : aInt .shr .u8 (U8 a) k y V' = V' (.int .u8 (U8 (shr8 a y.toNat))) := by
  rw [e_shr hy]
  refine congrArg (fun z => V' (.w (.c (.val z)))) (pure_inj (default : Program) (default : World) ?_)
  have h := u8_shr_ a k y hy
  simp only [Op.shift, Int.not_lt.mpr hy, if_false] at h
  exact h
@[go_sem ↓ 1200] theorem i8_not (a : UInt8) : aUn .xor (.w (.c (.val (.int .u8 (U8 a))))) V' = V' (.int .u8 (U8 (not8 a))) :=
  congrArg (fun z => V' (.w (.c (.val z)))) (pure_inj (default : Program) (default : World) (u8_not_ a))
@[go_sem ↓ 1200] theorem i8_neg (a : UInt8) : aUn .neg (.w (.c (.val (.int .u8 (U8 a))))) V' = V' (.int .u8 (U8 (neg8 a))) :=
  congrArg (fun z => V' (.w (.c (.val z)))) (pure_inj (default : Program) (default : World) (u8_neg_ a))
@[go_sem ↓ 1200] theorem i16_add (a b : UInt16) : aInt .add .u16 (U16 a) .u16 (U16 b) V' = V' (.int .u16 (U16 (add16 a b))) := by
  rw [e_add]; exact congrArg (fun z => V' (.w (.c (.val z)))) (pure_inj (default : Program) (default : World) (u16_add_ a b))
@[go_sem ↓ 1100] theorem i16_add_r (k : Int) (a : UInt16) (h0 : 0 ≤ k) (h1 : k < 65536) : aInt .add .u16 (U16 a) .u16 k V' = V' (.int .u16 (U16 (add16 a (UInt16.ofNat k.toNat)))) := by
  have h := i16_add (V' := V') a (UInt16.ofNat k.toNat); rw [← u16_of k h0 h1] at h; exact h
@[go_sem ↓ 1100] theorem i16_add_l (k : Int) (a : UInt16) (h0 : 0 ≤ k) (h1 : k < 65536) : aInt .add .u16 k .u16 (U16 a) V' = V' (.int .u16 (U16 (add16 (UInt16.ofNat k.toNat) a))) := by
  have h := i16_add (V' := V') (UInt16.ofNat k.toNat) a; rw [← u16_of k h0 h1] at h; exact h
@[go_sem ↓ 1200] theorem i16_sub (a b : UInt16) : aInt .sub .u16 (U16 a) .u16 (U16 b) V' = V' (.int .u16 (U16 (sub16 a b))) := by
  rw [e_sub]; exact congrArg (fun z => V' (.w (.c (.val z)))) (pure_inj (default : Program) (default : World) (u16_sub_ a b))
@[go_sem ↓ 1100] theorem i16_sub_r (k : Int) (a : UInt16) (h0 : 0 ≤ k) (h1 : k < 65536) : aInt .sub .u16 (U16 a) .u16 k V' = V' (.int .u16 (U16 (sub16 a (UInt16.ofNat k.toNat)))) := by
  have h := i16_sub (V' := V') a (UInt16.ofNat k.toNat); rw [← u16_of k h0 h1] at h; exact h
@[go_sem ↓ 1100] theorem i16_sub_l (k : Int) (a : UInt16) (h0 : 0 ≤ k) (h1 : k < 65536) : aInt .sub .u16 k .u16 (U16 a) V' = V' (.int .u16 (U16 (sub16 (UInt16.ofNat k.toNat) a))) := by
  have h := i16_sub (V' := V') (UInt16.ofNat k.toNat) a; rw [← u16_of k h0 h1] at h; exact h
@[go_sem ↓ 1200] theorem i16_mul (a b : UInt16) : aInt .mul .u16 (U16 a) .u16 (U16 b) V' = V' (.int .u16 (U16 (mul16 a b))) := by
  rw [e_mul]; exact congrArg (fun z => V' (.w (.c (.val z)))) (pure_inj (default : Program) (default : World) (u16_mul_ a b))
@[go_sem ↓ 1100] theorem i16_mul_r (k : Int) (a : UInt16) (h0 : 0 ≤ k) (h1 : k < 65536) : aInt .mul .u16 (U16 a) .u16 k V' = V' (.int .u16 (U16 (mul16 a (UInt16.ofNat k.toNat)))) := by
  have h := i16_mul (V' := V') a (UInt16.ofNat k.toNat); rw [← u16_of k h0 h1] at h; exact h
@[go_sem ↓ 1100] theorem i16_mul_l (k : Int) (a : UInt16) (h0 : 0 ≤ k) (h1 : k < 65536) : aInt .mul .u16 k .u16 (U16 a) V' = V' (.int .u16 (U16 (mul16 (UInt16.ofNat k.toNat) a))) := by
  have h := i16_mul (V' := V') (UInt16.ofNat k.toNat) a; rw [← u16_of k h0 h1] at h; exact h
@[go_sem ↓ 1200] theorem i16_and (a b : UInt16) : aInt .and .u16 (U16 a) .u16 (U16 b) V' = V' (.int .u16 (U16 (and16 a b))) := by
  rw [e_and]; exact congrArg (fun z => V' (.w (.c (.val z)))) (pure_inj (default : Program) (default : World) (u16_and_ a b))
@[go_sem ↓ 1100] theorem i16_and_r (k : Int) (a : UInt16) (h0 : 0 ≤ k) (h1 : k < 65536) : aInt .and .u16 (U16 a) .u16 k V' = V' (.int .u16 (U16 (and16 a (UInt16.ofNat k.toNat)))) := by
  have h := i16_and (V' := V') a (UInt16.ofNat k.toNat); rw [← u16_of k h0 h1] at h; exact h
@[go_sem ↓ 1100] theorem i16_and_l (k : Int) (a : UInt16) (h0 : 0 ≤ k) (h1 : k < 65536) : aInt .and .u16 k .u16 (U16 a) V' = V' (.int .u16 (U16 (and16 (UInt16.ofNat k.toNat) a))) := by
  have h := i16_and (V' := V') (UInt16.ofNat k.toNat) a; rw [← u16_of k h0 h1] at h; exact h
@[go_sem ↓ 1200] theorem i16_or (a b : UInt16) : aInt .or .u16 (U16 a) .u16 (U16 b) V' = V' (.int .u16 (U16 (or16 a b))) := by
  rw [e_or]; exact congrArg (fun z => V' (.w (.c (.val z)))) (pure_inj (default : Program) (default : World) (u16_or_ a b))
@[go_sem ↓ 1100] theorem i16_or_r (k : Int) (a : UInt16) (h0 : 0 ≤ k) (h1 : k < 65536) : aInt .or .u16 (U16 a) .u16 k V' = V' (.int .u16 (U16 (or16 a (UInt16.ofNat k.toNat)))) := by
  have h := i16_or (V' := V') a (UInt16.ofNat k.toNat); rw [← u16_of k h0 h1] at h; exact h
@[go_sem ↓ 1100] theorem i16_or_l (k : Int) (a : UInt16) (h0 : 0 ≤ k) (h1 : k < 65536) : aInt .or .u16 k .u16 (U16 a) V' = V' (.int .u16 (U16 (or16 (UInt16.ofNat k.toNat) a))) := by
  have h := i16_or (V' := V') (UInt16.ofNat k.toNat) a; rw [← u16_of k h0 h1] at h; exact h
@[go_sem ↓ 1200] theorem i16_xor (a b : UInt16) : aInt .xor .u16 (U16 a) .u16 (U16 b) V' = V' (.int .u16 (U16 (xor16 a b))) := by
  rw [e_xor]; exact congrArg (fun z => V' (.w (.c (.val z)))) (pure_inj (default : Program) (default : World) (u16_xor_ a b))
@[go_sem ↓ 1100] theorem i16_xor_r (k : Int) (a : UInt16) (h0 : 0 ≤ k) (h1 : k < 65536) : aInt .xor .u16 (U16 a) .u16 k V' = V' (.int .u16 (U16 (xor16 a (UInt16.ofNat k.toNat)))) := by
  have h := i16_xor (V' := V') a (UInt16.ofNat k.toNat); rw [← u16_of k h0 h1] at h; exact h
@[go_sem ↓ 1100] theorem i16_xor_l (k : Int) (a : UInt16) (h0 : 0 ≤ k) (h1 : k < 65536) : aInt .xor .u16 k .u16 (U16 a) V' = V' (.int .u16 (U16 (xor16 (UInt16.ofNat k.toNat) a))) := by
  have h := i16_xor (V' := V') (UInt16.ofNat k.toNat) a; rw [← u16_of k h0 h1] at h; exact h
@[go_sem ↓ 1200] theorem i16_shl (a : UInt16) (k : IntKind) (y : Int) (hy : 0 ≤ y) : aInt .shl .u16 (U16 a) k y V' = V' (.int .u16 (U16 (shl16 a y.toNat))) := by
  rw [e_shl hy]
  refine congrArg (fun z => V' (.w (.c (.val z)))) (pure_inj (default : Program) (default : World) ?_)
  have h := u16_shl_ a k y hy
  simp only [Op.shift, Int.not_lt.mpr hy, if_false] at h
  exact h
@[go_sem ↓ 1200] theorem i16_shr (a : UInt16) (k : IntKind) (y : Int) (hy : 0 ≤ y) : aInt .shr .u16 (U16 a) k y V' = V' (.int .u16 (U16 (shr16 a y.toNat))) := by
  rw [e_shr hy]
  refine congrArg (fun z => V' (.w (.c (.val z)))) (pure_inj (default : Program) (default : World) ?_)
  have h := u16_shr_ a k y hy
  simp only [Op.shift, Int.not_lt.mpr hy, if_false] at h
  exact h
@[go_sem ↓ 1200] theorem i16_not (a : UInt16) : aUn .xor (.w (.c (.val (.int .u16 (U16 a))))) V' = V' (.int .u16 (U16 (not16 a))) :=
  congrArg (fun z => V' (.w (.c (.val z)))) (pure_inj (default : Program) (default : World) (u16_not_ a))
@[go_sem ↓ 1200] theorem i16_neg (a : UInt16) : aUn .neg (.w (.c (.val (.int .u16 (U16 a))))) V' = V' (.int .u16 (U16 (neg16 a))) :=
  congrArg (fun z => V' (.w (.c (.val z)))) (pure_inj (default : Program) (default : World) (u16_neg_ a))
@[go_sem ↓ 1200] theorem i32_add (a b : UInt32) : aInt .add .u32 (U32 a) .u32 (U32 b) V' = V' (.int .u32 (U32 (add32 a b))) := by
  rw [e_add]; exact congrArg (fun z => V' (.w (.c (.val z)))) (pure_inj (default : Program) (default : World) (u32_add_ a b))
@[go_sem ↓ 1100] theorem i32_add_r (k : Int) (a : UInt32) (h0 : 0 ≤ k) (h1 : k < 4294967296) : aInt .add .u32 (U32 a) .u32 k V' = V' (.int .u32 (U32 (add32 a (UInt32.ofNat k.toNat)))) := by
  have h := i32_add (V' := V') a (UInt32.ofNat k.toNat); rw [← u32_of k h0 h1] at h; exact h
@[go_sem ↓ 1100] theorem i32_add_l (k : Int) (a : UInt32) (h0 : 0 ≤ k) (h1 : k < 4294967296) : aInt .add .u32 k .u32 (U32 a) V' = V' (.int .u32 (U32 (add32 (UInt32.ofNat k.toNat) a))) := by
  have h := i32_add (V' := V') (UInt32.ofNat k.toNat) a; rw [← u32_of k h0 h1] at h; exact h
@[go_sem ↓ 1200] theorem i32_sub (a b : UInt32) : aInt .sub .u32 (U32 a) .u32 (U32 b) V' = V' (.int .u32 (U32 (sub32 a b))) := by
  rw [e_sub]; exact congrArg (fun z => V' (.w (.c (.val z)))) (pure_inj (default : Program) (default : World) (u32_sub_ a b))
@[go_sem ↓ 1100] theorem i32_sub_r (k : Int) (a : UInt32) (h0 : 0 ≤ k) (h1 : k < 4294967296) : aInt .sub .u32 (U32 a) .u32 k V' = V' (.int .u32 (U32 (sub32 a (UInt32.ofNat k.toNat)))) := by
  have h := i32_sub (V' := V') a (UInt32.ofNat k.toNat); rw [← u32_of k h0 h1] at h; exact h
@[go_sem ↓ 1100] theorem i32_sub_l (k : Int) (a : UInt32) (h0 : 0 ≤ k) (h1 : k < 4294967296) : aInt .sub .u32 k .u32 (U32 a) V' = V' (.int .u32 (U32 (sub32 (UInt32.ofNat k.toNat) a))) := by
  have h := i32_sub (V' := V') (UInt32.ofNat k.toNat) a; rw [← u32_of k h0 h1] at h; exact h
@[go_sem ↓ 1200] theorem i32_mul (a b : UInt32) : aInt .mul .u32 (U32 a) .u32 (U32 b) V' = V' (.int .u32 (U32 (mul32 a b))) := by
  rw [e_mul]; exact congrArg (fun z => V' (.w (.c (.val z)))) (pure_inj (default : Program) (default : World) (u32_mul_ a b))
@[go_sem ↓ 1100] theorem i32_mul_r (k : Int) (a : UInt32) (h0 : 0 ≤ k) (h1 : k < 4294967296) : aInt .mul .u32 (U32 a) .u32 k V' = V' (.int .u32 (U32 (mul32 a (UInt32.ofNat k.toNat)))) := by
  have h := i32_mul (V' := V') a (UInt32.ofNat k.toNat); rw [← u32_of k h0 h1] at h; exact h
@[go_sem ↓ 1100] theorem i32_mul_l (k : Int) (a : UInt32) (h0 : 0 ≤ k) (h1 : k < 4294967296) : aInt .mul .u32 k .u32 (U32 a) V' = V' (.int .u32 (U32 (mul32 (UInt32.ofNat k.toNat) a))) := by
  have h := i32_mul (V' := V') (UInt32.ofNat k.toNat) a; rw [← u32_of k h0 h1] at h; exact h
@[go_sem ↓ 1200] theorem i32_and (a b : UInt32) : aInt .and .u32 (U32 a) .u32 (U32 b) V' = V' (.int .u32 (U32 (and32 a b))) := by
  rw [e_and]; exact congrArg (fun z => V' (.w (.c (.val z)))) (pure_inj (default : Program) (default : World) (u32_and_ a b))
@[go_sem ↓ 1100] theorem i32_and_r (k : Int) (a : UInt32) (h0 : 0 ≤ k) (h1 : k < 4294967296) : aInt .and .u32 (U32 a) .u32 k V' = V' (.int .u32 (U32 (and32 a (UInt32.ofNat k.toNat)))) := by
  have h := i32_and (V' := V') a (UInt32.ofNat k.toNat); rw [← u32_of k h0 h1] at h; exact h
@[go_sem ↓ 1100] theorem i32_and_l (k : Int) (a : UInt32) (h0 : 0 ≤ k) (h1 : k < 4294967296) : aInt .and .u32 k .u32 (U32 a) V' = V' (.int .u32 (U32 (and32 (UInt32.ofNat k.toNat) a))) := by
  have h := i32_and (V' := V') (UInt32.ofNat k.toNat) a; rw [← u32_of k h0 h1] at h; exact h
@[go_sem ↓ 1200] theorem i32_or (a b : UInt32) : aInt .or .u32 (U32 a) .u32 (U32 b) V' = V' (.int .u32 (U32 (or32 a b))) := by
  rw [e_or]; exact congrArg (fun z => V' (.w (.c (.val z)))) (pure_inj (default : Program) (default : World) (u32_or_ a b))
@[go_sem ↓ 1100] theorem i32_or_r (k : Int) (a : UInt32) (h0 : 0 ≤ k) (h1 : k < 4294967296) : aInt .or .u32 (U32 a) .u32 k V' = V' (.int .u32 (U32 (or32 a (UInt32.ofNat k.toNat)))) := by
  have h := i32_or (V' := V') a (UInt32.ofNat k.toNat); rw [← u32_of k h0 h1] at h; exact h
@[go_sem ↓ 1100] theorem i32_or_l (k : Int) (a : UInt32) (h0 : 0 ≤ k) (h1 : k < 4294967296) : aInt .or .u32 k .u32 (U32 a) V' = V' (.int .u32 (U32 (or32 (UInt32.ofNat k.toNat) a))) := by
  have h := i32_or (V' := V') (UInt32.ofNat k.toNat) a; rw [← u32_of k h0 h1] at h; exact h
@[go_sem ↓ 1200] theorem i32_xor (a b : UInt32) : aInt .xor .u32 (U32 a) .u32 (U32 b) V' = V' (.int .u32 (U32 (xor32 a b))) := by
  rw [e_xor]; exact congrArg (fun z => V' (.w (.c (.val z)))) (pure_inj (default : Program) (default : World) (u32_xor_ a b))
@[go_sem ↓ 1100] theorem i32_xor_r (k : Int) (a : UInt32) (h0 : 0 ≤ k) (h1 : k < 4294967296) : aInt .xor .u32 (U32 a) .u32 k V' = V' (.int .u32 (U32 (xor32 a (UInt32.ofNat k.toNat)))) := by
  have h := i32_xor (V' := V') a (UInt32.ofNat k.toNat); rw [← u32_of k h0 h1] at h; exact h
@[go_sem ↓ 1100] theorem i32_xor_l (k : Int) (a : UInt32) (h0 : 0 ≤ k) (h1 : k < 4294967296) : aInt .xor .u32 k .u32 (U32 a) V' = V' (.int .u32 (U32 (xor32 (UInt32.ofNat k.toNat) a))) := by
  have h := i32_xor (V' := V') (UInt32.ofNat k.toNat) a; rw [← u32_of k h0 h1] at h; exact h
@[go_sem ↓ 1200] theorem i32_shl (a : UInt32) (k : IntKind) (y : Int) (hy : 0 ≤ y) : aInt .shl .u32 (U32 a) k y V' = V' (.int .u32 (U32 (shl32 a y.toNat))) := by
  rw [e_shl hy]
  refine congrArg (fun z => V' (.w (.c (.val z)))) (pure_inj (default : Program) (default : World) ?_)
  have h := u32_shl_ a k y hy
  simp only [Op.shift, Int.not_lt.mpr hy, if_false] at h
  exact h
@[go_sem ↓ 1200] theorem i32_shr (a : UInt32) (k : IntKind) (y : Int) (hy : 0 ≤ y) : aInt .shr .u32 (U32 a) k y V' = V' (.int .u32 (U32 (shr32 a y.toNat))) := by
  rw [e_shr hy]
  refine congrArg (fun z => V' (.w (.c (.val z)))) (pure_inj (default : Program) (default : World) ?_)
  have h := u32_shr_ a k y hy
  simp only [Op.shift, Int.not_lt.mpr hy, if_false] at h
  exact h
@[go_sem ↓ 1200] theorem i32_not (a : UInt32) : aUn .xor (.w (.c (.val (.int .u32 (U32 a))))) V' = V' (.int .u32 (U32 (not32 a))) :=
  congrArg (fun z => V' (.w (.c (.val z)))) (pure_inj (default : Program) (default : World) (u32_not_ a))
@[go_sem ↓ 1200] theorem i32_neg (a : UInt32) : aUn .neg (.w (.c (.val (.int .u32 (U32 a))))) V' = V' (.int .u32 (U32 (neg32 a))) :=
  congrArg (fun z => V' (.w (.c (.val z)))) (pure_inj (default : Program) (default : World) (u32_neg_ a))
@[go_sem ↓ 1200] theorem i64_add (a b : UInt64) : aInt .add .u64 (U64 a) .u64 (U64 b) V' = V' (.int .u64 (U64 (add64 a b))) := by
  rw [e_add]; exact congrArg (fun z => V' (.w (.c (.val z)))) (pure_inj (default : Program) (default : World) (u64_add_ a b))
@[go_sem ↓ 1100] theorem i64_add_r (k : Int) (a : UInt64) (h0 : 0 ≤ k) (h1 : k < 18446744073709551616) : aInt .add .u64 (U64 a) .u64 k V' = V' (.int .u64 (U64 (add64 a (UInt64.ofNat k.toNat)))) := by
  have h := i64_add (V' := V') a (UInt64.ofNat k.toNat); rw [← u64_of k h0 h1] at h; exact h
@[go_sem ↓ 1100] theorem i64_add_l (k : Int) (a : UInt64) (h0 : 0 ≤ k) (h1 : k < 18446744073709551616) : aInt .add .u64 k .u64 (U64 a) V' = V' (.int .u64 (U64 (add64 (UInt64.ofNat k.toNat) a))) := by
  have h := i64_add (V' := V') (UInt64.ofNat k.toNat) a; rw [← u64_of k h0 h1] at h; exact h
@[go_sem ↓ 1200] theorem i64_sub (a b : UInt64) : aInt .sub .u64 (U64 a) .u64 (U64 b) V' = V' (.int .u64 (U64 (sub64 a b))) := by
  rw [e_sub]; exact congrArg (fun z => V' (.w (.c (.val z)))) (pure_inj (default : Program) (default : World) (u64_sub_ a b))
@[go_sem ↓ 1100] theorem i64_sub_r (k : Int) (a : UInt64) (h0 : 0 ≤ k) (h1 : k < 18446744073709551616) : aInt .sub .u64 (U64 a) .u64 k V' = V' (.int .u64 (U64 (sub64 a (UInt64.ofNat k.toNat)))) := by
  have h := i64_sub (V' := V') a (UInt64.ofNat k.toNat); rw [← u64_of k h0 h1] at h; exact h
@[go_sem ↓ 1100] theorem i64_sub_l (k : Int) (a : UInt64) (h0 : 0 ≤ k) (h1 : k < 18446744073709551616) : aInt .sub .u64 k .u64 (U64 a) V' = V' (.int .u64 (U64 (sub64 (UInt64.ofNat k.toNat) a))) := by
  have h := i64_sub (V' := V') (UInt64.ofNat k.toNat) a; rw [← u64_of k h0 h1] at h; exact h
@[go_sem ↓ 1200] theorem i64_mul (a b : UInt64) : aInt .mul .u64 (U64 a) .u64 (U64 b) V' = V' (.int .u64 (U64 (mul64 a b))) := by
  rw [e_mul]; exact congrArg (fun z => V' (.w (.c (.val z)))) (pure_inj (default : Program) (default : World) (u64_mul_ a b))
@[go_sem ↓ 1100] theorem i64_mul_r (k : Int) (a : UInt64) (h0 : 0 ≤ k) (h1 : k < 18446744073709551616) : aInt .mul .u64 (U64 a) .u64 k V' = V' (.int .u64 (U64 (mul64 a (UInt64.ofNat k.toNat)))) := by
  have h := i64_mul (V' := V') a (UInt64.ofNat k.toNat); rw [← u64_of k h0 h1] at h; exact h
@[go_sem ↓ 1100] theorem i64_mul_l (k : Int) (a : UInt64) (h0 : 0 ≤ k) (h1 : k < 18446744073709551616) : aInt .mul .u64 k .u64 (U64 a) V' = V' (.int .u64 (U64 (mul64 (UInt64.ofNat k.toNat) a))) := by
  have h := i64_mul (V' := V') (UInt64.ofNat k.toNat) a; rw [← u64_of k h0 h1] at h; exact h
@[go_sem ↓ 1200] theorem i64_and (a b : UInt64) : aInt .and .u64 (U64 a) .u64 (U64 b) V' = V' (.int .u64 (U64 (and64 a b))) := by
  rw [e_and]; exact congrArg (fun z => V' (.w (.c (.val z)))) (pure_inj (default : Program) (default : World) (u64_and_ a b))
@[go_sem ↓ 1100] theorem i64_and_r (k : Int) (a : UInt64) (h0 : 0 ≤ k) (h1 : k < 18446744073709551616) : aInt .and .u64 (U64 a) .u64 k V' = V' (.int .u64 (U64 (and64 a (UInt64.ofNat k.toNat)))) := by
  have h := i64_and (V' := V') a (UInt64.ofNat k.toNat); rw [← u64_of k h0 h1] at h; exact h
@[go_sem ↓ 1100] theorem i64_and_l (k : Int) (a : UInt64) (h0 : 0 ≤ k) (h1 : k < 18446744073709551616) : aInt .and .u64 k .u64 (U64 a) V' = V' (.int .u64 (U64 (and64 (UInt64.ofNat k.toNat) a))) := by
  have h := i64_and (V' := V') (UInt64.ofNat k.toNat) a; rw [← u64_of k h0 h1] at h; exact h
@[go_sem ↓ 1200] theorem i64_or (a b : UInt64) : aInt .or .u64 (U64 a) .u64 (U64 b) V' = V' (.int .u64 (U64 (or64 a b))) := by
  rw [e_or]; exact congrArg (fun z => V' (.w (.c (.val z)))) (pure_inj (default : Program) (default : World) (u64_or_ a b))
@[go_sem ↓ 1100] theorem i64_or_r (k : Int) (a : UInt64) (h0 : 0 ≤ k) (h1 : k < 18446744073709551616) : aInt .or .u64 (U64 a) .u64 k V' = V' (.int .u64 (U64 (or64 a (UInt64.ofNat k.toNat)))) := by
  have h := i64_or (V' := V') a (UInt64.ofNat k.toNat); rw [← u64_of k h0 h1] at h; exact h
@[go_sem ↓ 1100] theorem i64_or_l (k : Int) (a : UInt64) (h0 : 0 ≤ k) (h1 : k < 18446744073709551616) : aInt .or .u64 k .u64 (U64 a) V' = V' (.int .u64 (U64 (or64 (UInt64.ofNat k.toNat) a))) := by
  have h := i64_or (V' := V') (UInt64.ofNat k.toNat) a; rw [← u64_of k h0 h1] at h; exact h
@[go_sem ↓ 1200] theorem i64_xor (a b : UInt64) : aInt .xor .u64 (U64 a) .u64 (U64 b) V' = V' (.int .u64 (U64 (xor64 a b))) := by
  rw [e_xor]; exact congrArg (fun z => V' (.w (.c (.val z)))) (pure_inj (default : Program) (default : World) (u64_xor_ a b))
@[go_sem ↓ 1100] theorem i64_xor_r (k : Int) (a : UInt64) (h0 : 0 ≤ k) (h1 : k < 18446744073709551616) : aInt .xor .u64 (U64 a) .u64 k V' = V' (.int .u64 (U64 (xor64 a (UInt64.ofNat k.toNat)))) := by
  have h := i64_xor (V' := V') a (UInt64.ofNat k.toNat); rw [← u64_of k h0 h1] at h; exact h
@[go_sem ↓ 1100] theorem i64_xor_l (k : Int) (a : UInt64) (h0 : 0 ≤ k) (h1 : k < 18446744073709551616) : aInt .xor .u64 k .u64 (U64 a) V' = V' (.int .u64 (U64 (xor64 (UInt64.ofNat k.toNat) a))) := by
  have h := i64_xor (V' := V') (UInt64.ofNat k.toNat) a; rw [← u64_of k h0 h1] at h; exact h
@[go_sem ↓ 1200] theorem i64_shl (a : UInt64) (k : IntKind) (y : Int) (hy : 0 ≤ y) : aInt .shl .u64 (U64 a) k y V' = V' (.int .u64 (U64 (shl64 a y.toNat))) := by
  rw [e_shl hy]
  refine congrArg (fun z => V' (.w (.c (.val z)))) (pure_inj (default : Program) (default : World) ?_)
  have h := u64_shl_ a k y hy
  simp only [Op.shift, Int.not_lt.mpr hy, if_false] at h
  exact h
@[go_sem ↓ 1200] theorem i64_shr (a : UInt64) (k : IntKind) (y : Int) (hy : 0 ≤ y) : aInt .shr .u64 (U64 a) k y V' = V' (.int .u64 (U64 (shr64 a y.toNat))) := by
  rw [e_shr hy]
  refine congrArg (fun z => V' (.w (.c (.val z)))) (pure_inj (default : Program) (default : World) ?_)
  have h := u64_shr_ a k y hy
  simp only [Op.shift, Int.not_lt.mpr hy, if_false] at h
  exact h
@[go_sem ↓ 1200] theorem i64_not (a : UInt64) : aUn .xor (.w (.c (.val (.int .u64 (U64 a))))) V' = V' (.int .u64 (U64 (not64 a))) :=
  congrArg (fun z => V' (.w (.c (.val z)))) (pure_inj (default : Program) (default : World) (u64_not_ a))
@[go_sem ↓ 1200] theorem i64_neg (a : UInt64) : aUn .neg (.w (.c (.val (.int .u64 (U64 a))))) V' = V' (.int .u64 (U64 (neg64 a))) :=
  congrArg (fun z => V' (.w (.c (.val z)))) (pure_inj (default : Program) (default : World) (u64_neg_ a))
def aCv (q : Option IntKind) (n : Int) (K : V → Prop) : Prop :=
  match q with
  | some k => K (.int k (k.wrap n))
  | none => False
@[congr] theorem cg_aCv {q q' : Option IntKind} {n : Int} (h0 : q = q') : aCv q n V' = aCv q' n V' := by subst h0; rfl
@[go_sem ↓] theorem e_cvi {k : IntKind} {n : Int} : aConv P t t' (.w (.c (.val (.int k n)))) V' = (knownT P t = true ∧ aCv (kindT P t') n V') := by
  unfold aConv aCv
  cases h : kindT P t' <;> simp
@[go_sem ↓] theorem e_cvs {s : ByteArray} : aConv P t t' (.w (.c (.val (.string s)))) V' = (knownT P t = true ∧ isStrT P t' = true ∧ V' (.val (.string s))) := rfl
@[go_sem ↓ 1200] theorem cv_8_8 (a : UInt8) : aCv (some .u8) (U8 a) V' = V' (.int .u8 (U8 (c8to8 a))) := by
  show V' (.int .u8 (IntKind.u8.wrap (U8 a))) = _
  rw [wrapc_8_8]
@[go_sem ↓ 1200] theorem cv_16_8 (a : UInt16) : aCv (some .u8) (U16 a) V' = V' (.int .u8 (U8 (c16to8 a))) := by
  show V' (.int .u8 (IntKind.u8.wrap (U16 a))) = _
  rw [wrapc_16_8]
@[go_sem ↓ 1200] theorem cv_32_8 (a : UInt32) : aCv (some .u8) (U32 a) V' = V' (.int .u8 (U8 (c32to8 a))) := by
  show V' (.int .u8 (IntKind.u8.wrap (U32 a))) = _
  rw [wrapc_32_8]
@[go_sem ↓ 1200] theorem cv_64_8 (a : UInt64) : aCv (some .u8) (U64 a) V' = V' (.int .u8 (U8 (c64to8 a))) := by
  show V' (.int .u8 (IntKind.u8.wrap (U64 a))) = _
  rw [wrapc_64_8]
@[go_sem ↓ 1100] theorem cv_i_8 (n : Int) (h0 : 0 ≤ n) (h1 : n < 256) : aCv (some .u8) n V' = V' (.int .u8 (U8 (UInt8.ofNat n.toNat))) := by
  show V' (.int .u8 (IntKind.u8.wrap n)) = _
  rw [U8_lit _ (by omega), wrap_u8_]
  congr 3; omega
@[go_sem ↓ 1200] theorem cv_8_16 (a : UInt8) : aCv (some .u16) (U8 a) V' = V' (.int .u16 (U16 (c8to16 a))) := by
  show V' (.int .u16 (IntKind.u16.wrap (U8 a))) = _
  rw [wrapc_8_16]
@[go_sem ↓ 1200] theorem cv_16_16 (a : UInt16) : aCv (some .u16) (U16 a) V' = V' (.int .u16 (U16 (c16to16 a))) := by
  show V' (.int .u16 (IntKind.u16.wrap (U16 a))) = _
  rw [wrapc_16_16]
@[go_sem ↓ 1200] theorem cv_32_16 (a : UInt32) : aCv (some .u16) (U32 a) V' = V' (.int .u16 (U16 (c32to16 a))) := by
  show V' (.int .u16 (IntKind.u16.wrap (U32 a))) = _
  rw [wrapc_32_16]
@[go_sem ↓ 1200] theorem cv_64_16 (a : UInt64) : aCv (some .u16) (U64 a) V' = V' (.int .u16 (U16 (c64to16 a))) := by
  show V' (.int .u16 (IntKind.u16.wrap (U64 a))) = _
  rw [wrapc_64_16]
@[go_sem ↓ 1100] theorem cv_i_16 (n : Int) (h0 : 0 ≤ n) (h1 : n < 65536) : aCv (some .u16) n V' = V' (.int .u16 (U16 (UInt16.ofNat n.toNat))) := by
  show V' (.int .u16 (IntKind.u16.wrap n)) = _
  rw [U16_lit _ (by omega), wrap_u16_]
  congr 3; omega
@[go_sem ↓ 1200] theorem cv_8_32 (a : UInt8) : aCv (some .u32) (U8 a) V' = V' (.int .u32 (U32 (c8to32 a))) := by
  show V' (.int .u32 (IntKind.u32.wrap (U8 a))) = _
  rw [wrapc_8_32]
@[go_sem ↓ 1200] theorem cv_16_32 (a : UInt16) : aCv (some .u32) (U16 a) V' = V' (.int .u32 (U32 (c16to32 a))) := by
  show V' (.int .u32 (IntKind.u32.wrap (U16 a))) = _
  rw [wrapc_16_32]
@[go_sem ↓ 1200] theorem cv_32_32 (a : UInt32) : aCv (some .u32) (U32 a) V' = V' (.int .u32 (U32 (c32to32 a))) := by
  show V' (.int .u32 (IntKind.u32.wrap (U32 a))) = _
  rw [wrapc_32_32]
@[go_sem ↓ 1200] theorem cv_64_32 (a : UInt64) : aCv (some .u32) (U64 a) V' = V' (.int .u32 (U32 (c64to32 a))) := by
  show V' (.int .u32 (IntKind.u32.wrap (U64 a))) = _
  rw [wrapc_64_32]
@[go_sem ↓ 1100] theorem cv_i_32 (n : Int) (h0 : 0 ≤ n) (h1 : n < 4294967296) : aCv (some .u32) n V' = V' (.int .u32 (U32 (UInt32.ofNat n.toNat))) := by
  show V' (.int .u32 (IntKind.u32.wrap n)) = _
  rw [U32_lit _ (by omega), wrap_u32_]
  congr 3; omega
@[go_sem ↓ 1200] theorem cv_8_64 (a : UInt8) : aCv (some .u64) (U8 a) V' = V' (.int .u64 (U64 (c8to64 a))) := by
  show V' (.int .u64 (IntKind.u64.wrap (U8 a))) = _
  rw [wrapc_8_64]
@[go_sem ↓ 1200] theorem cv_16_64 (a : UInt16) : aCv (some .u64) (U16 a) V' = V' (.int .u64 (U64 (c16to64 a))) := by
  show V' (.int .u64 (IntKind.u64.wrap (U16 a))) = _
  rw [wrapc_16_64]
@[go_sem ↓ 1200] theorem cv_32_64 (a : UInt32) : aCv (some .u64) (U32 a) V' = V' (.int .u64 (U64 (c32to64 a))) := by
  show V' (.int .u64 (IntKind.u64.wrap (U32 a))) = _
  rw [wrapc_32_64]
@[go_sem ↓ 1200] theorem cv_64_64 (a : UInt64) : aCv (some .u64) (U64 a) V' = V' (.int .u64 (U64 (c64to64 a))) := by
  show V' (.int .u64 (IntKind.u64.wrap (U64 a))) = _
  rw [wrapc_64_64]
@[go_sem ↓ 1100] theorem cv_i_64 (n : Int) (h0 : 0 ≤ n) (h1 : n < 18446744073709551616) : aCv (some .u64) n V' = V' (.int .u64 (U64 (UInt64.ofNat n.toNat))) := by
  show V' (.int .u64 (IntKind.u64.wrap n)) = _
  rw [U64_lit _ (by omega), wrap_u64_]
  congr 3; omega
@[go_sem ↓ 1200] theorem cv_8_i (a : UInt8) : aCv (some .i64) (U8 a) V' = V' (.int .i64 (U8 a)) := by
  show V' (.int .i64 (IntKind.i64.wrap (U8 a))) = _
  rw [wrapi_8]
@[go_sem ↓ 1200] theorem cv_16_i (a : UInt16) : aCv (some .i64) (U16 a) V' = V' (.int .i64 (U16 a)) := by
  show V' (.int .i64 (IntKind.i64.wrap (U16 a))) = _
  rw [wrapi_16]
@[go_sem ↓ 1200] theorem cv_32_i (a : UInt32) : aCv (some .i64) (U32 a) V' = V' (.int .i64 (U32 a)) := by
  show V' (.int .i64 (IntKind.i64.wrap (U32 a))) = _
  rw [wrapi_32]
@[go_sem ↓ 1100] theorem cv_i_i (n : Int) (h0 : -9223372036854775808 ≤ n) (h1 : n ≤ 9223372036854775807) : aCv (some .i64) n V' = V' (.int .i64 n) := by
  show V' (.int .i64 (IntKind.i64.wrap n)) = _
  rw [wrap_i64 h0 h1]
@[go_sem ↓] theorem cv_a (k : IntKind) (n : Int) : aCv (some k) n V' = V' (.int k (k.wrap n)) := rfl
theorem e_bytU {bs : List UInt8} : byt bs = bs.map fun b => .val (.int .u8 (U8 b)) := rfl
attribute [go_sem] Int.reduceToNat
@[go_sem ↓ 1200] theorem e_byt3 {bs : List UInt8} {i : Nat} {V' : C → Prop} (h : i < bs.length) : (∃ c, ((byt (bs.drop i)).map D.toC)[0]? = some c ∧ V' c) = V' (.val (.int .u8 (U8 (bs.getD i 0)))) := e_byt2 h
@[go_sem ↓ 1200] theorem e_byt4 {bs : List UInt8} {i : Nat} {V' : C → Prop} (h : i < bs.length) : (∃ c, (((byt bs).drop i).map D.toC)[0]? = some c ∧ V' c) = V' (.val (.int .u8 (U8 (bs.getD i 0)))) := e_byt h
end Go.Proofs.Ytamcjecgkfmjkaa
