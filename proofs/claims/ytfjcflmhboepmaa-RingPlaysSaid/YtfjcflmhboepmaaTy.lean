/- What the logic asks of the types of this program. -/
import Derived.Test.YtfjcflmhboepmaaProg
import Derived.Test.YtfjcflmhboepmaaAwN
open Go Go.RowKit
namespace Go.Proofs.Ytfjcflmhboepmaa
theorem mixed : Try.prog.follows .mixedOrders = true := by kernel_rfl
@[go_sem] theorem ty1_fn : isFnT Try.prog 1 = true := by kernel_rfl
@[go_sem] theorem ty2_size : sizeT Try.prog 2 = some 1 := by kernel_rfl
@[go_sem] theorem ty2_agg : isAggT Try.prog 2 = some false := by kernel_rfl
@[go_sem] theorem ty2_known : knownT Try.prog 2 = true := by kernel_rfl
@[go_sem] theorem ty2_kind : kindT Try.prog 2 = some .i64 := by kernel_rfl
@[go_sem] theorem ty2_isint : isIntT Try.prog 2 = true := by kernel_rfl
@[go_sem] theorem ty2_bytes : bytesT Try.prog 2 = some 8 := by kernel_rfl
@[go_sem] theorem ty2_zero : zeroC Try.prog 2 = some [.val (.int .i64 0)] := by kernel_rfl
@[go_sem] theorem ty2_alloc : allocC Try.prog 2 = some [.val (.int .i64 0)] := by kernel_rfl
@[go_sem] theorem ty3_size : sizeT Try.prog 3 = some 1 := by kernel_rfl
@[go_sem] theorem ty3_agg : isAggT Try.prog 3 = some false := by kernel_rfl
@[go_sem] theorem ty3_known : knownT Try.prog 3 = true := by kernel_rfl
@[go_sem] theorem ty3_kind : kindT Try.prog 3 = some .i64 := by kernel_rfl
@[go_sem] theorem ty3_isint : isIntT Try.prog 3 = true := by kernel_rfl
@[go_sem] theorem ty3_bytes : bytesT Try.prog 3 = some 8 := by kernel_rfl
@[go_sem] theorem ty3_zero : zeroC Try.prog 3 = some [.val (.int .i64 0)] := by kernel_rfl
@[go_sem] theorem ty3_alloc : allocC Try.prog 3 = some [.val (.int .i64 0)] := by kernel_rfl
@[go_sem] theorem ty4_size : sizeT Try.prog 4 = some 1 := by kernel_rfl
@[go_sem] theorem ty4_agg : isAggT Try.prog 4 = some false := by kernel_rfl
@[go_sem] theorem ty4_known : knownT Try.prog 4 = true := by kernel_rfl
@[go_sem] theorem ty4_bool : isBoolT Try.prog 4 = true := by kernel_rfl
@[go_sem] theorem ty4_bytes : bytesT Try.prog 4 = some 1 := by kernel_rfl
@[go_sem] theorem ty4_zero : zeroC Try.prog 4 = some [.val (.bool false)] := by kernel_rfl
@[go_sem] theorem ty4_alloc : allocC Try.prog 4 = some [.val (.bool false)] := by kernel_rfl
@[go_sem] theorem ty5_size : sizeT Try.prog 5 = some 1 := by kernel_rfl
@[go_sem] theorem ty5_agg : isAggT Try.prog 5 = some false := by kernel_rfl
@[go_sem] theorem ty5_known : knownT Try.prog 5 = true := by kernel_rfl
@[go_sem] theorem ty5_kind : kindT Try.prog 5 = some .u8 := by kernel_rfl
@[go_sem] theorem ty5_isint : isIntT Try.prog 5 = true := by kernel_rfl
@[go_sem] theorem ty5_bytes : bytesT Try.prog 5 = some 1 := by kernel_rfl
@[go_sem] theorem ty5_zero : zeroC Try.prog 5 = some [.val (.int .u8 0)] := by kernel_rfl
@[go_sem] theorem ty5_alloc : allocC Try.prog 5 = some [.val (.int .u8 0)] := by kernel_rfl
@[go_sem] theorem ty7_size : sizeT Try.prog 7 = some 4 := by kernel_rfl
@[go_sem] theorem ty7_agg : isAggT Try.prog 7 = some true := by kernel_rfl
@[go_sem] theorem ty7_known : knownT Try.prog 7 = true := by kernel_rfl
@[go_sem] theorem ty7_flat : flatT Try.prog 7 = some (List.replicate 1 (some .i64) ++ List.replicate 1 (some .i64) ++ List.replicate 1 (none) ++ List.replicate 1 (some .u8)) := by kernel_rfl
@[go_sem] theorem ty7_f0 : fldT Try.prog 7 0 = some (0, 2, 1) := by kernel_rfl
@[go_sem] theorem ty7_f1 : fldT Try.prog 7 1 = some (1, 3, 1) := by kernel_rfl
@[go_sem] theorem ty7_f2 : fldT Try.prog 7 2 = some (2, 4, 1) := by kernel_rfl
@[go_sem] theorem ty7_f3 : fldT Try.prog 7 3 = some (3, 6, 1) := by kernel_rfl
@[go_sem] theorem ty7_lay : layT Try.prog 7 = some (.str [(0, 1), (1, 1), (2, 1), (3, 1)]) := by kernel_rfl
@[go_sem] theorem ty7_bytes : bytesT Try.prog 7 = some 24 := by kernel_rfl
@[go_sem] theorem ty7_zero : zeroC Try.prog 7 = some [.val (.int .i64 0), .val (.int .i64 0), .val (.bool false), .val (.int .u8 0)] := by kernel_rfl
@[go_sem] theorem ty7_alloc : allocC Try.prog 7 = some [.val (.int .i64 0), .val (.int .i64 0), .val (.bool false), .val (.int .u8 0)] := by kernel_rfl
@[go_sem] theorem ty9_size : sizeT Try.prog 9 = some 1 := by kernel_rfl
@[go_sem] theorem ty9_agg : isAggT Try.prog 9 = some false := by kernel_rfl
@[go_sem] theorem ty9_known : knownT Try.prog 9 = true := by kernel_rfl
@[go_sem] theorem ty9_str : isStrT Try.prog 9 = true := by kernel_rfl
@[go_sem] theorem ty9_sb : sbT Try.prog 9 = some false := by kernel_rfl
@[go_sem] theorem ty9_bytes : bytesT Try.prog 9 = some 16 := by kernel_rfl
@[go_sem] theorem ty9_zero : zeroC Try.prog 9 = some [.val (.string ⟨#[]⟩)] := by kernel_rfl
@[go_sem] theorem ty9_alloc : allocC Try.prog 9 = some [.val (.string ⟨#[]⟩)] := by kernel_rfl
@[go_sem] theorem ty12_size : sizeT Try.prog 12 = some 1 := by kernel_rfl
@[go_sem] theorem ty12_agg : isAggT Try.prog 12 = some false := by kernel_rfl
@[go_sem] theorem ty12_known : knownT Try.prog 12 = true := by kernel_rfl
@[go_sem] theorem ty12_kind : kindT Try.prog 12 = some .u64 := by kernel_rfl
@[go_sem] theorem ty12_isint : isIntT Try.prog 12 = true := by kernel_rfl
@[go_sem] theorem ty12_bytes : bytesT Try.prog 12 = some 8 := by kernel_rfl
@[go_sem] theorem ty12_zero : zeroC Try.prog 12 = some [.val (.int .u64 0)] := by kernel_rfl
@[go_sem] theorem ty12_alloc : allocC Try.prog 12 = some [.val (.int .u64 0)] := by kernel_rfl
@[go_sem] theorem ty13_size : sizeT Try.prog 13 = some 2 := by kernel_rfl
@[go_sem] theorem ty13_agg : isAggT Try.prog 13 = some true := by kernel_rfl
@[go_sem] theorem ty13_known : knownT Try.prog 13 = true := by kernel_rfl
@[go_sem] theorem ty13_f0 : fldT Try.prog 13 0 = some (0, 9, 1) := by kernel_rfl
@[go_sem] theorem ty13_f1 : fldT Try.prog 13 1 = some (1, 12, 1) := by kernel_rfl
@[go_sem] theorem ty13_lay : layT Try.prog 13 = some (.str [(0, 1), (1, 1)]) := by kernel_rfl
@[go_sem] theorem ty13_bytes : bytesT Try.prog 13 = some 24 := by kernel_rfl
@[go_sem] theorem ty13_zero : zeroC Try.prog 13 = some [.val (.string ⟨#[]⟩), .val (.int .u64 0)] := by kernel_rfl
@[go_sem] theorem ty13_alloc : allocC Try.prog 13 = some [.val (.string ⟨#[]⟩), .val (.int .u64 0)] := by kernel_rfl
@[go_sem] theorem ty15_size : sizeT Try.prog 15 = some 1 := by kernel_rfl
@[go_sem] theorem ty15_agg : isAggT Try.prog 15 = some false := by kernel_rfl
@[go_sem] theorem ty15_known : knownT Try.prog 15 = true := by kernel_rfl
@[go_sem] theorem ty15_ptr : isPtrT Try.prog 15 = true := by kernel_rfl
@[go_sem] theorem ty15_bytes : bytesT Try.prog 15 = some 8 := by kernel_rfl
@[go_sem] theorem ty15_zero : zeroC Try.prog 15 = some [.val (.pointer none)] := by kernel_rfl
@[go_sem] theorem ty15_alloc : allocC Try.prog 15 = some [.val (.pointer none)] := by kernel_rfl
@[go_sem] theorem ty16_size : sizeT Try.prog 16 = some 1 := by kernel_rfl
@[go_sem] theorem ty16_agg : isAggT Try.prog 16 = some false := by kernel_rfl
@[go_sem] theorem ty16_known : knownT Try.prog 16 = true := by kernel_rfl
@[go_sem] theorem ty16_ptr : isPtrT Try.prog 16 = true := by kernel_rfl
@[go_sem] theorem ty16_bytes : bytesT Try.prog 16 = some 8 := by kernel_rfl
@[go_sem] theorem ty16_zero : zeroC Try.prog 16 = some [.val (.pointer none)] := by kernel_rfl
@[go_sem] theorem ty16_alloc : allocC Try.prog 16 = some [.val (.pointer none)] := by kernel_rfl
@[go_sem] theorem ty17_size : sizeT Try.prog 17 = some 1 := by kernel_rfl
@[go_sem] theorem ty17_agg : isAggT Try.prog 17 = some false := by kernel_rfl
@[go_sem] theorem ty17_known : knownT Try.prog 17 = true := by kernel_rfl
@[go_sem] theorem ty17_ptr : isPtrT Try.prog 17 = true := by kernel_rfl
@[go_sem] theorem ty17_bytes : bytesT Try.prog 17 = some 8 := by kernel_rfl
@[go_sem] theorem ty17_zero : zeroC Try.prog 17 = some [.val (.pointer none)] := by kernel_rfl
@[go_sem] theorem ty17_alloc : allocC Try.prog 17 = some [.val (.pointer none)] := by kernel_rfl
@[go_sem] theorem ty18_size : sizeT Try.prog 18 = some 1 := by kernel_rfl
@[go_sem] theorem ty18_agg : isAggT Try.prog 18 = some true := by kernel_rfl
@[go_sem] theorem ty18_known : knownT Try.prog 18 = true := by kernel_rfl
@[go_sem] theorem ty18_f0 : fldT Try.prog 18 0 = some (0, 17, 1) := by kernel_rfl
@[go_sem] theorem ty18_lay : layT Try.prog 18 = some (.str [(0, 1)]) := by kernel_rfl
@[go_sem] theorem ty18_bytes : bytesT Try.prog 18 = some 8 := by kernel_rfl
@[go_sem] theorem ty18_zero : zeroC Try.prog 18 = some [.val (.pointer none)] := by kernel_rfl
@[go_sem] theorem ty18_alloc : allocC Try.prog 18 = some [.val (.pointer none)] := by kernel_rfl
@[go_sem] theorem ty19_size : sizeT Try.prog 19 = some 1 := by kernel_rfl
@[go_sem] theorem ty19_agg : isAggT Try.prog 19 = some true := by kernel_rfl
@[go_sem] theorem ty19_known : knownT Try.prog 19 = true := by kernel_rfl
@[go_sem] theorem ty19_f0 : fldT Try.prog 19 0 = some (0, 17, 1) := by kernel_rfl
@[go_sem] theorem ty19_lay : layT Try.prog 19 = some (.str [(0, 1)]) := by kernel_rfl
@[go_sem] theorem ty19_bytes : bytesT Try.prog 19 = some 8 := by kernel_rfl
@[go_sem] theorem ty19_zero : zeroC Try.prog 19 = some [.val (.pointer none)] := by kernel_rfl
@[go_sem] theorem ty19_alloc : allocC Try.prog 19 = some [.val (.pointer none)] := by kernel_rfl
@[go_sem] theorem ty20_ifc : isIfcT Try.prog 20 = true := by kernel_rfl
@[go_sem] theorem ty21_size : sizeT Try.prog 21 = some 1 := by kernel_rfl
@[go_sem] theorem ty21_agg : isAggT Try.prog 21 = some false := by kernel_rfl
@[go_sem] theorem ty21_known : knownT Try.prog 21 = true := by kernel_rfl
@[go_sem] theorem ty21_kind : kindT Try.prog 21 = some .i32 := by kernel_rfl
@[go_sem] theorem ty21_isint : isIntT Try.prog 21 = true := by kernel_rfl
@[go_sem] theorem ty21_bytes : bytesT Try.prog 21 = some 4 := by kernel_rfl
@[go_sem] theorem ty21_zero : zeroC Try.prog 21 = some [.val (.int .i32 0)] := by kernel_rfl
@[go_sem] theorem ty21_alloc : allocC Try.prog 21 = some [.val (.int .i32 0)] := by kernel_rfl
@[go_sem] theorem ty22_size : sizeT Try.prog 22 = some 1 := by kernel_rfl
@[go_sem] theorem ty22_agg : isAggT Try.prog 22 = some false := by kernel_rfl
@[go_sem] theorem ty22_known : knownT Try.prog 22 = true := by kernel_rfl
@[go_sem] theorem ty22_sb : sbT Try.prog 22 = some true := by kernel_rfl
@[go_sem] theorem ty22_slc : isSlcT Try.prog 22 = true := by kernel_rfl
@[go_sem] theorem ty22_idx : idxT Try.prog 22 = some (none, 5, 1) := by kernel_rfl
@[go_sem] theorem ty22_bytes : bytesT Try.prog 22 = some 24 := by kernel_rfl
@[go_sem] theorem ty22_zero : zeroC Try.prog 22 = some [.lst .full (some true) 1 []] := by kernel_rfl
@[go_sem] theorem ty22_alloc : allocC Try.prog 22 = some [.lst .full (some true) 1 []] := by kernel_rfl
@[go_sem] theorem ty23_fn : isFnT Try.prog 23 = true := by kernel_rfl
@[go_sem] theorem ty24_size : sizeT Try.prog 24 = some 32 := by kernel_rfl
@[go_sem] theorem ty24_agg : isAggT Try.prog 24 = some true := by kernel_rfl
@[go_sem] theorem ty24_known : knownT Try.prog 24 = true := by kernel_rfl
@[go_sem] theorem ty24_flat : flatT Try.prog 24 = some (List.replicate 32 (some .u8)) := by kernel_rfl
@[go_sem] theorem ty24_idx : idxT Try.prog 24 = some (some 32, 5, 1) := by kernel_rfl
@[go_sem] theorem ty24_lay : layT Try.prog 24 = some (.arr 1) := by kernel_rfl
@[go_sem] theorem ty24_bytes : bytesT Try.prog 24 = some 32 := by kernel_rfl
@[go_sem] theorem ty24_zero : zeroC Try.prog 24 = some [.val (.int .u8 0), .val (.int .u8 0), .val (.int .u8 0), .val (.int .u8 0), .val (.int .u8 0), .val (.int .u8 0), .val (.int .u8 0), .val (.int .u8 0), .val (.int .u8 0), .val (.int .u8 0), .val (.int .u8 0), .val (.int .u8 0), .val (.int .u8 0), .val (.int .u8 0), .val (.int .u8 0), .val (.int .u8 0), .val (.int .u8 0), .val (.int .u8 0), .val (.int .u8 0), .val (.int .u8 0), .val (.int .u8 0), .val (.int .u8 0), .val (.int .u8 0), .val (.int .u8 0), .val (.int .u8 0), .val (.int .u8 0), .val (.int .u8 0), .val (.int .u8 0), .val (.int .u8 0), .val (.int .u8 0), .val (.int .u8 0), .val (.int .u8 0)] := by kernel_rfl
@[go_sem] theorem ty24_alloc : allocC Try.prog 24 = some [.val (.int .u8 0), .val (.int .u8 0), .val (.int .u8 0), .val (.int .u8 0), .val (.int .u8 0), .val (.int .u8 0), .val (.int .u8 0), .val (.int .u8 0), .val (.int .u8 0), .val (.int .u8 0), .val (.int .u8 0), .val (.int .u8 0), .val (.int .u8 0), .val (.int .u8 0), .val (.int .u8 0), .val (.int .u8 0), .val (.int .u8 0), .val (.int .u8 0), .val (.int .u8 0), .val (.int .u8 0), .val (.int .u8 0), .val (.int .u8 0), .val (.int .u8 0), .val (.int .u8 0), .val (.int .u8 0), .val (.int .u8 0), .val (.int .u8 0), .val (.int .u8 0), .val (.int .u8 0), .val (.int .u8 0), .val (.int .u8 0), .val (.int .u8 0)] := by kernel_rfl
theorem ty24_und : ∃ q, Try.prog.underlying 24 = some (.array q.1 q.2) ∧ q = (32, 5) := ⟨(32, 5), by kernel_rfl, rfl⟩
@[go_sem] theorem ty25_size : sizeT Try.prog 25 = some 32 := by kernel_rfl
@[go_sem] theorem ty25_agg : isAggT Try.prog 25 = some true := by kernel_rfl
@[go_sem] theorem ty25_known : knownT Try.prog 25 = true := by kernel_rfl
@[go_sem] theorem ty25_flat : flatT Try.prog 25 = some (List.replicate 32 (some .u8)) := by kernel_rfl
@[go_sem] theorem ty25_idx : idxT Try.prog 25 = some (some 32, 5, 1) := by kernel_rfl
@[go_sem] theorem ty25_lay : layT Try.prog 25 = some (.arr 1) := by kernel_rfl
@[go_sem] theorem ty25_bytes : bytesT Try.prog 25 = some 32 := by kernel_rfl
@[go_sem] theorem ty25_zero : zeroC Try.prog 25 = some [.val (.int .u8 0), .val (.int .u8 0), .val (.int .u8 0), .val (.int .u8 0), .val (.int .u8 0), .val (.int .u8 0), .val (.int .u8 0), .val (.int .u8 0), .val (.int .u8 0), .val (.int .u8 0), .val (.int .u8 0), .val (.int .u8 0), .val (.int .u8 0), .val (.int .u8 0), .val (.int .u8 0), .val (.int .u8 0), .val (.int .u8 0), .val (.int .u8 0), .val (.int .u8 0), .val (.int .u8 0), .val (.int .u8 0), .val (.int .u8 0), .val (.int .u8 0), .val (.int .u8 0), .val (.int .u8 0), .val (.int .u8 0), .val (.int .u8 0), .val (.int .u8 0), .val (.int .u8 0), .val (.int .u8 0), .val (.int .u8 0), .val (.int .u8 0)] := by kernel_rfl
@[go_sem] theorem ty25_alloc : allocC Try.prog 25 = some [.val (.int .u8 0), .val (.int .u8 0), .val (.int .u8 0), .val (.int .u8 0), .val (.int .u8 0), .val (.int .u8 0), .val (.int .u8 0), .val (.int .u8 0), .val (.int .u8 0), .val (.int .u8 0), .val (.int .u8 0), .val (.int .u8 0), .val (.int .u8 0), .val (.int .u8 0), .val (.int .u8 0), .val (.int .u8 0), .val (.int .u8 0), .val (.int .u8 0), .val (.int .u8 0), .val (.int .u8 0), .val (.int .u8 0), .val (.int .u8 0), .val (.int .u8 0), .val (.int .u8 0), .val (.int .u8 0), .val (.int .u8 0), .val (.int .u8 0), .val (.int .u8 0), .val (.int .u8 0), .val (.int .u8 0), .val (.int .u8 0), .val (.int .u8 0)] := by kernel_rfl
theorem ty25_und : ∃ q, Try.prog.underlying 25 = some (.array q.1 q.2) ∧ q = (32, 5) := ⟨(32, 5), by kernel_rfl, rfl⟩
@[go_sem] theorem ty26_fn : isFnT Try.prog 26 = true := by kernel_rfl
@[go_sem] theorem ty27_fn : isFnT Try.prog 27 = true := by kernel_rfl
@[go_sem] theorem ty28_fn : isFnT Try.prog 28 = true := by kernel_rfl
@[go_sem] theorem ty29_fn : isFnT Try.prog 29 = true := by kernel_rfl
@[go_sem] theorem ty30_fn : isFnT Try.prog 30 = true := by kernel_rfl
@[go_sem] theorem ty31_fn : isFnT Try.prog 31 = true := by kernel_rfl
@[go_sem] theorem ty32_fn : isFnT Try.prog 32 = true := by kernel_rfl
@[go_sem] theorem ty33_fn : isFnT Try.prog 33 = true := by kernel_rfl
@[go_sem] theorem ty34_fn : isFnT Try.prog 34 = true := by kernel_rfl
@[go_sem] theorem ty35_size : sizeT Try.prog 35 = some 1 := by kernel_rfl
@[go_sem] theorem ty35_agg : isAggT Try.prog 35 = some false := by kernel_rfl
@[go_sem] theorem ty35_known : knownT Try.prog 35 = true := by kernel_rfl
@[go_sem] theorem ty35_kind : kindT Try.prog 35 = some .i64 := by kernel_rfl
@[go_sem] theorem ty35_isint : isIntT Try.prog 35 = true := by kernel_rfl
@[go_sem] theorem ty35_bytes : bytesT Try.prog 35 = some 8 := by kernel_rfl
@[go_sem] theorem ty35_zero : zeroC Try.prog 35 = some [.val (.int .i64 0)] := by kernel_rfl
@[go_sem] theorem ty35_alloc : allocC Try.prog 35 = some [.val (.int .i64 0)] := by kernel_rfl
@[go_sem] theorem ty37_fn : isFnT Try.prog 37 = true := by kernel_rfl
@[go_sem] theorem ty39_fn : isFnT Try.prog 39 = true := by kernel_rfl
@[go_sem] theorem ty41_fn : isFnT Try.prog 41 = true := by kernel_rfl
@[go_sem] theorem ty42_fn : isFnT Try.prog 42 = true := by kernel_rfl
@[go_sem] theorem ty44_fn : isFnT Try.prog 44 = true := by kernel_rfl
@[go_sem] theorem ty45_size : sizeT Try.prog 45 = some 1 := by kernel_rfl
@[go_sem] theorem ty45_agg : isAggT Try.prog 45 = some false := by kernel_rfl
@[go_sem] theorem ty45_known : knownT Try.prog 45 = true := by kernel_rfl
@[go_sem] theorem ty45_slc : isSlcT Try.prog 45 = true := by kernel_rfl
@[go_sem] theorem ty45_idx : idxT Try.prog 45 = some (none, 22, 1) := by kernel_rfl
@[go_sem] theorem ty45_bytes : bytesT Try.prog 45 = some 24 := by kernel_rfl
@[go_sem] theorem ty45_zero : zeroC Try.prog 45 = some [.lst .full (some true) 1 []] := by kernel_rfl
@[go_sem] theorem ty45_alloc : allocC Try.prog 45 = some [.lst .full (some true) 1 []] := by kernel_rfl
@[go_sem] theorem ty47_fn : isFnT Try.prog 47 = true := by kernel_rfl
@[go_sem] theorem ty48_fn : isFnT Try.prog 48 = true := by kernel_rfl
@[go_sem] theorem ty49_fn : isFnT Try.prog 49 = true := by kernel_rfl
@[go_sem] theorem ty50_size : sizeT Try.prog 50 = some 1 := by kernel_rfl
@[go_sem] theorem ty50_agg : isAggT Try.prog 50 = some false := by kernel_rfl
@[go_sem] theorem ty50_known : knownT Try.prog 50 = true := by kernel_rfl
@[go_sem] theorem ty50_slc : isSlcT Try.prog 50 = true := by kernel_rfl
@[go_sem] theorem ty50_idx : idxT Try.prog 50 = some (none, 3, 1) := by kernel_rfl
@[go_sem] theorem ty50_bytes : bytesT Try.prog 50 = some 24 := by kernel_rfl
@[go_sem] theorem ty50_zero : zeroC Try.prog 50 = some [.lst .full (some true) 1 []] := by kernel_rfl
@[go_sem] theorem ty50_alloc : allocC Try.prog 50 = some [.lst .full (some true) 1 []] := by kernel_rfl
@[go_sem] theorem ty51_fn : isFnT Try.prog 51 = true := by kernel_rfl
@[go_sem] theorem ty52_fn : isFnT Try.prog 52 = true := by kernel_rfl
@[go_sem] theorem ty53_size : sizeT Try.prog 53 = some 1 := by kernel_rfl
@[go_sem] theorem ty53_agg : isAggT Try.prog 53 = some false := by kernel_rfl
@[go_sem] theorem ty53_known : knownT Try.prog 53 = true := by kernel_rfl
@[go_sem] theorem ty53_slc : isSlcT Try.prog 53 = true := by kernel_rfl
@[go_sem] theorem ty53_idx : idxT Try.prog 53 = some (none, 64, 20) := by kernel_rfl
@[go_sem] theorem ty53_bytes : bytesT Try.prog 53 = some 24 := by kernel_rfl
@[go_sem] theorem ty53_zero : zeroC Try.prog 53 = some [.lst .full (some true) 1 []] := by kernel_rfl
@[go_sem] theorem ty53_alloc : allocC Try.prog 53 = some [.lst .full (some true) 1 []] := by kernel_rfl
@[go_sem] theorem ty54_size : sizeT Try.prog 54 = some 1 := by kernel_rfl
@[go_sem] theorem ty54_agg : isAggT Try.prog 54 = some false := by kernel_rfl
@[go_sem] theorem ty54_known : knownT Try.prog 54 = true := by kernel_rfl
@[go_sem] theorem ty54_ptr : isPtrT Try.prog 54 = true := by kernel_rfl
@[go_sem] theorem ty54_bytes : bytesT Try.prog 54 = some 8 := by kernel_rfl
@[go_sem] theorem ty54_zero : zeroC Try.prog 54 = some [.val (.pointer none)] := by kernel_rfl
@[go_sem] theorem ty54_alloc : allocC Try.prog 54 = some [.val (.pointer none)] := by kernel_rfl
@[go_sem] theorem ty56_fn : isFnT Try.prog 56 = true := by kernel_rfl
@[go_sem] theorem ty57_size : sizeT Try.prog 57 = some 1 := by kernel_rfl
@[go_sem] theorem ty57_agg : isAggT Try.prog 57 = some false := by kernel_rfl
@[go_sem] theorem ty57_known : knownT Try.prog 57 = true := by kernel_rfl
@[go_sem] theorem ty57_ptr : isPtrT Try.prog 57 = true := by kernel_rfl
@[go_sem] theorem ty57_bytes : bytesT Try.prog 57 = some 8 := by kernel_rfl
@[go_sem] theorem ty57_zero : zeroC Try.prog 57 = some [.val (.pointer none)] := by kernel_rfl
@[go_sem] theorem ty57_alloc : allocC Try.prog 57 = some [.val (.pointer none)] := by kernel_rfl
@[go_sem] theorem ty59_fn : isFnT Try.prog 59 = true := by kernel_rfl
@[go_sem] theorem ty60_fn : isFnT Try.prog 60 = true := by kernel_rfl
@[go_sem] theorem ty61_size : sizeT Try.prog 61 = some 16 := by kernel_rfl
@[go_sem] theorem ty61_agg : isAggT Try.prog 61 = some true := by kernel_rfl
@[go_sem] theorem ty61_known : knownT Try.prog 61 = true := by kernel_rfl
@[go_sem] theorem ty61_flat : flatT Try.prog 61 = some (List.replicate 16 (some .i32)) := by kernel_rfl
@[go_sem] theorem ty61_idx : idxT Try.prog 61 = some (some 16, 21, 1) := by kernel_rfl
@[go_sem] theorem ty61_lay : layT Try.prog 61 = some (.arr 1) := by kernel_rfl
@[go_sem] theorem ty61_bytes : bytesT Try.prog 61 = some 64 := by kernel_rfl
@[go_sem] theorem ty61_zero : zeroC Try.prog 61 = some [.val (.int .i32 0), .val (.int .i32 0), .val (.int .i32 0), .val (.int .i32 0), .val (.int .i32 0), .val (.int .i32 0), .val (.int .i32 0), .val (.int .i32 0), .val (.int .i32 0), .val (.int .i32 0), .val (.int .i32 0), .val (.int .i32 0), .val (.int .i32 0), .val (.int .i32 0), .val (.int .i32 0), .val (.int .i32 0)] := by kernel_rfl
@[go_sem] theorem ty61_alloc : allocC Try.prog 61 = some [.val (.int .i32 0), .val (.int .i32 0), .val (.int .i32 0), .val (.int .i32 0), .val (.int .i32 0), .val (.int .i32 0), .val (.int .i32 0), .val (.int .i32 0), .val (.int .i32 0), .val (.int .i32 0), .val (.int .i32 0), .val (.int .i32 0), .val (.int .i32 0), .val (.int .i32 0), .val (.int .i32 0), .val (.int .i32 0)] := by kernel_rfl
theorem ty61_und : ∃ q, Try.prog.underlying 61 = some (.array q.1 q.2) ∧ q = (16, 21) := ⟨(16, 21), by kernel_rfl, rfl⟩
@[go_sem] theorem ty62_size : sizeT Try.prog 62 = some 1 := by kernel_rfl
@[go_sem] theorem ty62_agg : isAggT Try.prog 62 = some false := by kernel_rfl
@[go_sem] theorem ty62_known : knownT Try.prog 62 = true := by kernel_rfl
@[go_sem] theorem ty62_kind : kindT Try.prog 62 = some .u32 := by kernel_rfl
@[go_sem] theorem ty62_isint : isIntT Try.prog 62 = true := by kernel_rfl
@[go_sem] theorem ty62_bytes : bytesT Try.prog 62 = some 4 := by kernel_rfl
@[go_sem] theorem ty62_zero : zeroC Try.prog 62 = some [.val (.int .u32 0)] := by kernel_rfl
@[go_sem] theorem ty62_alloc : allocC Try.prog 62 = some [.val (.int .u32 0)] := by kernel_rfl
@[go_sem] theorem ty63_size : sizeT Try.prog 63 = some 20 := by kernel_rfl
@[go_sem] theorem ty63_agg : isAggT Try.prog 63 = some true := by kernel_rfl
@[go_sem] theorem ty63_known : knownT Try.prog 63 = true := by kernel_rfl
@[go_sem] theorem ty63_flat : flatT Try.prog 63 = some (List.replicate 1 (some .i64) ++ List.replicate 16 (some .i32) ++ List.replicate 1 (some .u32) ++ List.replicate 1 (none) ++ List.replicate 1 (some .i64)) := by kernel_rfl
@[go_sem] theorem ty63_f0 : fldT Try.prog 63 0 = some (0, 3, 1) := by kernel_rfl
@[go_sem] theorem ty63_f1 : fldT Try.prog 63 1 = some (1, 61, 16) := by kernel_rfl
@[go_sem] theorem ty63_f2 : fldT Try.prog 63 2 = some (17, 62, 1) := by kernel_rfl
@[go_sem] theorem ty63_f3 : fldT Try.prog 63 3 = some (18, 4, 1) := by kernel_rfl
@[go_sem] theorem ty63_f4 : fldT Try.prog 63 4 = some (19, 3, 1) := by kernel_rfl
@[go_sem] theorem ty63_lay : layT Try.prog 63 = some (.str [(0, 1), (1, 16), (17, 1), (18, 1), (19, 1)]) := by kernel_rfl
@[go_sem] theorem ty63_bytes : bytesT Try.prog 63 = some 88 := by kernel_rfl
@[go_sem] theorem ty63_zero : zeroC Try.prog 63 = some [.val (.int .i64 0), .val (.int .i32 0), .val (.int .i32 0), .val (.int .i32 0), .val (.int .i32 0), .val (.int .i32 0), .val (.int .i32 0), .val (.int .i32 0), .val (.int .i32 0), .val (.int .i32 0), .val (.int .i32 0), .val (.int .i32 0), .val (.int .i32 0), .val (.int .i32 0), .val (.int .i32 0), .val (.int .i32 0), .val (.int .i32 0), .val (.int .u32 0), .val (.bool false), .val (.int .i64 0)] := by kernel_rfl
@[go_sem] theorem ty63_alloc : allocC Try.prog 63 = some [.val (.int .i64 0), .val (.int .i32 0), .val (.int .i32 0), .val (.int .i32 0), .val (.int .i32 0), .val (.int .i32 0), .val (.int .i32 0), .val (.int .i32 0), .val (.int .i32 0), .val (.int .i32 0), .val (.int .i32 0), .val (.int .i32 0), .val (.int .i32 0), .val (.int .i32 0), .val (.int .i32 0), .val (.int .i32 0), .val (.int .i32 0), .val (.int .u32 0), .val (.bool false), .val (.int .i64 0)] := by kernel_rfl
@[go_sem] theorem ty64_size : sizeT Try.prog 64 = some 20 := by kernel_rfl
@[go_sem] theorem ty64_agg : isAggT Try.prog 64 = some true := by kernel_rfl
@[go_sem] theorem ty64_known : knownT Try.prog 64 = true := by kernel_rfl
@[go_sem] theorem ty64_flat : flatT Try.prog 64 = some (List.replicate 1 (some .i64) ++ List.replicate 16 (some .i32) ++ List.replicate 1 (some .u32) ++ List.replicate 1 (none) ++ List.replicate 1 (some .i64)) := by kernel_rfl
@[go_sem] theorem ty64_f0 : fldT Try.prog 64 0 = some (0, 3, 1) := by kernel_rfl
@[go_sem] theorem ty64_f1 : fldT Try.prog 64 1 = some (1, 61, 16) := by kernel_rfl
@[go_sem] theorem ty64_f2 : fldT Try.prog 64 2 = some (17, 62, 1) := by kernel_rfl
@[go_sem] theorem ty64_f3 : fldT Try.prog 64 3 = some (18, 4, 1) := by kernel_rfl
@[go_sem] theorem ty64_f4 : fldT Try.prog 64 4 = some (19, 3, 1) := by kernel_rfl
@[go_sem] theorem ty64_lay : layT Try.prog 64 = some (.str [(0, 1), (1, 16), (17, 1), (18, 1), (19, 1)]) := by kernel_rfl
@[go_sem] theorem ty64_bytes : bytesT Try.prog 64 = some 88 := by kernel_rfl
@[go_sem] theorem ty64_zero : zeroC Try.prog 64 = some [.val (.int .i64 0), .val (.int .i32 0), .val (.int .i32 0), .val (.int .i32 0), .val (.int .i32 0), .val (.int .i32 0), .val (.int .i32 0), .val (.int .i32 0), .val (.int .i32 0), .val (.int .i32 0), .val (.int .i32 0), .val (.int .i32 0), .val (.int .i32 0), .val (.int .i32 0), .val (.int .i32 0), .val (.int .i32 0), .val (.int .i32 0), .val (.int .u32 0), .val (.bool false), .val (.int .i64 0)] := by kernel_rfl
@[go_sem] theorem ty64_alloc : allocC Try.prog 64 = some [.val (.int .i64 0), .val (.int .i32 0), .val (.int .i32 0), .val (.int .i32 0), .val (.int .i32 0), .val (.int .i32 0), .val (.int .i32 0), .val (.int .i32 0), .val (.int .i32 0), .val (.int .i32 0), .val (.int .i32 0), .val (.int .i32 0), .val (.int .i32 0), .val (.int .i32 0), .val (.int .i32 0), .val (.int .i32 0), .val (.int .i32 0), .val (.int .u32 0), .val (.bool false), .val (.int .i64 0)] := by kernel_rfl
@[go_sem] theorem ty65_fn : isFnT Try.prog 65 = true := by kernel_rfl
@[go_sem] theorem ty67_fn : isFnT Try.prog 67 = true := by kernel_rfl
@[go_sem] theorem ty69_fn : isFnT Try.prog 69 = true := by kernel_rfl
@[go_sem] theorem ty70_fn : isFnT Try.prog 70 = true := by kernel_rfl
@[go_sem] theorem ty71_fn : isFnT Try.prog 71 = true := by kernel_rfl
@[go_sem] theorem ty72_fn : isFnT Try.prog 72 = true := by kernel_rfl
@[go_sem] theorem ty73_fn : isFnT Try.prog 73 = true := by kernel_rfl
@[go_sem] theorem ty74_size : sizeT Try.prog 74 = some 8 := by kernel_rfl
@[go_sem] theorem ty74_agg : isAggT Try.prog 74 = some true := by kernel_rfl
@[go_sem] theorem ty74_known : knownT Try.prog 74 = true := by kernel_rfl
@[go_sem] theorem ty74_flat : flatT Try.prog 74 = some (List.replicate 8 (some .u32)) := by kernel_rfl
@[go_sem] theorem ty74_idx : idxT Try.prog 74 = some (some 8, 62, 1) := by kernel_rfl
@[go_sem] theorem ty74_lay : layT Try.prog 74 = some (.arr 1) := by kernel_rfl
@[go_sem] theorem ty74_bytes : bytesT Try.prog 74 = some 32 := by kernel_rfl
@[go_sem] theorem ty74_zero : zeroC Try.prog 74 = some [.val (.int .u32 0), .val (.int .u32 0), .val (.int .u32 0), .val (.int .u32 0), .val (.int .u32 0), .val (.int .u32 0), .val (.int .u32 0), .val (.int .u32 0)] := by kernel_rfl
@[go_sem] theorem ty74_alloc : allocC Try.prog 74 = some [.val (.int .u32 0), .val (.int .u32 0), .val (.int .u32 0), .val (.int .u32 0), .val (.int .u32 0), .val (.int .u32 0), .val (.int .u32 0), .val (.int .u32 0)] := by kernel_rfl
theorem ty74_und : ∃ q, Try.prog.underlying 74 = some (.array q.1 q.2) ∧ q = (8, 62) := ⟨(8, 62), by kernel_rfl, rfl⟩
@[go_sem] theorem ty75_size : sizeT Try.prog 75 = some 8 := by kernel_rfl
@[go_sem] theorem ty75_agg : isAggT Try.prog 75 = some true := by kernel_rfl
@[go_sem] theorem ty75_known : knownT Try.prog 75 = true := by kernel_rfl
@[go_sem] theorem ty75_flat : flatT Try.prog 75 = some (List.replicate 8 (some .u32)) := by kernel_rfl
@[go_sem] theorem ty75_idx : idxT Try.prog 75 = some (some 8, 62, 1) := by kernel_rfl
@[go_sem] theorem ty75_lay : layT Try.prog 75 = some (.arr 1) := by kernel_rfl
@[go_sem] theorem ty75_bytes : bytesT Try.prog 75 = some 32 := by kernel_rfl
@[go_sem] theorem ty75_zero : zeroC Try.prog 75 = some [.val (.int .u32 0), .val (.int .u32 0), .val (.int .u32 0), .val (.int .u32 0), .val (.int .u32 0), .val (.int .u32 0), .val (.int .u32 0), .val (.int .u32 0)] := by kernel_rfl
@[go_sem] theorem ty75_alloc : allocC Try.prog 75 = some [.val (.int .u32 0), .val (.int .u32 0), .val (.int .u32 0), .val (.int .u32 0), .val (.int .u32 0), .val (.int .u32 0), .val (.int .u32 0), .val (.int .u32 0)] := by kernel_rfl
theorem ty75_und : ∃ q, Try.prog.underlying 75 = some (.array q.1 q.2) ∧ q = (8, 62) := ⟨(8, 62), by kernel_rfl, rfl⟩
@[go_sem] theorem ty76_size : sizeT Try.prog 76 = some 64 := by kernel_rfl
@[go_sem] theorem ty76_agg : isAggT Try.prog 76 = some true := by kernel_rfl
@[go_sem] theorem ty76_known : knownT Try.prog 76 = true := by kernel_rfl
@[go_sem] theorem ty76_flat : flatT Try.prog 76 = some (List.replicate 64 (some .u32)) := by kernel_rfl
@[go_sem] theorem ty76_idx : idxT Try.prog 76 = some (some 64, 62, 1) := by kernel_rfl
@[go_sem] theorem ty76_lay : layT Try.prog 76 = some (.arr 1) := by kernel_rfl
@[go_sem] theorem ty76_bytes : bytesT Try.prog 76 = some 256 := by kernel_rfl
@[go_sem] theorem ty76_zero : zeroC Try.prog 76 = some (List.replicate 64 (.val (.int .u32 0))) := by kernel_rfl
@[go_sem] theorem ty76_alloc : allocC Try.prog 76 = some (List.replicate 64 (.val (.int .u32 0))) := by kernel_rfl
theorem ty76_und : ∃ q, Try.prog.underlying 76 = some (.array q.1 q.2) ∧ q = (64, 62) := ⟨(64, 62), by kernel_rfl, rfl⟩
@[go_sem] theorem ty77_fn : isFnT Try.prog 77 = true := by kernel_rfl
@[go_sem] theorem ty78_fn : isFnT Try.prog 78 = true := by kernel_rfl
@[go_sem] theorem ty79_size : sizeT Try.prog 79 = some 1 := by kernel_rfl
@[go_sem] theorem ty79_agg : isAggT Try.prog 79 = some false := by kernel_rfl
@[go_sem] theorem ty79_known : knownT Try.prog 79 = true := by kernel_rfl
@[go_sem] theorem ty79_ptr : isPtrT Try.prog 79 = true := by kernel_rfl
@[go_sem] theorem ty79_bytes : bytesT Try.prog 79 = some 8 := by kernel_rfl
@[go_sem] theorem ty79_zero : zeroC Try.prog 79 = some [.val (.pointer none)] := by kernel_rfl
@[go_sem] theorem ty79_alloc : allocC Try.prog 79 = some [.val (.pointer none)] := by kernel_rfl
@[go_sem] theorem ty80_size : sizeT Try.prog 80 = some 128 := by kernel_rfl
@[go_sem] theorem ty80_agg : isAggT Try.prog 80 = some true := by kernel_rfl
@[go_sem] theorem ty80_known : knownT Try.prog 80 = true := by kernel_rfl
@[go_sem] theorem ty80_flat : flatT Try.prog 80 = some (List.replicate 128 (some .u8)) := by kernel_rfl
@[go_sem] theorem ty80_idx : idxT Try.prog 80 = some (some 128, 5, 1) := by kernel_rfl
@[go_sem] theorem ty80_lay : layT Try.prog 80 = some (.arr 1) := by kernel_rfl
@[go_sem] theorem ty80_bytes : bytesT Try.prog 80 = some 128 := by kernel_rfl
@[go_sem] theorem ty80_zero : zeroC Try.prog 80 = some (List.replicate 128 (.val (.int .u8 0))) := by kernel_rfl
@[go_sem] theorem ty80_alloc : allocC Try.prog 80 = some (List.replicate 128 (.val (.int .u8 0))) := by kernel_rfl
theorem ty80_und : ∃ q, Try.prog.underlying 80 = some (.array q.1 q.2) ∧ q = (128, 5) := ⟨(128, 5), by kernel_rfl, rfl⟩
@[go_sem] theorem ty81_size : sizeT Try.prog 81 = some 1 := by kernel_rfl
@[go_sem] theorem ty81_agg : isAggT Try.prog 81 = some false := by kernel_rfl
@[go_sem] theorem ty81_known : knownT Try.prog 81 = true := by kernel_rfl
@[go_sem] theorem ty81_kind : kindT Try.prog 81 = some .u64 := by kernel_rfl
@[go_sem] theorem ty81_isint : isIntT Try.prog 81 = true := by kernel_rfl
@[go_sem] theorem ty81_bytes : bytesT Try.prog 81 = some 8 := by kernel_rfl
@[go_sem] theorem ty81_zero : zeroC Try.prog 81 = some [.val (.int .u64 0)] := by kernel_rfl
@[go_sem] theorem ty81_alloc : allocC Try.prog 81 = some [.val (.int .u64 0)] := by kernel_rfl
@[go_sem] theorem ty82_size : sizeT Try.prog 82 = some 1 := by kernel_rfl
@[go_sem] theorem ty82_agg : isAggT Try.prog 82 = some false := by kernel_rfl
@[go_sem] theorem ty82_known : knownT Try.prog 82 = true := by kernel_rfl
@[go_sem] theorem ty82_kind : kindT Try.prog 82 = some .u64 := by kernel_rfl
@[go_sem] theorem ty82_isint : isIntT Try.prog 82 = true := by kernel_rfl
@[go_sem] theorem ty82_bytes : bytesT Try.prog 82 = some 8 := by kernel_rfl
@[go_sem] theorem ty82_zero : zeroC Try.prog 82 = some [.val (.int .u64 0)] := by kernel_rfl
@[go_sem] theorem ty82_alloc : allocC Try.prog 82 = some [.val (.int .u64 0)] := by kernel_rfl
@[go_sem] theorem ty83_fn : isFnT Try.prog 83 = true := by kernel_rfl
@[go_sem] theorem ty84_size : sizeT Try.prog 84 = some 64 := by kernel_rfl
@[go_sem] theorem ty84_agg : isAggT Try.prog 84 = some true := by kernel_rfl
@[go_sem] theorem ty84_known : knownT Try.prog 84 = true := by kernel_rfl
@[go_sem] theorem ty84_flat : flatT Try.prog 84 = some (List.replicate 64 (some .u8)) := by kernel_rfl
@[go_sem] theorem ty84_idx : idxT Try.prog 84 = some (some 64, 5, 1) := by kernel_rfl
@[go_sem] theorem ty84_lay : layT Try.prog 84 = some (.arr 1) := by kernel_rfl
@[go_sem] theorem ty84_bytes : bytesT Try.prog 84 = some 64 := by kernel_rfl
@[go_sem] theorem ty84_zero : zeroC Try.prog 84 = some (List.replicate 64 (.val (.int .u8 0))) := by kernel_rfl
@[go_sem] theorem ty84_alloc : allocC Try.prog 84 = some (List.replicate 64 (.val (.int .u8 0))) := by kernel_rfl
theorem ty84_und : ∃ q, Try.prog.underlying 84 = some (.array q.1 q.2) ∧ q = (64, 5) := ⟨(64, 5), by kernel_rfl, rfl⟩
@[go_sem] theorem ty85_fn : isFnT Try.prog 85 = true := by kernel_rfl
@[go_sem] theorem ty86_fn : isFnT Try.prog 86 = true := by kernel_rfl
@[go_sem] theorem ty87_fn : isFnT Try.prog 87 = true := by kernel_rfl
@[go_sem] theorem ty88_size : sizeT Try.prog 88 = some 1 := by kernel_rfl
@[go_sem] theorem ty88_agg : isAggT Try.prog 88 = some false := by kernel_rfl
@[go_sem] theorem ty88_known : knownT Try.prog 88 = true := by kernel_rfl
@[go_sem] theorem ty88_ptr : isPtrT Try.prog 88 = true := by kernel_rfl
@[go_sem] theorem ty88_bytes : bytesT Try.prog 88 = some 8 := by kernel_rfl
@[go_sem] theorem ty88_zero : zeroC Try.prog 88 = some [.val (.pointer none)] := by kernel_rfl
@[go_sem] theorem ty88_alloc : allocC Try.prog 88 = some [.val (.pointer none)] := by kernel_rfl
@[go_sem] theorem ty89_fn : isFnT Try.prog 89 = true := by kernel_rfl
@[go_sem] theorem ty90_fn : isFnT Try.prog 90 = true := by kernel_rfl
@[go_sem] theorem ty91_fn : isFnT Try.prog 91 = true := by kernel_rfl
@[go_sem] theorem ty92_fn : isFnT Try.prog 92 = true := by kernel_rfl
@[go_sem] theorem ty93_size : sizeT Try.prog 93 = some 1 := by kernel_rfl
@[go_sem] theorem ty93_agg : isAggT Try.prog 93 = some false := by kernel_rfl
@[go_sem] theorem ty93_known : knownT Try.prog 93 = true := by kernel_rfl
@[go_sem] theorem ty93_ptr : isPtrT Try.prog 93 = true := by kernel_rfl
@[go_sem] theorem ty93_bytes : bytesT Try.prog 93 = some 8 := by kernel_rfl
@[go_sem] theorem ty93_zero : zeroC Try.prog 93 = some [.val (.pointer none)] := by kernel_rfl
@[go_sem] theorem ty93_alloc : allocC Try.prog 93 = some [.val (.pointer none)] := by kernel_rfl
@[go_sem] theorem ty94_fn : isFnT Try.prog 94 = true := by kernel_rfl
@[go_sem] theorem ty95_fn : isFnT Try.prog 95 = true := by kernel_rfl
@[go_sem] theorem ty96_size : sizeT Try.prog 96 = some 3 := by kernel_rfl
@[go_sem] theorem ty96_agg : isAggT Try.prog 96 = some true := by kernel_rfl
@[go_sem] theorem ty96_known : knownT Try.prog 96 = true := by kernel_rfl
@[go_sem] theorem ty96_f0 : fldT Try.prog 96 0 = some (0, 53, 1) := by kernel_rfl
@[go_sem] theorem ty96_f1 : fldT Try.prog 96 1 = some (1, 3, 1) := by kernel_rfl
@[go_sem] theorem ty96_f2 : fldT Try.prog 96 2 = some (2, 3, 1) := by kernel_rfl
@[go_sem] theorem ty96_lay : layT Try.prog 96 = some (.str [(0, 1), (1, 1), (2, 1)]) := by kernel_rfl
@[go_sem] theorem ty96_bytes : bytesT Try.prog 96 = some 40 := by kernel_rfl
@[go_sem] theorem ty96_zero : zeroC Try.prog 96 = some [.lst .full (some true) 1 [], .val (.int .i64 0), .val (.int .i64 0)] := by kernel_rfl
@[go_sem] theorem ty96_alloc : allocC Try.prog 96 = some [.lst .full (some true) 1 [], .val (.int .i64 0), .val (.int .i64 0)] := by kernel_rfl
@[go_sem] theorem ty97_size : sizeT Try.prog 97 = some 3 := by kernel_rfl
@[go_sem] theorem ty97_agg : isAggT Try.prog 97 = some true := by kernel_rfl
@[go_sem] theorem ty97_known : knownT Try.prog 97 = true := by kernel_rfl
@[go_sem] theorem ty97_f0 : fldT Try.prog 97 0 = some (0, 53, 1) := by kernel_rfl
@[go_sem] theorem ty97_f1 : fldT Try.prog 97 1 = some (1, 3, 1) := by kernel_rfl
@[go_sem] theorem ty97_f2 : fldT Try.prog 97 2 = some (2, 3, 1) := by kernel_rfl
@[go_sem] theorem ty97_lay : layT Try.prog 97 = some (.str [(0, 1), (1, 1), (2, 1)]) := by kernel_rfl
@[go_sem] theorem ty97_bytes : bytesT Try.prog 97 = some 40 := by kernel_rfl
@[go_sem] theorem ty97_zero : zeroC Try.prog 97 = some [.lst .full (some true) 1 [], .val (.int .i64 0), .val (.int .i64 0)] := by kernel_rfl
@[go_sem] theorem ty97_alloc : allocC Try.prog 97 = some [.lst .full (some true) 1 [], .val (.int .i64 0), .val (.int .i64 0)] := by kernel_rfl
@[go_sem] theorem ty98_size : sizeT Try.prog 98 = some 2 := by kernel_rfl
@[go_sem] theorem ty98_agg : isAggT Try.prog 98 = some true := by kernel_rfl
@[go_sem] theorem ty98_known : knownT Try.prog 98 = true := by kernel_rfl
@[go_sem] theorem ty98_f0 : fldT Try.prog 98 0 = some (0, 3, 1) := by kernel_rfl
@[go_sem] theorem ty98_f1 : fldT Try.prog 98 1 = some (1, 53, 1) := by kernel_rfl
@[go_sem] theorem ty98_lay : layT Try.prog 98 = some (.str [(0, 1), (1, 1)]) := by kernel_rfl
@[go_sem] theorem ty98_bytes : bytesT Try.prog 98 = some 32 := by kernel_rfl
@[go_sem] theorem ty98_zero : zeroC Try.prog 98 = some [.val (.int .i64 0), .lst .full (some true) 1 []] := by kernel_rfl
@[go_sem] theorem ty98_alloc : allocC Try.prog 98 = some [.val (.int .i64 0), .lst .full (some true) 1 []] := by kernel_rfl
@[go_sem] theorem ty99_size : sizeT Try.prog 99 = some 2 := by kernel_rfl
@[go_sem] theorem ty99_agg : isAggT Try.prog 99 = some true := by kernel_rfl
@[go_sem] theorem ty99_known : knownT Try.prog 99 = true := by kernel_rfl
@[go_sem] theorem ty99_f0 : fldT Try.prog 99 0 = some (0, 3, 1) := by kernel_rfl
@[go_sem] theorem ty99_f1 : fldT Try.prog 99 1 = some (1, 53, 1) := by kernel_rfl
@[go_sem] theorem ty99_lay : layT Try.prog 99 = some (.str [(0, 1), (1, 1)]) := by kernel_rfl
@[go_sem] theorem ty99_bytes : bytesT Try.prog 99 = some 32 := by kernel_rfl
@[go_sem] theorem ty99_zero : zeroC Try.prog 99 = some [.val (.int .i64 0), .lst .full (some true) 1 []] := by kernel_rfl
@[go_sem] theorem ty99_alloc : allocC Try.prog 99 = some [.val (.int .i64 0), .lst .full (some true) 1 []] := by kernel_rfl
@[go_sem] theorem ty101_fn : isFnT Try.prog 101 = true := by kernel_rfl
@[go_sem] theorem ty102_fn : isFnT Try.prog 102 = true := by kernel_rfl
@[go_sem] theorem ty103_fn : isFnT Try.prog 103 = true := by kernel_rfl
@[go_sem] theorem ty104_size : sizeT Try.prog 104 = some 1 := by kernel_rfl
@[go_sem] theorem ty104_agg : isAggT Try.prog 104 = some false := by kernel_rfl
@[go_sem] theorem ty104_known : knownT Try.prog 104 = true := by kernel_rfl
@[go_sem] theorem ty104_ptr : isPtrT Try.prog 104 = true := by kernel_rfl
@[go_sem] theorem ty104_bytes : bytesT Try.prog 104 = some 8 := by kernel_rfl
@[go_sem] theorem ty104_zero : zeroC Try.prog 104 = some [.val (.pointer none)] := by kernel_rfl
@[go_sem] theorem ty104_alloc : allocC Try.prog 104 = some [.val (.pointer none)] := by kernel_rfl
@[go_sem] theorem ty105_fn : isFnT Try.prog 105 = true := by kernel_rfl
@[go_sem] theorem ty106_fn : isFnT Try.prog 106 = true := by kernel_rfl
@[go_sem] theorem ty107_fn : isFnT Try.prog 107 = true := by kernel_rfl
@[go_sem] theorem ty108_size : sizeT Try.prog 108 = some 1 := by kernel_rfl
@[go_sem] theorem ty108_agg : isAggT Try.prog 108 = some true := by kernel_rfl
@[go_sem] theorem ty108_known : knownT Try.prog 108 = true := by kernel_rfl
@[go_sem] theorem ty108_f0 : fldT Try.prog 108 0 = some (0, 22, 1) := by kernel_rfl
@[go_sem] theorem ty108_lay : layT Try.prog 108 = some (.str [(0, 1)]) := by kernel_rfl
@[go_sem] theorem ty108_bytes : bytesT Try.prog 108 = some 24 := by kernel_rfl
@[go_sem] theorem ty108_zero : zeroC Try.prog 108 = some [.lst .full (some true) 1 []] := by kernel_rfl
@[go_sem] theorem ty108_alloc : allocC Try.prog 108 = some [.lst .full (some true) 1 []] := by kernel_rfl
@[go_sem] theorem ty109_size : sizeT Try.prog 109 = some 1 := by kernel_rfl
@[go_sem] theorem ty109_agg : isAggT Try.prog 109 = some true := by kernel_rfl
@[go_sem] theorem ty109_known : knownT Try.prog 109 = true := by kernel_rfl
@[go_sem] theorem ty109_f0 : fldT Try.prog 109 0 = some (0, 22, 1) := by kernel_rfl
@[go_sem] theorem ty109_lay : layT Try.prog 109 = some (.str [(0, 1)]) := by kernel_rfl
@[go_sem] theorem ty109_bytes : bytesT Try.prog 109 = some 24 := by kernel_rfl
@[go_sem] theorem ty109_zero : zeroC Try.prog 109 = some [.lst .full (some true) 1 []] := by kernel_rfl
@[go_sem] theorem ty109_alloc : allocC Try.prog 109 = some [.lst .full (some true) 1 []] := by kernel_rfl
@[go_sem] theorem ty110_fn : isFnT Try.prog 110 = true := by kernel_rfl
@[go_sem] theorem ty111_fn : isFnT Try.prog 111 = true := by kernel_rfl
@[go_sem] theorem ty112_size : sizeT Try.prog 112 = some 2 := by kernel_rfl
@[go_sem] theorem ty112_agg : isAggT Try.prog 112 = some true := by kernel_rfl
@[go_sem] theorem ty112_known : knownT Try.prog 112 = true := by kernel_rfl
@[go_sem] theorem ty112_f0 : fldT Try.prog 112 0 = some (0, 22, 1) := by kernel_rfl
@[go_sem] theorem ty112_f1 : fldT Try.prog 112 1 = some (1, 35, 1) := by kernel_rfl
@[go_sem] theorem ty112_lay : layT Try.prog 112 = some (.str [(0, 1), (1, 1)]) := by kernel_rfl
@[go_sem] theorem ty112_bytes : bytesT Try.prog 112 = some 32 := by kernel_rfl
@[go_sem] theorem ty112_zero : zeroC Try.prog 112 = some [.lst .full (some true) 1 [], .val (.int .i64 0)] := by kernel_rfl
@[go_sem] theorem ty112_alloc : allocC Try.prog 112 = some [.lst .full (some true) 1 [], .val (.int .i64 0)] := by kernel_rfl
@[go_sem] theorem ty113_size : sizeT Try.prog 113 = some 2 := by kernel_rfl
@[go_sem] theorem ty113_agg : isAggT Try.prog 113 = some true := by kernel_rfl
@[go_sem] theorem ty113_known : knownT Try.prog 113 = true := by kernel_rfl
@[go_sem] theorem ty113_f0 : fldT Try.prog 113 0 = some (0, 22, 1) := by kernel_rfl
@[go_sem] theorem ty113_f1 : fldT Try.prog 113 1 = some (1, 35, 1) := by kernel_rfl
@[go_sem] theorem ty113_lay : layT Try.prog 113 = some (.str [(0, 1), (1, 1)]) := by kernel_rfl
@[go_sem] theorem ty113_bytes : bytesT Try.prog 113 = some 32 := by kernel_rfl
@[go_sem] theorem ty113_zero : zeroC Try.prog 113 = some [.lst .full (some true) 1 [], .val (.int .i64 0)] := by kernel_rfl
@[go_sem] theorem ty113_alloc : allocC Try.prog 113 = some [.lst .full (some true) 1 [], .val (.int .i64 0)] := by kernel_rfl
@[go_sem] theorem ty114_fn : isFnT Try.prog 114 = true := by kernel_rfl
@[go_sem] theorem ty115_size : sizeT Try.prog 115 = some 1 := by kernel_rfl
@[go_sem] theorem ty115_agg : isAggT Try.prog 115 = some false := by kernel_rfl
@[go_sem] theorem ty115_known : knownT Try.prog 115 = true := by kernel_rfl
@[go_sem] theorem ty115_ptr : isPtrT Try.prog 115 = true := by kernel_rfl
@[go_sem] theorem ty115_bytes : bytesT Try.prog 115 = some 8 := by kernel_rfl
@[go_sem] theorem ty115_zero : zeroC Try.prog 115 = some [.val (.pointer none)] := by kernel_rfl
@[go_sem] theorem ty115_alloc : allocC Try.prog 115 = some [.val (.pointer none)] := by kernel_rfl
@[go_sem] theorem ty116_size : sizeT Try.prog 116 = some 2 := by kernel_rfl
@[go_sem] theorem ty116_agg : isAggT Try.prog 116 = some true := by kernel_rfl
@[go_sem] theorem ty116_known : knownT Try.prog 116 = true := by kernel_rfl
@[go_sem] theorem ty116_f0 : fldT Try.prog 116 0 = some (0, 22, 1) := by kernel_rfl
@[go_sem] theorem ty116_f1 : fldT Try.prog 116 1 = some (1, 3, 1) := by kernel_rfl
@[go_sem] theorem ty116_lay : layT Try.prog 116 = some (.str [(0, 1), (1, 1)]) := by kernel_rfl
@[go_sem] theorem ty116_bytes : bytesT Try.prog 116 = some 32 := by kernel_rfl
@[go_sem] theorem ty116_zero : zeroC Try.prog 116 = some [.lst .full (some true) 1 [], .val (.int .i64 0)] := by kernel_rfl
@[go_sem] theorem ty116_alloc : allocC Try.prog 116 = some [.lst .full (some true) 1 [], .val (.int .i64 0)] := by kernel_rfl
@[go_sem] theorem ty117_size : sizeT Try.prog 117 = some 2 := by kernel_rfl
@[go_sem] theorem ty117_agg : isAggT Try.prog 117 = some true := by kernel_rfl
@[go_sem] theorem ty117_known : knownT Try.prog 117 = true := by kernel_rfl
@[go_sem] theorem ty117_f0 : fldT Try.prog 117 0 = some (0, 22, 1) := by kernel_rfl
@[go_sem] theorem ty117_f1 : fldT Try.prog 117 1 = some (1, 3, 1) := by kernel_rfl
@[go_sem] theorem ty117_lay : layT Try.prog 117 = some (.str [(0, 1), (1, 1)]) := by kernel_rfl
@[go_sem] theorem ty117_bytes : bytesT Try.prog 117 = some 32 := by kernel_rfl
@[go_sem] theorem ty117_zero : zeroC Try.prog 117 = some [.lst .full (some true) 1 [], .val (.int .i64 0)] := by kernel_rfl
@[go_sem] theorem ty117_alloc : allocC Try.prog 117 = some [.lst .full (some true) 1 [], .val (.int .i64 0)] := by kernel_rfl
@[go_sem] theorem ty118_fn : isFnT Try.prog 118 = true := by kernel_rfl
@[go_sem] theorem ty119_fn : isFnT Try.prog 119 = true := by kernel_rfl
@[go_sem] theorem ty120_fn : isFnT Try.prog 120 = true := by kernel_rfl
@[go_sem] theorem ty121_fn : isFnT Try.prog 121 = true := by kernel_rfl
@[go_sem] theorem ty122_fn : isFnT Try.prog 122 = true := by kernel_rfl
@[go_sem] theorem ty123_fn : isFnT Try.prog 123 = true := by kernel_rfl
@[go_sem] theorem ty124_fn : isFnT Try.prog 124 = true := by kernel_rfl
@[go_sem] theorem ty125_size : sizeT Try.prog 125 = some 4 := by kernel_rfl
@[go_sem] theorem ty125_agg : isAggT Try.prog 125 = some true := by kernel_rfl
@[go_sem] theorem ty125_known : knownT Try.prog 125 = true := by kernel_rfl
@[go_sem] theorem ty125_f0 : fldT Try.prog 125 0 = some (0, 17, 1) := by kernel_rfl
@[go_sem] theorem ty125_f1 : fldT Try.prog 125 1 = some (1, 17, 1) := by kernel_rfl
@[go_sem] theorem ty125_f2 : fldT Try.prog 125 2 = some (2, 17, 1) := by kernel_rfl
@[go_sem] theorem ty125_f3 : fldT Try.prog 125 3 = some (3, 9, 1) := by kernel_rfl
@[go_sem] theorem ty125_lay : layT Try.prog 125 = some (.str [(0, 1), (1, 1), (2, 1), (3, 1)]) := by kernel_rfl
@[go_sem] theorem ty125_bytes : bytesT Try.prog 125 = some 40 := by kernel_rfl
@[go_sem] theorem ty125_zero : zeroC Try.prog 125 = some [.val (.pointer none), .val (.pointer none), .val (.pointer none), .val (.string ⟨#[]⟩)] := by kernel_rfl
@[go_sem] theorem ty125_alloc : allocC Try.prog 125 = some [.val (.pointer none), .val (.pointer none), .val (.pointer none), .val (.string ⟨#[]⟩)] := by kernel_rfl
@[go_sem] theorem ty127_size : sizeT Try.prog 127 = some 0 := by kernel_rfl
@[go_sem] theorem ty127_agg : isAggT Try.prog 127 = some true := by kernel_rfl
@[go_sem] theorem ty127_known : knownT Try.prog 127 = true := by kernel_rfl
@[go_sem] theorem ty127_idx : idxT Try.prog 127 = some (some 0, 16, 1) := by kernel_rfl
@[go_sem] theorem ty127_lay : layT Try.prog 127 = some (.arr 1) := by kernel_rfl
@[go_sem] theorem ty127_bytes : bytesT Try.prog 127 = some 0 := by kernel_rfl
@[go_sem] theorem ty127_zero : zeroC Try.prog 127 = some [] := by kernel_rfl
@[go_sem] theorem ty127_alloc : allocC Try.prog 127 = some [] := by kernel_rfl
theorem ty127_und : ∃ q, Try.prog.underlying 127 = some (.array q.1 q.2) ∧ q = (0, 16) := ⟨(0, 16), by kernel_rfl, rfl⟩
@[go_sem] theorem ty128_size : sizeT Try.prog 128 = some 0 := by kernel_rfl
@[go_sem] theorem ty128_agg : isAggT Try.prog 128 = some true := by kernel_rfl
@[go_sem] theorem ty128_known : knownT Try.prog 128 = true := by kernel_rfl
@[go_sem] theorem ty128_f0 : fldT Try.prog 128 0 = some (0, 127, 0) := by kernel_rfl
@[go_sem] theorem ty128_lay : layT Try.prog 128 = some (.str [(0, 0)]) := by kernel_rfl
@[go_sem] theorem ty128_bytes : bytesT Try.prog 128 = some 0 := by kernel_rfl
@[go_sem] theorem ty128_zero : zeroC Try.prog 128 = some [] := by kernel_rfl
@[go_sem] theorem ty128_alloc : allocC Try.prog 128 = some [] := by kernel_rfl
@[go_sem] theorem ty132_fn : isFnT Try.prog 132 = true := by kernel_rfl
@[go_sem] theorem ty133_size : sizeT Try.prog 133 = some 1 := by kernel_rfl
@[go_sem] theorem ty133_agg : isAggT Try.prog 133 = some false := by kernel_rfl
@[go_sem] theorem ty133_known : knownT Try.prog 133 = true := by kernel_rfl
@[go_sem] theorem ty133_ptr : isPtrT Try.prog 133 = true := by kernel_rfl
@[go_sem] theorem ty133_bytes : bytesT Try.prog 133 = some 8 := by kernel_rfl
@[go_sem] theorem ty133_zero : zeroC Try.prog 133 = some [.val (.pointer none)] := by kernel_rfl
@[go_sem] theorem ty133_alloc : allocC Try.prog 133 = some [.val (.pointer none)] := by kernel_rfl
@[go_sem] theorem ty136_size : sizeT Try.prog 136 = some 11 := by kernel_rfl
@[go_sem] theorem ty136_agg : isAggT Try.prog 136 = some true := by kernel_rfl
@[go_sem] theorem ty136_known : knownT Try.prog 136 = true := by kernel_rfl
@[go_sem] theorem ty136_f0 : fldT Try.prog 136 0 = some (0, 12, 1) := by kernel_rfl
@[go_sem] theorem ty136_f1 : fldT Try.prog 136 1 = some (1, 12, 1) := by kernel_rfl
@[go_sem] theorem ty136_f2 : fldT Try.prog 136 2 = some (2, 62, 1) := by kernel_rfl
@[go_sem] theorem ty136_f3 : fldT Try.prog 136 3 = some (3, 130, 1) := by kernel_rfl
@[go_sem] theorem ty136_f4 : fldT Try.prog 136 4 = some (4, 5, 1) := by kernel_rfl
@[go_sem] theorem ty136_f5 : fldT Try.prog 136 5 = some (5, 5, 1) := by kernel_rfl
@[go_sem] theorem ty136_f6 : fldT Try.prog 136 6 = some (6, 131, 1) := by kernel_rfl
@[go_sem] theorem ty136_f7 : fldT Try.prog 136 7 = some (7, 132, 1) := by kernel_rfl
@[go_sem] theorem ty136_f8 : fldT Try.prog 136 8 = some (8, 133, 1) := by kernel_rfl
@[go_sem] theorem ty136_f9 : fldT Try.prog 136 9 = some (9, 134, 1) := by kernel_rfl
@[go_sem] theorem ty136_f10 : fldT Try.prog 136 10 = some (10, 135, 1) := by kernel_rfl
@[go_sem] theorem ty136_lay : layT Try.prog 136 = some (.str [(0, 1), (1, 1), (2, 1), (3, 1), (4, 1), (5, 1), (6, 1), (7, 1), (8, 1), (9, 1), (10, 1)]) := by kernel_rfl
@[go_sem] theorem ty136_bytes : bytesT Try.prog 136 = some 48 := by kernel_rfl
@[go_sem] theorem ty136_zero : zeroC Try.prog 136 = some [.val (.int .u64 0), .val (.int .u64 0), .val (.int .u32 0), .val (.int .u8 0), .val (.int .u8 0), .val (.int .u8 0), .val (.int .u8 0), .val (.nilFunc), .val (.pointer none), .val (.int .i32 0), .val (.int .i32 0)] := by kernel_rfl
@[go_sem] theorem ty136_alloc : allocC Try.prog 136 = some [.val (.int .u64 0), .val (.int .u64 0), .val (.int .u32 0), .val (.int .u8 0), .val (.int .u8 0), .val (.int .u8 0), .val (.int .u8 0), .val (.nilFunc), .val (.pointer none), .val (.int .i32 0), .val (.int .i32 0)] := by kernel_rfl
@[go_sem] theorem ty138_size : sizeT Try.prog 138 = some 1 := by kernel_rfl
@[go_sem] theorem ty138_agg : isAggT Try.prog 138 = some false := by kernel_rfl
@[go_sem] theorem ty138_known : knownT Try.prog 138 = true := by kernel_rfl
@[go_sem] theorem ty138_bytes : bytesT Try.prog 138 = some 8 := by kernel_rfl
@[go_sem] theorem ty138_zero : zeroC Try.prog 138 = some [.val (.pointer none)] := by kernel_rfl
@[go_sem] theorem ty138_alloc : allocC Try.prog 138 = some [.val (.pointer none)] := by kernel_rfl
end Go.Proofs.Ytfjcflmhboepmaa
