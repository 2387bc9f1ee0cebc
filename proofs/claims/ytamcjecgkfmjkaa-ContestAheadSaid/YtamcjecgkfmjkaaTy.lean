/- What the logic asks of the types of this program. -/
import Derived.Test.YtamcjecgkfmjkaaProg
import Derived.Test.YtamcjecgkfmjkaaAwN
open Go Go.RowKit
namespace Go.Proofs.Ytamcjecgkfmjkaa
theorem mixed : Try.prog.follows .mixedOrders = true := by kernel_rfl
@[go_sem] theorem ty1_fn : isFnT Try.prog 1 = true := by kernel_rfl
@[go_sem] theorem ty1_size : sizeT Try.prog 1 = some 1 := by kernel_rfl
@[go_sem] theorem ty1_agg : isAggT Try.prog 1 = some false := by kernel_rfl
@[go_sem] theorem ty2_size : sizeT Try.prog 2 = some 1 := by kernel_rfl
@[go_sem] theorem ty2_agg : isAggT Try.prog 2 = some false := by kernel_rfl
@[go_sem] theorem ty2_known : knownT Try.prog 2 = true := by kernel_rfl
@[go_sem] theorem ty2_kind : kindT Try.prog 2 = some .i64 := by kernel_rfl
@[go_sem] theorem ty2_isint : isIntT Try.prog 2 = true := by kernel_rfl
@[go_sem] theorem ty2_bytes : bytesT Try.prog 2 = some 8 := by kernel_rfl
@[go_sem] theorem ty2_zero : zeroC Try.prog 2 = some [.val (.int .i64 0)] := by kernel_rfl
@[go_sem] theorem ty2_alloc : allocC Try.prog 2 = some [.val (.int .i64 0)] := by kernel_rfl
@[go_sem] theorem ty3_size : sizeT Try.prog 3 = some 1 := by kernel_rfl
@[go_sem] theorem ty3_agg : isAggT Try.prog 3 = some false := by kernel_rfl
@[go_sem] theorem ty3_known : knownT Try.prog 3 = true := by kernel_rfl
@[go_sem] theorem ty3_kind : kindT Try.prog 3 = some .i64 := by kernel_rfl
@[go_sem] theorem ty3_isint : isIntT Try.prog 3 = true := by kernel_rfl
@[go_sem] theorem ty3_bytes : bytesT Try.prog 3 = some 8 := by kernel_rfl
@[go_sem] theorem ty3_zero : zeroC Try.prog 3 = some [.val (.int .i64 0)] := by kernel_rfl
@[go_sem] theorem ty3_alloc : allocC Try.prog 3 = some [.val (.int .i64 0)] := by kernel_rfl
@[go_sem] theorem ty4_size : sizeT Try.prog 4 = some 1 := by kernel_rfl
@[go_sem] theorem ty4_agg : isAggT Try.prog 4 = some false := by kernel_rfl
@[go_sem] theorem ty4_known : knownT Try.prog 4 = true := by kernel_rfl
@[go_sem] theorem ty4_bool : isBoolT Try.prog 4 = true := by kernel_rfl
@[go_sem] theorem ty4_bytes : bytesT Try.prog 4 = some 1 := by kernel_rfl
@[go_sem] theorem ty4_zero : zeroC Try.prog 4 = some [.val (.bool false)] := by kernel_rfl
@[go_sem] theorem ty4_alloc : allocC Try.prog 4 = some [.val (.bool false)] := by kernel_rfl
@[go_sem] theorem ty5_size : sizeT Try.prog 5 = some 1 := by kernel_rfl
@[go_sem] theorem ty5_agg : isAggT Try.prog 5 = some false := by kernel_rfl
@[go_sem] theorem ty5_known : knownT Try.prog 5 = true := by kernel_rfl
@[go_sem] theorem ty5_kind : kindT Try.prog 5 = some .u8 := by kernel_rfl
@[go_sem] theorem ty5_isint : isIntT Try.prog 5 = true := by kernel_rfl
@[go_sem] theorem ty5_bytes : bytesT Try.prog 5 = some 1 := by kernel_rfl
@[go_sem] theorem ty5_zero : zeroC Try.prog 5 = some [.val (.int .u8 0)] := by kernel_rfl
@[go_sem] theorem ty5_alloc : allocC Try.prog 5 = some [.val (.int .u8 0)] := by kernel_rfl
@[go_sem] theorem ty7_size : sizeT Try.prog 7 = some 4 := by kernel_rfl
@[go_sem] theorem ty7_agg : isAggT Try.prog 7 = some true := by kernel_rfl
@[go_sem] theorem ty7_known : knownT Try.prog 7 = true := by kernel_rfl
@[go_sem] theorem ty7_flat : flatT Try.prog 7 = some (List.replicate 1 (some .i64) ++ List.replicate 1 (some .i64) ++ List.replicate 1 (none) ++ List.replicate 1 (some .u8)) := by kernel_rfl
@[go_sem] theorem ty7_f0 : fldT Try.prog 7 0 = some (0, 2, 1) := by kernel_rfl
@[go_sem] theorem ty7_f1 : fldT Try.prog 7 1 = some (1, 3, 1) := by kernel_rfl
@[go_sem] theorem ty7_f2 : fldT Try.prog 7 2 = some (2, 4, 1) := by kernel_rfl
@[go_sem] theorem ty7_f3 : fldT Try.prog 7 3 = some (3, 6, 1) := by kernel_rfl
@[go_sem] theorem ty7_lay : layT Try.prog 7 = some (.str [(0, 1), (1, 1), (2, 1), (3, 1)]) := by kernel_rfl
@[go_sem] theorem ty7_bytes : bytesT Try.prog 7 = some 24 := by kernel_rfl
@[go_sem] theorem ty7_zero : zeroC Try.prog 7 = some [.val (.int .i64 0), .val (.int .i64 0), .val (.bool false), .val (.int .u8 0)] := by kernel_rfl
@[go_sem] theorem ty7_alloc : allocC Try.prog 7 = some [.val (.int .i64 0), .val (.int .i64 0), .val (.bool false), .val (.int .u8 0)] := by kernel_rfl
@[go_sem] theorem ty9_size : sizeT Try.prog 9 = some 1 := by kernel_rfl
@[go_sem] theorem ty9_agg : isAggT Try.prog 9 = some false := by kernel_rfl
@[go_sem] theorem ty9_known : knownT Try.prog 9 = true := by kernel_rfl
@[go_sem] theorem ty9_str : isStrT Try.prog 9 = true := by kernel_rfl
@[go_sem] theorem ty9_sb : sbT Try.prog 9 = some false := by kernel_rfl
@[go_sem] theorem ty9_bytes : bytesT Try.prog 9 = some 16 := by kernel_rfl
@[go_sem] theorem ty9_zero : zeroC Try.prog 9 = some [.val (.string ⟨#[]⟩)] := by kernel_rfl
@[go_sem] theorem ty9_alloc : allocC Try.prog 9 = some [.val (.string ⟨#[]⟩)] := by kernel_rfl
@[go_sem] theorem ty12_size : sizeT Try.prog 12 = some 1 := by kernel_rfl
@[go_sem] theorem ty12_agg : isAggT Try.prog 12 = some false := by kernel_rfl
@[go_sem] theorem ty12_known : knownT Try.prog 12 = true := by kernel_rfl
@[go_sem] theorem ty12_kind : kindT Try.prog 12 = some .u64 := by kernel_rfl
@[go_sem] theorem ty12_isint : isIntT Try.prog 12 = true := by kernel_rfl
@[go_sem] theorem ty12_bytes : bytesT Try.prog 12 = some 8 := by kernel_rfl
@[go_sem] theorem ty12_zero : zeroC Try.prog 12 = some [.val (.int .u64 0)] := by kernel_rfl
@[go_sem] theorem ty12_alloc : allocC Try.prog 12 = some [.val (.int .u64 0)] := by kernel_rfl
@[go_sem] theorem ty13_size : sizeT Try.prog 13 = some 2 := by kernel_rfl
@[go_sem] theorem ty13_agg : isAggT Try.prog 13 = some true := by kernel_rfl
@[go_sem] theorem ty13_known : knownT Try.prog 13 = true := by kernel_rfl
@[go_sem] theorem ty13_f0 : fldT Try.prog 13 0 = some (0, 9, 1) := by kernel_rfl
@[go_sem] theorem ty13_f1 : fldT Try.prog 13 1 = some (1, 12, 1) := by kernel_rfl
@[go_sem] theorem ty13_lay : layT Try.prog 13 = some (.str [(0, 1), (1, 1)]) := by kernel_rfl
@[go_sem] theorem ty13_bytes : bytesT Try.prog 13 = some 24 := by kernel_rfl
@[go_sem] theorem ty13_zero : zeroC Try.prog 13 = some [.val (.string ⟨#[]⟩), .val (.int .u64 0)] := by kernel_rfl
@[go_sem] theorem ty13_alloc : allocC Try.prog 13 = some [.val (.string ⟨#[]⟩), .val (.int .u64 0)] := by kernel_rfl
@[go_sem] theorem ty15_size : sizeT Try.prog 15 = some 1 := by kernel_rfl
@[go_sem] theorem ty15_agg : isAggT Try.prog 15 = some false := by kernel_rfl
@[go_sem] theorem ty15_known : knownT Try.prog 15 = true := by kernel_rfl
@[go_sem] theorem ty15_ptr : isPtrT Try.prog 15 = true := by kernel_rfl
@[go_sem] theorem ty15_bytes : bytesT Try.prog 15 = some 8 := by kernel_rfl
@[go_sem] theorem ty15_zero : zeroC Try.prog 15 = some [.val (.pointer none)] := by kernel_rfl
@[go_sem] theorem ty15_alloc : allocC Try.prog 15 = some [.val (.pointer none)] := by kernel_rfl
@[go_sem] theorem ty16_size : sizeT Try.prog 16 = some 1 := by kernel_rfl
@[go_sem] theorem ty16_agg : isAggT Try.prog 16 = some false := by kernel_rfl
@[go_sem] theorem ty16_known : knownT Try.prog 16 = true := by kernel_rfl
@[go_sem] theorem ty16_ptr : isPtrT Try.prog 16 = true := by kernel_rfl
@[go_sem] theorem ty16_bytes : bytesT Try.prog 16 = some 8 := by kernel_rfl
@[go_sem] theorem ty16_zero : zeroC Try.prog 16 = some [.val (.pointer none)] := by kernel_rfl
@[go_sem] theorem ty16_alloc : allocC Try.prog 16 = some [.val (.pointer none)] := by kernel_rfl
@[go_sem] theorem ty17_size : sizeT Try.prog 17 = some 1 := by kernel_rfl
@[go_sem] theorem ty17_agg : isAggT Try.prog 17 = some false := by kernel_rfl
@[go_sem] theorem ty17_known : knownT Try.prog 17 = true := by kernel_rfl
@[go_sem] theorem ty17_ptr : isPtrT Try.prog 17 = true := by kernel_rfl
@[go_sem] theorem ty17_bytes : bytesT Try.prog 17 = some 8 := by kernel_rfl
@[go_sem] theorem ty17_zero : zeroC Try.prog 17 = some [.val (.pointer none)] := by kernel_rfl
@[go_sem] theorem ty17_alloc : allocC Try.prog 17 = some [.val (.pointer none)] := by kernel_rfl
@[go_sem] theorem ty18_size : sizeT Try.prog 18 = some 1 := by kernel_rfl
@[go_sem] theorem ty18_agg : isAggT Try.prog 18 = some true := by kernel_rfl
@[go_sem] theorem ty18_known : knownT Try.prog 18 = true := by kernel_rfl
@[go_sem] theorem ty18_f0 : fldT Try.prog 18 0 = some (0, 17, 1) := by kernel_rfl
@[go_sem] theorem ty18_lay : layT Try.prog 18 = some (.str [(0, 1)]) := by kernel_rfl
@[go_sem] theorem ty18_bytes : bytesT Try.prog 18 = some 8 := by kernel_rfl
@[go_sem] theorem ty18_zero : zeroC Try.prog 18 = some [.val (.pointer none)] := by kernel_rfl
@[go_sem] theorem ty18_alloc : allocC Try.prog 18 = some [.val (.pointer none)] := by kernel_rfl
@[go_sem] theorem ty19_size : sizeT Try.prog 19 = some 1 := by kernel_rfl
@[go_sem] theorem ty19_agg : isAggT Try.prog 19 = some true := by kernel_rfl
@[go_sem] theorem ty19_known : knownT Try.prog 19 = true := by kernel_rfl
@[go_sem] theorem ty19_f0 : fldT Try.prog 19 0 = some (0, 17, 1) := by kernel_rfl
@[go_sem] theorem ty19_lay : layT Try.prog 19 = some (.str [(0, 1)]) := by kernel_rfl
@[go_sem] theorem ty19_bytes : bytesT Try.prog 19 = some 8 := by kernel_rfl
@[go_sem] theorem ty19_zero : zeroC Try.prog 19 = some [.val (.pointer none)] := by kernel_rfl
@[go_sem] theorem ty19_alloc : allocC Try.prog 19 = some [.val (.pointer none)] := by kernel_rfl
@[go_sem] theorem ty20_ifc : isIfcT Try.prog 20 = true := by kernel_rfl
@[go_sem] theorem ty21_size : sizeT Try.prog 21 = some 1 := by kernel_rfl
@[go_sem] theorem ty21_agg : isAggT Try.prog 21 = some false := by kernel_rfl
@[go_sem] theorem ty21_known : knownT Try.prog 21 = true := by kernel_rfl
@[go_sem] theorem ty21_kind : kindT Try.prog 21 = some .i32 := by kernel_rfl
@[go_sem] theorem ty21_isint : isIntT Try.prog 21 = true := by kernel_rfl
@[go_sem] theorem ty21_bytes : bytesT Try.prog 21 = some 4 := by kernel_rfl
@[go_sem] theorem ty21_zero : zeroC Try.prog 21 = some [.val (.int .i32 0)] := by kernel_rfl
@[go_sem] theorem ty21_alloc : allocC Try.prog 21 = some [.val (.int .i32 0)] := by kernel_rfl
@[go_sem] theorem ty22_size : sizeT Try.prog 22 = some 1 := by kernel_rfl
@[go_sem] theorem ty22_agg : isAggT Try.prog 22 = some false := by kernel_rfl
@[go_sem] theorem ty22_known : knownT Try.prog 22 = true := by kernel_rfl
@[go_sem] theorem ty22_slc : isSlcT Try.prog 22 = true := by kernel_rfl
@[go_sem] theorem ty22_idx : idxT Try.prog 22 = some (none, 74, 2) := by kernel_rfl
@[go_sem] theorem ty22_bytes : bytesT Try.prog 22 = some 24 := by kernel_rfl
@[go_sem] theorem ty22_zero : zeroC Try.prog 22 = some [.lst .full (some true) 1 []] := by kernel_rfl
@[go_sem] theorem ty22_alloc : allocC Try.prog 22 = some [.lst .full (some true) 1 []] := by kernel_rfl
@[go_sem] theorem ty23_size : sizeT Try.prog 23 = some 3 := by kernel_rfl
@[go_sem] theorem ty23_agg : isAggT Try.prog 23 = some true := by kernel_rfl
@[go_sem] theorem ty23_known : knownT Try.prog 23 = true := by kernel_rfl
@[go_sem] theorem ty23_f0 : fldT Try.prog 23 0 = some (0, 22, 1) := by kernel_rfl
@[go_sem] theorem ty23_f1 : fldT Try.prog 23 1 = some (1, 3, 1) := by kernel_rfl
@[go_sem] theorem ty23_f2 : fldT Try.prog 23 2 = some (2, 3, 1) := by kernel_rfl
@[go_sem] theorem ty23_lay : layT Try.prog 23 = some (.str [(0, 1), (1, 1), (2, 1)]) := by kernel_rfl
@[go_sem] theorem ty23_bytes : bytesT Try.prog 23 = some 40 := by kernel_rfl
@[go_sem] theorem ty23_zero : zeroC Try.prog 23 = some [.lst .full (some true) 1 [], .val (.int .i64 0), .val (.int .i64 0)] := by kernel_rfl
@[go_sem] theorem ty23_alloc : allocC Try.prog 23 = some [.lst .full (some true) 1 [], .val (.int .i64 0), .val (.int .i64 0)] := by kernel_rfl
@[go_sem] theorem ty24_size : sizeT Try.prog 24 = some 3 := by kernel_rfl
@[go_sem] theorem ty24_agg : isAggT Try.prog 24 = some true := by kernel_rfl
@[go_sem] theorem ty24_known : knownT Try.prog 24 = true := by kernel_rfl
@[go_sem] theorem ty24_f0 : fldT Try.prog 24 0 = some (0, 22, 1) := by kernel_rfl
@[go_sem] theorem ty24_f1 : fldT Try.prog 24 1 = some (1, 3, 1) := by kernel_rfl
@[go_sem] theorem ty24_f2 : fldT Try.prog 24 2 = some (2, 3, 1) := by kernel_rfl
@[go_sem] theorem ty24_lay : layT Try.prog 24 = some (.str [(0, 1), (1, 1), (2, 1)]) := by kernel_rfl
@[go_sem] theorem ty24_bytes : bytesT Try.prog 24 = some 40 := by kernel_rfl
@[go_sem] theorem ty24_zero : zeroC Try.prog 24 = some [.lst .full (some true) 1 [], .val (.int .i64 0), .val (.int .i64 0)] := by kernel_rfl
@[go_sem] theorem ty24_alloc : allocC Try.prog 24 = some [.lst .full (some true) 1 [], .val (.int .i64 0), .val (.int .i64 0)] := by kernel_rfl
@[go_sem] theorem ty25_size : sizeT Try.prog 25 = some 1 := by kernel_rfl
@[go_sem] theorem ty25_agg : isAggT Try.prog 25 = some false := by kernel_rfl
@[go_sem] theorem ty25_known : knownT Try.prog 25 = true := by kernel_rfl
@[go_sem] theorem ty25_slc : isSlcT Try.prog 25 = true := by kernel_rfl
@[go_sem] theorem ty25_idx : idxT Try.prog 25 = some (none, 35, 1) := by kernel_rfl
@[go_sem] theorem ty25_bytes : bytesT Try.prog 25 = some 24 := by kernel_rfl
@[go_sem] theorem ty25_zero : zeroC Try.prog 25 = some [.lst .full (some true) 1 []] := by kernel_rfl
@[go_sem] theorem ty25_alloc : allocC Try.prog 25 = some [.lst .full (some true) 1 []] := by kernel_rfl
@[go_sem] theorem ty26_size : sizeT Try.prog 26 = some 1 := by kernel_rfl
@[go_sem] theorem ty26_agg : isAggT Try.prog 26 = some false := by kernel_rfl
@[go_sem] theorem ty26_known : knownT Try.prog 26 = true := by kernel_rfl
@[go_sem] theorem ty26_slc : isSlcT Try.prog 26 = true := by kernel_rfl
@[go_sem] theorem ty26_idx : idxT Try.prog 26 = some (none, 3, 1) := by kernel_rfl
@[go_sem] theorem ty26_bytes : bytesT Try.prog 26 = some 24 := by kernel_rfl
@[go_sem] theorem ty26_zero : zeroC Try.prog 26 = some [.lst .full (some true) 1 []] := by kernel_rfl
@[go_sem] theorem ty26_alloc : allocC Try.prog 26 = some [.lst .full (some true) 1 []] := by kernel_rfl
@[go_sem] theorem ty27_fn : isFnT Try.prog 27 = true := by kernel_rfl
@[go_sem] theorem ty27_size : sizeT Try.prog 27 = some 1 := by kernel_rfl
@[go_sem] theorem ty27_agg : isAggT Try.prog 27 = some false := by kernel_rfl
@[go_sem] theorem ty28_fn : isFnT Try.prog 28 = true := by kernel_rfl
@[go_sem] theorem ty28_size : sizeT Try.prog 28 = some 1 := by kernel_rfl
@[go_sem] theorem ty28_agg : isAggT Try.prog 28 = some false := by kernel_rfl
@[go_sem] theorem ty29_fn : isFnT Try.prog 29 = true := by kernel_rfl
@[go_sem] theorem ty29_size : sizeT Try.prog 29 = some 1 := by kernel_rfl
@[go_sem] theorem ty29_agg : isAggT Try.prog 29 = some false := by kernel_rfl
@[go_sem] theorem ty30_size : sizeT Try.prog 30 = some 1 := by kernel_rfl
@[go_sem] theorem ty30_agg : isAggT Try.prog 30 = some false := by kernel_rfl
@[go_sem] theorem ty30_known : knownT Try.prog 30 = true := by kernel_rfl
@[go_sem] theorem ty30_ptr : isPtrT Try.prog 30 = true := by kernel_rfl
@[go_sem] theorem ty30_bytes : bytesT Try.prog 30 = some 8 := by kernel_rfl
@[go_sem] theorem ty30_zero : zeroC Try.prog 30 = some [.val (.pointer none)] := by kernel_rfl
@[go_sem] theorem ty30_alloc : allocC Try.prog 30 = some [.val (.pointer none)] := by kernel_rfl
@[go_sem] theorem ty31_size : sizeT Try.prog 31 = some 1 := by kernel_rfl
@[go_sem] theorem ty31_agg : isAggT Try.prog 31 = some false := by kernel_rfl
@[go_sem] theorem ty31_known : knownT Try.prog 31 = true := by kernel_rfl
@[go_sem] theorem ty31_kind : kindT Try.prog 31 = some .i64 := by kernel_rfl
@[go_sem] theorem ty31_isint : isIntT Try.prog 31 = true := by kernel_rfl
@[go_sem] theorem ty31_bytes : bytesT Try.prog 31 = some 8 := by kernel_rfl
@[go_sem] theorem ty31_zero : zeroC Try.prog 31 = some [.val (.int .i64 0)] := by kernel_rfl
@[go_sem] theorem ty31_alloc : allocC Try.prog 31 = some [.val (.int .i64 0)] := by kernel_rfl
@[go_sem] theorem ty33_fn : isFnT Try.prog 33 = true := by kernel_rfl
@[go_sem] theorem ty33_size : sizeT Try.prog 33 = some 1 := by kernel_rfl
@[go_sem] theorem ty33_agg : isAggT Try.prog 33 = some false := by kernel_rfl
@[go_sem] theorem ty34_fn : isFnT Try.prog 34 = true := by kernel_rfl
@[go_sem] theorem ty34_size : sizeT Try.prog 34 = some 1 := by kernel_rfl
@[go_sem] theorem ty34_agg : isAggT Try.prog 34 = some false := by kernel_rfl
@[go_sem] theorem ty35_size : sizeT Try.prog 35 = some 1 := by kernel_rfl
@[go_sem] theorem ty35_agg : isAggT Try.prog 35 = some false := by kernel_rfl
@[go_sem] theorem ty35_known : knownT Try.prog 35 = true := by kernel_rfl
@[go_sem] theorem ty35_kind : kindT Try.prog 35 = some .u16 := by kernel_rfl
@[go_sem] theorem ty35_isint : isIntT Try.prog 35 = true := by kernel_rfl
@[go_sem] theorem ty35_bytes : bytesT Try.prog 35 = some 2 := by kernel_rfl
@[go_sem] theorem ty35_zero : zeroC Try.prog 35 = some [.val (.int .u16 0)] := by kernel_rfl
@[go_sem] theorem ty35_alloc : allocC Try.prog 35 = some [.val (.int .u16 0)] := by kernel_rfl
@[go_sem] theorem ty36_size : sizeT Try.prog 36 = some 6 := by kernel_rfl
@[go_sem] theorem ty36_agg : isAggT Try.prog 36 = some true := by kernel_rfl
@[go_sem] theorem ty36_known : knownT Try.prog 36 = true := by kernel_rfl
@[go_sem] theorem ty36_flat : flatT Try.prog 36 = some (List.replicate 1 (some .i64) ++ List.replicate 1 (some .i64) ++ List.replicate 1 (some .i64) ++ List.replicate 1 (some .i64) ++ List.replicate 1 (some .u16) ++ List.replicate 1 (some .i64)) := by kernel_rfl
@[go_sem] theorem ty36_f0 : fldT Try.prog 36 0 = some (0, 3, 1) := by kernel_rfl
@[go_sem] theorem ty36_f1 : fldT Try.prog 36 1 = some (1, 3, 1) := by kernel_rfl
@[go_sem] theorem ty36_f2 : fldT Try.prog 36 2 = some (2, 3, 1) := by kernel_rfl
@[go_sem] theorem ty36_f3 : fldT Try.prog 36 3 = some (3, 3, 1) := by kernel_rfl
@[go_sem] theorem ty36_f4 : fldT Try.prog 36 4 = some (4, 35, 1) := by kernel_rfl
@[go_sem] theorem ty36_f5 : fldT Try.prog 36 5 = some (5, 3, 1) := by kernel_rfl
@[go_sem] theorem ty36_lay : layT Try.prog 36 = some (.str [(0, 1), (1, 1), (2, 1), (3, 1), (4, 1), (5, 1)]) := by kernel_rfl
@[go_sem] theorem ty36_bytes : bytesT Try.prog 36 = some 48 := by kernel_rfl
@[go_sem] theorem ty36_zero : zeroC Try.prog 36 = some [.val (.int .i64 0), .val (.int .i64 0), .val (.int .i64 0), .val (.int .i64 0), .val (.int .u16 0), .val (.int .i64 0)] := by kernel_rfl
@[go_sem] theorem ty36_alloc : allocC Try.prog 36 = some [.val (.int .i64 0), .val (.int .i64 0), .val (.int .i64 0), .val (.int .i64 0), .val (.int .u16 0), .val (.int .i64 0)] := by kernel_rfl
@[go_sem] theorem ty37_size : sizeT Try.prog 37 = some 6 := by kernel_rfl
@[go_sem] theorem ty37_agg : isAggT Try.prog 37 = some true := by kernel_rfl
@[go_sem] theorem ty37_known : knownT Try.prog 37 = true := by kernel_rfl
@[go_sem] theorem ty37_flat : flatT Try.prog 37 = some (List.replicate 1 (some .i64) ++ List.replicate 1 (some .i64) ++ List.replicate 1 (some .i64) ++ List.replicate 1 (some .i64) ++ List.replicate 1 (some .u16) ++ List.replicate 1 (some .i64)) := by kernel_rfl
@[go_sem] theorem ty37_f0 : fldT Try.prog 37 0 = some (0, 3, 1) := by kernel_rfl
@[go_sem] theorem ty37_f1 : fldT Try.prog 37 1 = some (1, 3, 1) := by kernel_rfl
@[go_sem] theorem ty37_f2 : fldT Try.prog 37 2 = some (2, 3, 1) := by kernel_rfl
@[go_sem] theorem ty37_f3 : fldT Try.prog 37 3 = some (3, 3, 1) := by kernel_rfl
@[go_sem] theorem ty37_f4 : fldT Try.prog 37 4 = some (4, 35, 1) := by kernel_rfl
@[go_sem] theorem ty37_f5 : fldT Try.prog 37 5 = some (5, 3, 1) := by kernel_rfl
@[go_sem] theorem ty37_lay : layT Try.prog 37 = some (.str [(0, 1), (1, 1), (2, 1), (3, 1), (4, 1), (5, 1)]) := by kernel_rfl
@[go_sem] theorem ty37_bytes : bytesT Try.prog 37 = some 48 := by kernel_rfl
@[go_sem] theorem ty37_zero : zeroC Try.prog 37 = some [.val (.int .i64 0), .val (.int .i64 0), .val (.int .i64 0), .val (.int .i64 0), .val (.int .u16 0), .val (.int .i64 0)] := by kernel_rfl
@[go_sem] theorem ty37_alloc : allocC Try.prog 37 = some [.val (.int .i64 0), .val (.int .i64 0), .val (.int .i64 0), .val (.int .i64 0), .val (.int .u16 0), .val (.int .i64 0)] := by kernel_rfl
@[go_sem] theorem ty38_size : sizeT Try.prog 38 = some 1 := by kernel_rfl
@[go_sem] theorem ty38_agg : isAggT Try.prog 38 = some false := by kernel_rfl
@[go_sem] theorem ty38_known : knownT Try.prog 38 = true := by kernel_rfl
@[go_sem] theorem ty38_slc : isSlcT Try.prog 38 = true := by kernel_rfl
@[go_sem] theorem ty38_idx : idxT Try.prog 38 = some (none, 40, 2) := by kernel_rfl
@[go_sem] theorem ty38_bytes : bytesT Try.prog 38 = some 24 := by kernel_rfl
@[go_sem] theorem ty38_zero : zeroC Try.prog 38 = some [.lst .full (some true) 1 []] := by kernel_rfl
@[go_sem] theorem ty38_alloc : allocC Try.prog 38 = some [.lst .full (some true) 1 []] := by kernel_rfl
@[go_sem] theorem ty39_size : sizeT Try.prog 39 = some 2 := by kernel_rfl
@[go_sem] theorem ty39_agg : isAggT Try.prog 39 = some true := by kernel_rfl
@[go_sem] theorem ty39_known : knownT Try.prog 39 = true := by kernel_rfl
@[go_sem] theorem ty39_flat : flatT Try.prog 39 = some (List.replicate 2 (some .u16)) := by kernel_rfl
@[go_sem] theorem ty39_idx : idxT Try.prog 39 = some (some 2, 35, 1) := by kernel_rfl
@[go_sem] theorem ty39_lay : layT Try.prog 39 = some (.arr 1) := by kernel_rfl
@[go_sem] theorem ty39_bytes : bytesT Try.prog 39 = some 4 := by kernel_rfl
@[go_sem] theorem ty39_zero : zeroC Try.prog 39 = some [.val (.int .u16 0), .val (.int .u16 0)] := by kernel_rfl
@[go_sem] theorem ty39_alloc : allocC Try.prog 39 = some [.val (.int .u16 0), .val (.int .u16 0)] := by kernel_rfl
theorem ty39_und : ∃ q, Try.prog.underlying 39 = some (.array q.1 q.2) ∧ q = (2, 35) := ⟨(2, 35), by kernel_rfl, rfl⟩
@[go_sem] theorem ty40_size : sizeT Try.prog 40 = some 2 := by kernel_rfl
@[go_sem] theorem ty40_agg : isAggT Try.prog 40 = some true := by kernel_rfl
@[go_sem] theorem ty40_known : knownT Try.prog 40 = true := by kernel_rfl
@[go_sem] theorem ty40_flat : flatT Try.prog 40 = some (List.replicate 2 (some .u16)) := by kernel_rfl
@[go_sem] theorem ty40_idx : idxT Try.prog 40 = some (some 2, 35, 1) := by kernel_rfl
@[go_sem] theorem ty40_lay : layT Try.prog 40 = some (.arr 1) := by kernel_rfl
@[go_sem] theorem ty40_bytes : bytesT Try.prog 40 = some 4 := by kernel_rfl
@[go_sem] theorem ty40_zero : zeroC Try.prog 40 = some [.val (.int .u16 0), .val (.int .u16 0)] := by kernel_rfl
@[go_sem] theorem ty40_alloc : allocC Try.prog 40 = some [.val (.int .u16 0), .val (.int .u16 0)] := by kernel_rfl
theorem ty40_und : ∃ q, Try.prog.underlying 40 = some (.array q.1 q.2) ∧ q = (2, 35) := ⟨(2, 35), by kernel_rfl, rfl⟩
@[go_sem] theorem ty41_size : sizeT Try.prog 41 = some 16 := by kernel_rfl
@[go_sem] theorem ty41_agg : isAggT Try.prog 41 = some true := by kernel_rfl
@[go_sem] theorem ty41_known : knownT Try.prog 41 = true := by kernel_rfl
@[go_sem] theorem ty41_flat : flatT Try.prog 41 = some (List.replicate 16 (some .i32)) := by kernel_rfl
@[go_sem] theorem ty41_idx : idxT Try.prog 41 = some (some 16, 21, 1) := by kernel_rfl
@[go_sem] theorem ty41_lay : layT Try.prog 41 = some (.arr 1) := by kernel_rfl
@[go_sem] theorem ty41_bytes : bytesT Try.prog 41 = some 64 := by kernel_rfl
@[go_sem] theorem ty41_zero : zeroC Try.prog 41 = some [.val (.int .i32 0), .val (.int .i32 0), .val (.int .i32 0), .val (.int .i32 0), .val (.int .i32 0), .val (.int .i32 0), .val (.int .i32 0), .val (.int .i32 0), .val (.int .i32 0), .val (.int .i32 0), .val (.int .i32 0), .val (.int .i32 0), .val (.int .i32 0), .val (.int .i32 0), .val (.int .i32 0), .val (.int .i32 0)] := by kernel_rfl
@[go_sem] theorem ty41_alloc : allocC Try.prog 41 = some [.val (.int .i32 0), .val (.int .i32 0), .val (.int .i32 0), .val (.int .i32 0), .val (.int .i32 0), .val (.int .i32 0), .val (.int .i32 0), .val (.int .i32 0), .val (.int .i32 0), .val (.int .i32 0), .val (.int .i32 0), .val (.int .i32 0), .val (.int .i32 0), .val (.int .i32 0), .val (.int .i32 0), .val (.int .i32 0)] := by kernel_rfl
theorem ty41_und : ∃ q, Try.prog.underlying 41 = some (.array q.1 q.2) ∧ q = (16, 21) := ⟨(16, 21), by kernel_rfl, rfl⟩
@[go_sem] theorem ty42_size : sizeT Try.prog 42 = some 1 := by kernel_rfl
@[go_sem] theorem ty42_agg : isAggT Try.prog 42 = some false := by kernel_rfl
@[go_sem] theorem ty42_known : knownT Try.prog 42 = true := by kernel_rfl
@[go_sem] theorem ty42_kind : kindT Try.prog 42 = some .u32 := by kernel_rfl
@[go_sem] theorem ty42_isint : isIntT Try.prog 42 = true := by kernel_rfl
@[go_sem] theorem ty42_bytes : bytesT Try.prog 42 = some 4 := by kernel_rfl
@[go_sem] theorem ty42_zero : zeroC Try.prog 42 = some [.val (.int .u32 0)] := by kernel_rfl
@[go_sem] theorem ty42_alloc : allocC Try.prog 42 = some [.val (.int .u32 0)] := by kernel_rfl
@[go_sem] theorem ty43_size : sizeT Try.prog 43 = some 20 := by kernel_rfl
@[go_sem] theorem ty43_agg : isAggT Try.prog 43 = some true := by kernel_rfl
@[go_sem] theorem ty43_known : knownT Try.prog 43 = true := by kernel_rfl
@[go_sem] theorem ty43_flat : flatT Try.prog 43 = some (List.replicate 1 (some .i64) ++ List.replicate 16 (some .i32) ++ List.replicate 1 (some .u32) ++ List.replicate 1 (none) ++ List.replicate 1 (some .i64)) := by kernel_rfl
@[go_sem] theorem ty43_f0 : fldT Try.prog 43 0 = some (0, 3, 1) := by kernel_rfl
@[go_sem] theorem ty43_f1 : fldT Try.prog 43 1 = some (1, 41, 16) := by kernel_rfl
@[go_sem] theorem ty43_f2 : fldT Try.prog 43 2 = some (17, 42, 1) := by kernel_rfl
@[go_sem] theorem ty43_f3 : fldT Try.prog 43 3 = some (18, 4, 1) := by kernel_rfl
@[go_sem] theorem ty43_f4 : fldT Try.prog 43 4 = some (19, 3, 1) := by kernel_rfl
@[go_sem] theorem ty43_lay : layT Try.prog 43 = some (.str [(0, 1), (1, 16), (17, 1), (18, 1), (19, 1)]) := by kernel_rfl
@[go_sem] theorem ty43_bytes : bytesT Try.prog 43 = some 88 := by kernel_rfl
@[go_sem] theorem ty43_zero : zeroC Try.prog 43 = some [.val (.int .i64 0), .val (.int .i32 0), .val (.int .i32 0), .val (.int .i32 0), .val (.int .i32 0), .val (.int .i32 0), .val (.int .i32 0), .val (.int .i32 0), .val (.int .i32 0), .val (.int .i32 0), .val (.int .i32 0), .val (.int .i32 0), .val (.int .i32 0), .val (.int .i32 0), .val (.int .i32 0), .val (.int .i32 0), .val (.int .i32 0), .val (.int .u32 0), .val (.bool false), .val (.int .i64 0)] := by kernel_rfl
@[go_sem] theorem ty43_alloc : allocC Try.prog 43 = some [.val (.int .i64 0), .val (.int .i32 0), .val (.int .i32 0), .val (.int .i32 0), .val (.int .i32 0), .val (.int .i32 0), .val (.int .i32 0), .val (.int .i32 0), .val (.int .i32 0), .val (.int .i32 0), .val (.int .i32 0), .val (.int .i32 0), .val (.int .i32 0), .val (.int .i32 0), .val (.int .i32 0), .val (.int .i32 0), .val (.int .i32 0), .val (.int .u32 0), .val (.bool false), .val (.int .i64 0)] := by kernel_rfl
@[go_sem] theorem ty44_size : sizeT Try.prog 44 = some 20 := by kernel_rfl
@[go_sem] theorem ty44_agg : isAggT Try.prog 44 = some true := by kernel_rfl
@[go_sem] theorem ty44_known : knownT Try.prog 44 = true := by kernel_rfl
@[go_sem] theorem ty44_flat : flatT Try.prog 44 = some (List.replicate 1 (some .i64) ++ List.replicate 16 (some .i32) ++ List.replicate 1 (some .u32) ++ List.replicate 1 (none) ++ List.replicate 1 (some .i64)) := by kernel_rfl
@[go_sem] theorem ty44_f0 : fldT Try.prog 44 0 = some (0, 3, 1) := by kernel_rfl
@[go_sem] theorem ty44_f1 : fldT Try.prog 44 1 = some (1, 41, 16) := by kernel_rfl
@[go_sem] theorem ty44_f2 : fldT Try.prog 44 2 = some (17, 42, 1) := by kernel_rfl
@[go_sem] theorem ty44_f3 : fldT Try.prog 44 3 = some (18, 4, 1) := by kernel_rfl
@[go_sem] theorem ty44_f4 : fldT Try.prog 44 4 = some (19, 3, 1) := by kernel_rfl
@[go_sem] theorem ty44_lay : layT Try.prog 44 = some (.str [(0, 1), (1, 16), (17, 1), (18, 1), (19, 1)]) := by kernel_rfl
@[go_sem] theorem ty44_bytes : bytesT Try.prog 44 = some 88 := by kernel_rfl
@[go_sem] theorem ty44_zero : zeroC Try.prog 44 = some [.val (.int .i64 0), .val (.int .i32 0), .val (.int .i32 0), .val (.int .i32 0), .val (.int .i32 0), .val (.int .i32 0), .val (.int .i32 0), .val (.int .i32 0), .val (.int .i32 0), .val (.int .i32 0), .val (.int .i32 0), .val (.int .i32 0), .val (.int .i32 0), .val (.int .i32 0), .val (.int .i32 0), .val (.int .i32 0), .val (.int .i32 0), .val (.int .u32 0), .val (.bool false), .val (.int .i64 0)] := by kernel_rfl
@[go_sem] theorem ty44_alloc : allocC Try.prog 44 = some [.val (.int .i64 0), .val (.int .i32 0), .val (.int .i32 0), .val (.int .i32 0), .val (.int .i32 0), .val (.int .i32 0), .val (.int .i32 0), .val (.int .i32 0), .val (.int .i32 0), .val (.int .i32 0), .val (.int .i32 0), .val (.int .i32 0), .val (.int .i32 0), .val (.int .i32 0), .val (.int .i32 0), .val (.int .i32 0), .val (.int .i32 0), .val (.int .u32 0), .val (.bool false), .val (.int .i64 0)] := by kernel_rfl
@[go_sem] theorem ty46_fn : isFnT Try.prog 46 = true := by kernel_rfl
@[go_sem] theorem ty46_size : sizeT Try.prog 46 = some 1 := by kernel_rfl
@[go_sem] theorem ty46_agg : isAggT Try.prog 46 = some false := by kernel_rfl
@[go_sem] theorem ty47_fn : isFnT Try.prog 47 = true := by kernel_rfl
@[go_sem] theorem ty47_size : sizeT Try.prog 47 = some 1 := by kernel_rfl
@[go_sem] theorem ty47_agg : isAggT Try.prog 47 = some false := by kernel_rfl
@[go_sem] theorem ty48_fn : isFnT Try.prog 48 = true := by kernel_rfl
@[go_sem] theorem ty48_size : sizeT Try.prog 48 = some 1 := by kernel_rfl
@[go_sem] theorem ty48_agg : isAggT Try.prog 48 = some false := by kernel_rfl
@[go_sem] theorem ty49_size : sizeT Try.prog 49 = some 2 := by kernel_rfl
@[go_sem] theorem ty49_agg : isAggT Try.prog 49 = some true := by kernel_rfl
@[go_sem] theorem ty49_known : knownT Try.prog 49 = true := by kernel_rfl
@[go_sem] theorem ty49_flat : flatT Try.prog 49 = some (List.replicate 2 (some .i64)) := by kernel_rfl
@[go_sem] theorem ty49_idx : idxT Try.prog 49 = some (some 2, 3, 1) := by kernel_rfl
@[go_sem] theorem ty49_lay : layT Try.prog 49 = some (.arr 1) := by kernel_rfl
@[go_sem] theorem ty49_bytes : bytesT Try.prog 49 = some 16 := by kernel_rfl
@[go_sem] theorem ty49_zero : zeroC Try.prog 49 = some [.val (.int .i64 0), .val (.int .i64 0)] := by kernel_rfl
@[go_sem] theorem ty49_alloc : allocC Try.prog 49 = some [.val (.int .i64 0), .val (.int .i64 0)] := by kernel_rfl
theorem ty49_und : ∃ q, Try.prog.underlying 49 = some (.array q.1 q.2) ∧ q = (2, 3) := ⟨(2, 3), by kernel_rfl, rfl⟩
@[go_sem] theorem ty50_size : sizeT Try.prog 50 = some 11 := by kernel_rfl
@[go_sem] theorem ty50_agg : isAggT Try.prog 50 = some true := by kernel_rfl
@[go_sem] theorem ty50_known : knownT Try.prog 50 = true := by kernel_rfl
@[go_sem] theorem ty50_flat : flatT Try.prog 50 = some (List.replicate 2 (some .i64) ++ List.replicate 1 (some .u32) ++ List.replicate 2 (some .i64) ++ List.replicate 2 (some .i64) ++ List.replicate 1 (none) ++ List.replicate 1 (some .i64) ++ List.replicate 1 (some .i64) ++ List.replicate 1 (none)) := by kernel_rfl
@[go_sem] theorem ty50_f0 : fldT Try.prog 50 0 = some (0, 49, 2) := by kernel_rfl
@[go_sem] theorem ty50_f1 : fldT Try.prog 50 1 = some (2, 42, 1) := by kernel_rfl
@[go_sem] theorem ty50_f2 : fldT Try.prog 50 2 = some (3, 49, 2) := by kernel_rfl
@[go_sem] theorem ty50_f3 : fldT Try.prog 50 3 = some (5, 49, 2) := by kernel_rfl
@[go_sem] theorem ty50_f4 : fldT Try.prog 50 4 = some (7, 4, 1) := by kernel_rfl
@[go_sem] theorem ty50_f5 : fldT Try.prog 50 5 = some (8, 3, 1) := by kernel_rfl
@[go_sem] theorem ty50_f6 : fldT Try.prog 50 6 = some (9, 3, 1) := by kernel_rfl
@[go_sem] theorem ty50_f7 : fldT Try.prog 50 7 = some (10, 4, 1) := by kernel_rfl
@[go_sem] theorem ty50_lay : layT Try.prog 50 = some (.str [(0, 2), (2, 1), (3, 2), (5, 2), (7, 1), (8, 1), (9, 1), (10, 1)]) := by kernel_rfl
@[go_sem] theorem ty50_bytes : bytesT Try.prog 50 = some 88 := by kernel_rfl
@[go_sem] theorem ty50_zero : zeroC Try.prog 50 = some [.val (.int .i64 0), .val (.int .i64 0), .val (.int .u32 0), .val (.int .i64 0), .val (.int .i64 0), .val (.int .i64 0), .val (.int .i64 0), .val (.bool false), .val (.int .i64 0), .val (.int .i64 0), .val (.bool false)] := by kernel_rfl
@[go_sem] theorem ty50_alloc : allocC Try.prog 50 = some [.val (.int .i64 0), .val (.int .i64 0), .val (.int .u32 0), .val (.int .i64 0), .val (.int .i64 0), .val (.int .i64 0), .val (.int .i64 0), .val (.bool false), .val (.int .i64 0), .val (.int .i64 0), .val (.bool false)] := by kernel_rfl
@[go_sem] theorem ty51_size : sizeT Try.prog 51 = some 11 := by kernel_rfl
@[go_sem] theorem ty51_agg : isAggT Try.prog 51 = some true := by kernel_rfl
@[go_sem] theorem ty51_known : knownT Try.prog 51 = true := by kernel_rfl
@[go_sem] theorem ty51_flat : flatT Try.prog 51 = some (List.replicate 2 (some .i64) ++ List.replicate 1 (some .u32) ++ List.replicate 2 (some .i64) ++ List.replicate 2 (some .i64) ++ List.replicate 1 (none) ++ List.replicate 1 (some .i64) ++ List.replicate 1 (some .i64) ++ List.replicate 1 (none)) := by kernel_rfl
@[go_sem] theorem ty51_f0 : fldT Try.prog 51 0 = some (0, 49, 2) := by kernel_rfl
@[go_sem] theorem ty51_f1 : fldT Try.prog 51 1 = some (2, 42, 1) := by kernel_rfl
@[go_sem] theorem ty51_f2 : fldT Try.prog 51 2 = some (3, 49, 2) := by kernel_rfl
@[go_sem] theorem ty51_f3 : fldT Try.prog 51 3 = some (5, 49, 2) := by kernel_rfl
@[go_sem] theorem ty51_f4 : fldT Try.prog 51 4 = some (7, 4, 1) := by kernel_rfl
@[go_sem] theorem ty51_f5 : fldT Try.prog 51 5 = some (8, 3, 1) := by kernel_rfl
@[go_sem] theorem ty51_f6 : fldT Try.prog 51 6 = some (9, 3, 1) := by kernel_rfl
@[go_sem] theorem ty51_f7 : fldT Try.prog 51 7 = some (10, 4, 1) := by kernel_rfl
@[go_sem] theorem ty51_lay : layT Try.prog 51 = some (.str [(0, 2), (2, 1), (3, 2), (5, 2), (7, 1), (8, 1), (9, 1), (10, 1)]) := by kernel_rfl
@[go_sem] theorem ty51_bytes : bytesT Try.prog 51 = some 88 := by kernel_rfl
@[go_sem] theorem ty51_zero : zeroC Try.prog 51 = some [.val (.int .i64 0), .val (.int .i64 0), .val (.int .u32 0), .val (.int .i64 0), .val (.int .i64 0), .val (.int .i64 0), .val (.int .i64 0), .val (.bool false), .val (.int .i64 0), .val (.int .i64 0), .val (.bool false)] := by kernel_rfl
@[go_sem] theorem ty51_alloc : allocC Try.prog 51 = some [.val (.int .i64 0), .val (.int .i64 0), .val (.int .u32 0), .val (.int .i64 0), .val (.int .i64 0), .val (.int .i64 0), .val (.int .i64 0), .val (.bool false), .val (.int .i64 0), .val (.int .i64 0), .val (.bool false)] := by kernel_rfl
@[go_sem] theorem ty52_fn : isFnT Try.prog 52 = true := by kernel_rfl
@[go_sem] theorem ty52_size : sizeT Try.prog 52 = some 1 := by kernel_rfl
@[go_sem] theorem ty52_agg : isAggT Try.prog 52 = some false := by kernel_rfl
@[go_sem] theorem ty53_fn : isFnT Try.prog 53 = true := by kernel_rfl
@[go_sem] theorem ty53_size : sizeT Try.prog 53 = some 1 := by kernel_rfl
@[go_sem] theorem ty53_agg : isAggT Try.prog 53 = some false := by kernel_rfl
@[go_sem] theorem ty54_fn : isFnT Try.prog 54 = true := by kernel_rfl
@[go_sem] theorem ty54_size : sizeT Try.prog 54 = some 1 := by kernel_rfl
@[go_sem] theorem ty54_agg : isAggT Try.prog 54 = some false := by kernel_rfl
@[go_sem] theorem ty56_fn : isFnT Try.prog 56 = true := by kernel_rfl
@[go_sem] theorem ty56_size : sizeT Try.prog 56 = some 1 := by kernel_rfl
@[go_sem] theorem ty56_agg : isAggT Try.prog 56 = some false := by kernel_rfl
@[go_sem] theorem ty57_fn : isFnT Try.prog 57 = true := by kernel_rfl
@[go_sem] theorem ty57_size : sizeT Try.prog 57 = some 1 := by kernel_rfl
@[go_sem] theorem ty57_agg : isAggT Try.prog 57 = some false := by kernel_rfl
@[go_sem] theorem ty58_fn : isFnT Try.prog 58 = true := by kernel_rfl
@[go_sem] theorem ty58_size : sizeT Try.prog 58 = some 1 := by kernel_rfl
@[go_sem] theorem ty58_agg : isAggT Try.prog 58 = some false := by kernel_rfl
@[go_sem] theorem ty59_fn : isFnT Try.prog 59 = true := by kernel_rfl
@[go_sem] theorem ty59_size : sizeT Try.prog 59 = some 1 := by kernel_rfl
@[go_sem] theorem ty59_agg : isAggT Try.prog 59 = some false := by kernel_rfl
@[go_sem] theorem ty60_fn : isFnT Try.prog 60 = true := by kernel_rfl
@[go_sem] theorem ty60_size : sizeT Try.prog 60 = some 1 := by kernel_rfl
@[go_sem] theorem ty60_agg : isAggT Try.prog 60 = some false := by kernel_rfl
@[go_sem] theorem ty61_size : sizeT Try.prog 61 = some 1 := by kernel_rfl
@[go_sem] theorem ty61_agg : isAggT Try.prog 61 = some false := by kernel_rfl
@[go_sem] theorem ty61_known : knownT Try.prog 61 = true := by kernel_rfl
@[go_sem] theorem ty61_slc : isSlcT Try.prog 61 = true := by kernel_rfl
@[go_sem] theorem ty61_idx : idxT Try.prog 61 = some (none, 37, 6) := by kernel_rfl
@[go_sem] theorem ty61_bytes : bytesT Try.prog 61 = some 24 := by kernel_rfl
@[go_sem] theorem ty61_zero : zeroC Try.prog 61 = some [.lst .full (some true) 1 []] := by kernel_rfl
@[go_sem] theorem ty61_alloc : allocC Try.prog 61 = some [.lst .full (some true) 1 []] := by kernel_rfl
@[go_sem] theorem ty62_fn : isFnT Try.prog 62 = true := by kernel_rfl
@[go_sem] theorem ty62_size : sizeT Try.prog 62 = some 1 := by kernel_rfl
@[go_sem] theorem ty62_agg : isAggT Try.prog 62 = some false := by kernel_rfl
@[go_sem] theorem ty63_fn : isFnT Try.prog 63 = true := by kernel_rfl
@[go_sem] theorem ty63_size : sizeT Try.prog 63 = some 1 := by kernel_rfl
@[go_sem] theorem ty63_agg : isAggT Try.prog 63 = some false := by kernel_rfl
@[go_sem] theorem ty64_fn : isFnT Try.prog 64 = true := by kernel_rfl
@[go_sem] theorem ty64_size : sizeT Try.prog 64 = some 1 := by kernel_rfl
@[go_sem] theorem ty64_agg : isAggT Try.prog 64 = some false := by kernel_rfl
@[go_sem] theorem ty66_fn : isFnT Try.prog 66 = true := by kernel_rfl
@[go_sem] theorem ty66_size : sizeT Try.prog 66 = some 1 := by kernel_rfl
@[go_sem] theorem ty66_agg : isAggT Try.prog 66 = some false := by kernel_rfl
@[go_sem] theorem ty67_fn : isFnT Try.prog 67 = true := by kernel_rfl
@[go_sem] theorem ty67_size : sizeT Try.prog 67 = some 1 := by kernel_rfl
@[go_sem] theorem ty67_agg : isAggT Try.prog 67 = some false := by kernel_rfl
@[go_sem] theorem ty68_fn : isFnT Try.prog 68 = true := by kernel_rfl
@[go_sem] theorem ty68_size : sizeT Try.prog 68 = some 1 := by kernel_rfl
@[go_sem] theorem ty68_agg : isAggT Try.prog 68 = some false := by kernel_rfl
@[go_sem] theorem ty69_size : sizeT Try.prog 69 = some 2 := by kernel_rfl
@[go_sem] theorem ty69_agg : isAggT Try.prog 69 = some true := by kernel_rfl
@[go_sem] theorem ty69_known : knownT Try.prog 69 = true := by kernel_rfl
@[go_sem] theorem ty69_idx : idxT Try.prog 69 = some (some 2, 25, 1) := by kernel_rfl
@[go_sem] theorem ty69_lay : layT Try.prog 69 = some (.arr 1) := by kernel_rfl
@[go_sem] theorem ty69_bytes : bytesT Try.prog 69 = some 48 := by kernel_rfl
@[go_sem] theorem ty69_zero : zeroC Try.prog 69 = some [.lst .full (some true) 1 [], .lst .full (some true) 1 []] := by kernel_rfl
@[go_sem] theorem ty69_alloc : allocC Try.prog 69 = some [.lst .full (some true) 1 [], .lst .full (some true) 1 []] := by kernel_rfl
theorem ty69_und : ∃ q, Try.prog.underlying 69 = some (.array q.1 q.2) ∧ q = (2, 25) := ⟨(2, 25), by kernel_rfl, rfl⟩
@[go_sem] theorem ty70_size : sizeT Try.prog 70 = some 38 := by kernel_rfl
@[go_sem] theorem ty70_agg : isAggT Try.prog 70 = some true := by kernel_rfl
@[go_sem] theorem ty70_known : knownT Try.prog 70 = true := by kernel_rfl
@[go_sem] theorem ty70_f0 : fldT Try.prog 70 0 = some (0, 24, 3) := by kernel_rfl
@[go_sem] theorem ty70_f1 : fldT Try.prog 70 1 = some (3, 51, 11) := by kernel_rfl
@[go_sem] theorem ty70_f2 : fldT Try.prog 70 2 = some (14, 69, 2) := by kernel_rfl
@[go_sem] theorem ty70_f3 : fldT Try.prog 70 3 = some (16, 38, 1) := by kernel_rfl
@[go_sem] theorem ty70_f4 : fldT Try.prog 70 4 = some (17, 44, 20) := by kernel_rfl
@[go_sem] theorem ty70_f5 : fldT Try.prog 70 5 = some (37, 61, 1) := by kernel_rfl
@[go_sem] theorem ty70_lay : layT Try.prog 70 = some (.str [(0, 3), (3, 11), (14, 2), (16, 1), (17, 20), (37, 1)]) := by kernel_rfl
@[go_sem] theorem ty70_bytes : bytesT Try.prog 70 = some 312 := by kernel_rfl
@[go_sem] theorem ty70_zero : zeroC Try.prog 70 = some [.lst .full (some true) 1 [], .val (.int .i64 0), .val (.int .i64 0), .val (.int .i64 0), .val (.int .i64 0), .val (.int .u32 0), .val (.int .i64 0), .val (.int .i64 0), .val (.int .i64 0), .val (.int .i64 0), .val (.bool false), .val (.int .i64 0), .val (.int .i64 0), .val (.bool false), .lst .full (some true) 1 [], .lst .full (some true) 1 [], .lst .full (some true) 1 [], .val (.int .i64 0), .val (.int .i32 0), .val (.int .i32 0), .val (.int .i32 0), .val (.int .i32 0), .val (.int .i32 0), .val (.int .i32 0), .val (.int .i32 0), .val (.int .i32 0), .val (.int .i32 0), .val (.int .i32 0), .val (.int .i32 0), .val (.int .i32 0), .val (.int .i32 0), .val (.int .i32 0), .val (.int .i32 0), .val (.int .i32 0), .val (.int .u32 0), .val (.bool false), .val (.int .i64 0), .lst .full (some true) 1 []] := by kernel_rfl
@[go_sem] theorem ty70_alloc : allocC Try.prog 70 = some [.lst .full (some true) 1 [], .val (.int .i64 0), .val (.int .i64 0), .val (.int .i64 0), .val (.int .i64 0), .val (.int .u32 0), .val (.int .i64 0), .val (.int .i64 0), .val (.int .i64 0), .val (.int .i64 0), .val (.bool false), .val (.int .i64 0), .val (.int .i64 0), .val (.bool false), .lst .full (some true) 1 [], .lst .full (some true) 1 [], .lst .full (some true) 1 [], .val (.int .i64 0), .val (.int .i32 0), .val (.int .i32 0), .val (.int .i32 0), .val (.int .i32 0), .val (.int .i32 0), .val (.int .i32 0), .val (.int .i32 0), .val (.int .i32 0), .val (.int .i32 0), .val (.int .i32 0), .val (.int .i32 0), .val (.int .i32 0), .val (.int .i32 0), .val (.int .i32 0), .val (.int .i32 0), .val (.int .i32 0), .val (.int .u32 0), .val (.bool false), .val (.int .i64 0), .lst .full (some true) 1 []] := by kernel_rfl
@[go_sem] theorem ty71_size : sizeT Try.prog 71 = some 38 := by kernel_rfl
@[go_sem] theorem ty71_agg : isAggT Try.prog 71 = some true := by kernel_rfl
@[go_sem] theorem ty71_known : knownT Try.prog 71 = true := by kernel_rfl
@[go_sem] theorem ty71_f0 : fldT Try.prog 71 0 = some (0, 24, 3) := by kernel_rfl
@[go_sem] theorem ty71_f1 : fldT Try.prog 71 1 = some (3, 51, 11) := by kernel_rfl
@[go_sem] theorem ty71_f2 : fldT Try.prog 71 2 = some (14, 69, 2) := by kernel_rfl
@[go_sem] theorem ty71_f3 : fldT Try.prog 71 3 = some (16, 38, 1) := by kernel_rfl
@[go_sem] theorem ty71_f4 : fldT Try.prog 71 4 = some (17, 44, 20) := by kernel_rfl
@[go_sem] theorem ty71_f5 : fldT Try.prog 71 5 = some (37, 61, 1) := by kernel_rfl
@[go_sem] theorem ty71_lay : layT Try.prog 71 = some (.str [(0, 3), (3, 11), (14, 2), (16, 1), (17, 20), (37, 1)]) := by kernel_rfl
@[go_sem] theorem ty71_bytes : bytesT Try.prog 71 = some 312 := by kernel_rfl
@[go_sem] theorem ty71_zero : zeroC Try.prog 71 = some [.lst .full (some true) 1 [], .val (.int .i64 0), .val (.int .i64 0), .val (.int .i64 0), .val (.int .i64 0), .val (.int .u32 0), .val (.int .i64 0), .val (.int .i64 0), .val (.int .i64 0), .val (.int .i64 0), .val (.bool false), .val (.int .i64 0), .val (.int .i64 0), .val (.bool false), .lst .full (some true) 1 [], .lst .full (some true) 1 [], .lst .full (some true) 1 [], .val (.int .i64 0), .val (.int .i32 0), .val (.int .i32 0), .val (.int .i32 0), .val (.int .i32 0), .val (.int .i32 0), .val (.int .i32 0), .val (.int .i32 0), .val (.int .i32 0), .val (.int .i32 0), .val (.int .i32 0), .val (.int .i32 0), .val (.int .i32 0), .val (.int .i32 0), .val (.int .i32 0), .val (.int .i32 0), .val (.int .i32 0), .val (.int .u32 0), .val (.bool false), .val (.int .i64 0), .lst .full (some true) 1 []] := by kernel_rfl
@[go_sem] theorem ty71_alloc : allocC Try.prog 71 = some [.lst .full (some true) 1 [], .val (.int .i64 0), .val (.int .i64 0), .val (.int .i64 0), .val (.int .i64 0), .val (.int .u32 0), .val (.int .i64 0), .val (.int .i64 0), .val (.int .i64 0), .val (.int .i64 0), .val (.bool false), .val (.int .i64 0), .val (.int .i64 0), .val (.bool false), .lst .full (some true) 1 [], .lst .full (some true) 1 [], .lst .full (some true) 1 [], .val (.int .i64 0), .val (.int .i32 0), .val (.int .i32 0), .val (.int .i32 0), .val (.int .i32 0), .val (.int .i32 0), .val (.int .i32 0), .val (.int .i32 0), .val (.int .i32 0), .val (.int .i32 0), .val (.int .i32 0), .val (.int .i32 0), .val (.int .i32 0), .val (.int .i32 0), .val (.int .i32 0), .val (.int .i32 0), .val (.int .i32 0), .val (.int .u32 0), .val (.bool false), .val (.int .i64 0), .lst .full (some true) 1 []] := by kernel_rfl
@[go_sem] theorem ty72_fn : isFnT Try.prog 72 = true := by kernel_rfl
@[go_sem] theorem ty72_size : sizeT Try.prog 72 = some 1 := by kernel_rfl
@[go_sem] theorem ty72_agg : isAggT Try.prog 72 = some false := by kernel_rfl
@[go_sem] theorem ty73_size : sizeT Try.prog 73 = some 2 := by kernel_rfl
@[go_sem] theorem ty73_agg : isAggT Try.prog 73 = some true := by kernel_rfl
@[go_sem] theorem ty73_known : knownT Try.prog 73 = true := by kernel_rfl
@[go_sem] theorem ty73_flat : flatT Try.prog 73 = some (List.replicate 1 (some .i64) ++ List.replicate 1 (some .i64)) := by kernel_rfl
@[go_sem] theorem ty73_f0 : fldT Try.prog 73 0 = some (0, 3, 1) := by kernel_rfl
@[go_sem] theorem ty73_f1 : fldT Try.prog 73 1 = some (1, 3, 1) := by kernel_rfl
@[go_sem] theorem ty73_lay : layT Try.prog 73 = some (.str [(0, 1), (1, 1)]) := by kernel_rfl
@[go_sem] theorem ty73_bytes : bytesT Try.prog 73 = some 16 := by kernel_rfl
@[go_sem] theorem ty73_zero : zeroC Try.prog 73 = some [.val (.int .i64 0), .val (.int .i64 0)] := by kernel_rfl
@[go_sem] theorem ty73_alloc : allocC Try.prog 73 = some [.val (.int .i64 0), .val (.int .i64 0)] := by kernel_rfl
@[go_sem] theorem ty74_size : sizeT Try.prog 74 = some 2 := by kernel_rfl
@[go_sem] theorem ty74_agg : isAggT Try.prog 74 = some true := by kernel_rfl
@[go_sem] theorem ty74_known : knownT Try.prog 74 = true := by kernel_rfl
@[go_sem] theorem ty74_flat : flatT Try.prog 74 = some (List.replicate 1 (some .i64) ++ List.replicate 1 (some .i64)) := by kernel_rfl
@[go_sem] theorem ty74_f0 : fldT Try.prog 74 0 = some (0, 3, 1) := by kernel_rfl
@[go_sem] theorem ty74_f1 : fldT Try.prog 74 1 = some (1, 3, 1) := by kernel_rfl
@[go_sem] theorem ty74_lay : layT Try.prog 74 = some (.str [(0, 1), (1, 1)]) := by kernel_rfl
@[go_sem] theorem ty74_bytes : bytesT Try.prog 74 = some 16 := by kernel_rfl
@[go_sem] theorem ty74_zero : zeroC Try.prog 74 = some [.val (.int .i64 0), .val (.int .i64 0)] := by kernel_rfl
@[go_sem] theorem ty74_alloc : allocC Try.prog 74 = some [.val (.int .i64 0), .val (.int .i64 0)] := by kernel_rfl
@[go_sem] theorem ty75_fn : isFnT Try.prog 75 = true := by kernel_rfl
@[go_sem] theorem ty75_size : sizeT Try.prog 75 = some 1 := by kernel_rfl
@[go_sem] theorem ty75_agg : isAggT Try.prog 75 = some false := by kernel_rfl
@[go_sem] theorem ty76_fn : isFnT Try.prog 76 = true := by kernel_rfl
@[go_sem] theorem ty76_size : sizeT Try.prog 76 = some 1 := by kernel_rfl
@[go_sem] theorem ty76_agg : isAggT Try.prog 76 = some false := by kernel_rfl
@[go_sem] theorem ty77_fn : isFnT Try.prog 77 = true := by kernel_rfl
@[go_sem] theorem ty77_size : sizeT Try.prog 77 = some 1 := by kernel_rfl
@[go_sem] theorem ty77_agg : isAggT Try.prog 77 = some false := by kernel_rfl
@[go_sem] theorem ty78_size : sizeT Try.prog 78 = some 3 := by kernel_rfl
@[go_sem] theorem ty78_agg : isAggT Try.prog 78 = some true := by kernel_rfl
@[go_sem] theorem ty78_known : knownT Try.prog 78 = true := by kernel_rfl
@[go_sem] theorem ty78_f0 : fldT Try.prog 78 0 = some (0, 75, 1) := by kernel_rfl
@[go_sem] theorem ty78_f1 : fldT Try.prog 78 1 = some (1, 76, 1) := by kernel_rfl
@[go_sem] theorem ty78_f2 : fldT Try.prog 78 2 = some (2, 77, 1) := by kernel_rfl
@[go_sem] theorem ty78_lay : layT Try.prog 78 = some (.str [(0, 1), (1, 1), (2, 1)]) := by kernel_rfl
@[go_sem] theorem ty78_bytes : bytesT Try.prog 78 = some 24 := by kernel_rfl
@[go_sem] theorem ty78_zero : zeroC Try.prog 78 = some [.val (.nilFunc), .val (.nilFunc), .val (.nilFunc)] := by kernel_rfl
@[go_sem] theorem ty78_alloc : allocC Try.prog 78 = some [.val (.nilFunc), .val (.nilFunc), .val (.nilFunc)] := by kernel_rfl
@[go_sem] theorem ty79_size : sizeT Try.prog 79 = some 3 := by kernel_rfl
@[go_sem] theorem ty79_agg : isAggT Try.prog 79 = some true := by kernel_rfl
@[go_sem] theorem ty79_known : knownT Try.prog 79 = true := by kernel_rfl
@[go_sem] theorem ty79_f0 : fldT Try.prog 79 0 = some (0, 75, 1) := by kernel_rfl
@[go_sem] theorem ty79_f1 : fldT Try.prog 79 1 = some (1, 76, 1) := by kernel_rfl
@[go_sem] theorem ty79_f2 : fldT Try.prog 79 2 = some (2, 77, 1) := by kernel_rfl
@[go_sem] theorem ty79_lay : layT Try.prog 79 = some (.str [(0, 1), (1, 1), (2, 1)]) := by kernel_rfl
@[go_sem] theorem ty79_bytes : bytesT Try.prog 79 = some 24 := by kernel_rfl
@[go_sem] theorem ty79_zero : zeroC Try.prog 79 = some [.val (.nilFunc), .val (.nilFunc), .val (.nilFunc)] := by kernel_rfl
@[go_sem] theorem ty79_alloc : allocC Try.prog 79 = some [.val (.nilFunc), .val (.nilFunc), .val (.nilFunc)] := by kernel_rfl
@[go_sem] theorem ty80_size : sizeT Try.prog 80 = some 18 := by kernel_rfl
@[go_sem] theorem ty80_agg : isAggT Try.prog 80 = some true := by kernel_rfl
@[go_sem] theorem ty80_known : knownT Try.prog 80 = true := by kernel_rfl
@[go_sem] theorem ty80_idx : idxT Try.prog 80 = some (some 6, 79, 3) := by kernel_rfl
@[go_sem] theorem ty80_lay : layT Try.prog 80 = some (.arr 3) := by kernel_rfl
@[go_sem] theorem ty80_bytes : bytesT Try.prog 80 = some 144 := by kernel_rfl
@[go_sem] theorem ty80_zero : zeroC Try.prog 80 = some [.val (.nilFunc), .val (.nilFunc), .val (.nilFunc), .val (.nilFunc), .val (.nilFunc), .val (.nilFunc), .val (.nilFunc), .val (.nilFunc), .val (.nilFunc), .val (.nilFunc), .val (.nilFunc), .val (.nilFunc), .val (.nilFunc), .val (.nilFunc), .val (.nilFunc), .val (.nilFunc), .val (.nilFunc), .val (.nilFunc)] := by kernel_rfl
@[go_sem] theorem ty80_alloc : allocC Try.prog 80 = some [.val (.nilFunc), .val (.nilFunc), .val (.nilFunc), .val (.nilFunc), .val (.nilFunc), .val (.nilFunc), .val (.nilFunc), .val (.nilFunc), .val (.nilFunc), .val (.nilFunc), .val (.nilFunc), .val (.nilFunc), .val (.nilFunc), .val (.nilFunc), .val (.nilFunc), .val (.nilFunc), .val (.nilFunc), .val (.nilFunc)] := by kernel_rfl
theorem ty80_und : ∃ q, Try.prog.underlying 80 = some (.array q.1 q.2) ∧ q = (6, 79) := ⟨(6, 79), by kernel_rfl, rfl⟩
@[go_sem] theorem ty81_fn : isFnT Try.prog 81 = true := by kernel_rfl
@[go_sem] theorem ty81_size : sizeT Try.prog 81 = some 1 := by kernel_rfl
@[go_sem] theorem ty81_agg : isAggT Try.prog 81 = some false := by kernel_rfl
@[go_sem] theorem ty82_size : sizeT Try.prog 82 = some 1 := by kernel_rfl
@[go_sem] theorem ty82_agg : isAggT Try.prog 82 = some false := by kernel_rfl
@[go_sem] theorem ty82_known : knownT Try.prog 82 = true := by kernel_rfl
@[go_sem] theorem ty82_slc : isSlcT Try.prog 82 = true := by kernel_rfl
@[go_sem] theorem ty82_idx : idxT Try.prog 82 = some (none, 44, 20) := by kernel_rfl
@[go_sem] theorem ty82_bytes : bytesT Try.prog 82 = some 24 := by kernel_rfl
@[go_sem] theorem ty82_zero : zeroC Try.prog 82 = some [.lst .full (some true) 1 []] := by kernel_rfl
@[go_sem] theorem ty82_alloc : allocC Try.prog 82 = some [.lst .full (some true) 1 []] := by kernel_rfl
@[go_sem] theorem ty84_fn : isFnT Try.prog 84 = true := by kernel_rfl
@[go_sem] theorem ty84_size : sizeT Try.prog 84 = some 1 := by kernel_rfl
@[go_sem] theorem ty84_agg : isAggT Try.prog 84 = some false := by kernel_rfl
@[go_sem] theorem ty85_fn : isFnT Try.prog 85 = true := by kernel_rfl
@[go_sem] theorem ty85_size : sizeT Try.prog 85 = some 1 := by kernel_rfl
@[go_sem] theorem ty85_agg : isAggT Try.prog 85 = some false := by kernel_rfl
@[go_sem] theorem ty86_fn : isFnT Try.prog 86 = true := by kernel_rfl
@[go_sem] theorem ty86_size : sizeT Try.prog 86 = some 1 := by kernel_rfl
@[go_sem] theorem ty86_agg : isAggT Try.prog 86 = some false := by kernel_rfl
@[go_sem] theorem ty87_fn : isFnT Try.prog 87 = true := by kernel_rfl
@[go_sem] theorem ty87_size : sizeT Try.prog 87 = some 1 := by kernel_rfl
@[go_sem] theorem ty87_agg : isAggT Try.prog 87 = some false := by kernel_rfl
@[go_sem] theorem ty88_fn : isFnT Try.prog 88 = true := by kernel_rfl
@[go_sem] theorem ty88_size : sizeT Try.prog 88 = some 1 := by kernel_rfl
@[go_sem] theorem ty88_agg : isAggT Try.prog 88 = some false := by kernel_rfl
@[go_sem] theorem ty89_fn : isFnT Try.prog 89 = true := by kernel_rfl
@[go_sem] theorem ty89_size : sizeT Try.prog 89 = some 1 := by kernel_rfl
@[go_sem] theorem ty89_agg : isAggT Try.prog 89 = some false := by kernel_rfl
@[go_sem] theorem ty91_fn : isFnT Try.prog 91 = true := by kernel_rfl
@[go_sem] theorem ty91_size : sizeT Try.prog 91 = some 1 := by kernel_rfl
@[go_sem] theorem ty91_agg : isAggT Try.prog 91 = some false := by kernel_rfl
@[go_sem] theorem ty92_fn : isFnT Try.prog 92 = true := by kernel_rfl
@[go_sem] theorem ty92_size : sizeT Try.prog 92 = some 1 := by kernel_rfl
@[go_sem] theorem ty92_agg : isAggT Try.prog 92 = some false := by kernel_rfl
@[go_sem] theorem ty93_fn : isFnT Try.prog 93 = true := by kernel_rfl
@[go_sem] theorem ty93_size : sizeT Try.prog 93 = some 1 := by kernel_rfl
@[go_sem] theorem ty93_agg : isAggT Try.prog 93 = some false := by kernel_rfl
@[go_sem] theorem ty94_fn : isFnT Try.prog 94 = true := by kernel_rfl
@[go_sem] theorem ty94_size : sizeT Try.prog 94 = some 1 := by kernel_rfl
@[go_sem] theorem ty94_agg : isAggT Try.prog 94 = some false := by kernel_rfl
@[go_sem] theorem ty95_size : sizeT Try.prog 95 = some 3 := by kernel_rfl
@[go_sem] theorem ty95_agg : isAggT Try.prog 95 = some true := by kernel_rfl
@[go_sem] theorem ty95_known : knownT Try.prog 95 = true := by kernel_rfl
@[go_sem] theorem ty95_f0 : fldT Try.prog 95 0 = some (0, 9, 1) := by kernel_rfl
@[go_sem] theorem ty95_f1 : fldT Try.prog 95 1 = some (1, 4, 1) := by kernel_rfl
@[go_sem] theorem ty95_f2 : fldT Try.prog 95 2 = some (2, 60, 1) := by kernel_rfl
@[go_sem] theorem ty95_lay : layT Try.prog 95 = some (.str [(0, 1), (1, 1), (2, 1)]) := by kernel_rfl
@[go_sem] theorem ty95_bytes : bytesT Try.prog 95 = some 32 := by kernel_rfl
@[go_sem] theorem ty95_zero : zeroC Try.prog 95 = some [.val (.string ⟨#[]⟩), .val (.bool false), .val (.nilFunc)] := by kernel_rfl
@[go_sem] theorem ty95_alloc : allocC Try.prog 95 = some [.val (.string ⟨#[]⟩), .val (.bool false), .val (.nilFunc)] := by kernel_rfl
@[go_sem] theorem ty96_size : sizeT Try.prog 96 = some 3 := by kernel_rfl
@[go_sem] theorem ty96_agg : isAggT Try.prog 96 = some true := by kernel_rfl
@[go_sem] theorem ty96_known : knownT Try.prog 96 = true := by kernel_rfl
@[go_sem] theorem ty96_f0 : fldT Try.prog 96 0 = some (0, 9, 1) := by kernel_rfl
@[go_sem] theorem ty96_f1 : fldT Try.prog 96 1 = some (1, 4, 1) := by kernel_rfl
@[go_sem] theorem ty96_f2 : fldT Try.prog 96 2 = some (2, 60, 1) := by kernel_rfl
@[go_sem] theorem ty96_lay : layT Try.prog 96 = some (.str [(0, 1), (1, 1), (2, 1)]) := by kernel_rfl
@[go_sem] theorem ty96_bytes : bytesT Try.prog 96 = some 32 := by kernel_rfl
@[go_sem] theorem ty96_zero : zeroC Try.prog 96 = some [.val (.string ⟨#[]⟩), .val (.bool false), .val (.nilFunc)] := by kernel_rfl
@[go_sem] theorem ty96_alloc : allocC Try.prog 96 = some [.val (.string ⟨#[]⟩), .val (.bool false), .val (.nilFunc)] := by kernel_rfl
@[go_sem] theorem ty97_size : sizeT Try.prog 97 = some 69 := by kernel_rfl
@[go_sem] theorem ty97_agg : isAggT Try.prog 97 = some true := by kernel_rfl
@[go_sem] theorem ty97_known : knownT Try.prog 97 = true := by kernel_rfl
@[go_sem] theorem ty97_idx : idxT Try.prog 97 = some (some 23, 96, 3) := by kernel_rfl
@[go_sem] theorem ty97_lay : layT Try.prog 97 = some (.arr 3) := by kernel_rfl
@[go_sem] theorem ty97_bytes : bytesT Try.prog 97 = some 736 := by kernel_rfl
@[go_sem] theorem ty97_zero : zeroC Try.prog 97 = some [.val (.string ⟨#[]⟩), .val (.bool false), .val (.nilFunc), .val (.string ⟨#[]⟩), .val (.bool false), .val (.nilFunc), .val (.string ⟨#[]⟩), .val (.bool false), .val (.nilFunc), .val (.string ⟨#[]⟩), .val (.bool false), .val (.nilFunc), .val (.string ⟨#[]⟩), .val (.bool false), .val (.nilFunc), .val (.string ⟨#[]⟩), .val (.bool false), .val (.nilFunc), .val (.string ⟨#[]⟩), .val (.bool false), .val (.nilFunc), .val (.string ⟨#[]⟩), .val (.bool false), .val (.nilFunc), .val (.string ⟨#[]⟩), .val (.bool false), .val (.nilFunc), .val (.string ⟨#[]⟩), .val (.bool false), .val (.nilFunc), .val (.string ⟨#[]⟩), .val (.bool false), .val (.nilFunc), .val (.string ⟨#[]⟩), .val (.bool false), .val (.nilFunc), .val (.string ⟨#[]⟩), .val (.bool false), .val (.nilFunc), .val (.string ⟨#[]⟩), .val (.bool false), .val (.nilFunc), .val (.string ⟨#[]⟩), .val (.bool false), .val (.nilFunc), .val (.string ⟨#[]⟩), .val (.bool false), .val (.nilFunc), .val (.string ⟨#[]⟩), .val (.bool false), .val (.nilFunc), .val (.string ⟨#[]⟩), .val (.bool false), .val (.nilFunc), .val (.string ⟨#[]⟩), .val (.bool false), .val (.nilFunc), .val (.string ⟨#[]⟩), .val (.bool false), .val (.nilFunc), .val (.string ⟨#[]⟩), .val (.bool false), .val (.nilFunc), .val (.string ⟨#[]⟩), .val (.bool false), .val (.nilFunc), .val (.string ⟨#[]⟩), .val (.bool false), .val (.nilFunc)] := by kernel_rfl
@[go_sem] theorem ty97_alloc : allocC Try.prog 97 = some [.val (.string ⟨#[]⟩), .val (.bool false), .val (.nilFunc), .val (.string ⟨#[]⟩), .val (.bool false), .val (.nilFunc), .val (.string ⟨#[]⟩), .val (.bool false), .val (.nilFunc), .val (.string ⟨#[]⟩), .val (.bool false), .val (.nilFunc), .val (.string ⟨#[]⟩), .val (.bool false), .val (.nilFunc), .val (.string ⟨#[]⟩), .val (.bool false), .val (.nilFunc), .val (.string ⟨#[]⟩), .val (.bool false), .val (.nilFunc), .val (.string ⟨#[]⟩), .val (.bool false), .val (.nilFunc), .val (.string ⟨#[]⟩), .val (.bool false), .val (.nilFunc), .val (.string ⟨#[]⟩), .val (.bool false), .val (.nilFunc), .val (.string ⟨#[]⟩), .val (.bool false), .val (.nilFunc), .val (.string ⟨#[]⟩), .val (.bool false), .val (.nilFunc), .val (.string ⟨#[]⟩), .val (.bool false), .val (.nilFunc), .val (.string ⟨#[]⟩), .val (.bool false), .val (.nilFunc), .val (.string ⟨#[]⟩), .val (.bool false), .val (.nilFunc), .val (.string ⟨#[]⟩), .val (.bool false), .val (.nilFunc), .val (.string ⟨#[]⟩), .val (.bool false), .val (.nilFunc), .val (.string ⟨#[]⟩), .val (.bool false), .val (.nilFunc), .val (.string ⟨#[]⟩), .val (.bool false), .val (.nilFunc), .val (.string ⟨#[]⟩), .val (.bool false), .val (.nilFunc), .val (.string ⟨#[]⟩), .val (.bool false), .val (.nilFunc), .val (.string ⟨#[]⟩), .val (.bool false), .val (.nilFunc), .val (.string ⟨#[]⟩), .val (.bool false), .val (.nilFunc)] := by kernel_rfl
theorem ty97_und : ∃ q, Try.prog.underlying 97 = some (.array q.1 q.2) ∧ q = (23, 96) := ⟨(23, 96), by kernel_rfl, rfl⟩
@[go_sem] theorem ty98_fn : isFnT Try.prog 98 = true := by kernel_rfl
@[go_sem] theorem ty98_size : sizeT Try.prog 98 = some 1 := by kernel_rfl
@[go_sem] theorem ty98_agg : isAggT Try.prog 98 = some false := by kernel_rfl
@[go_sem] theorem ty100_fn : isFnT Try.prog 100 = true := by kernel_rfl
@[go_sem] theorem ty100_size : sizeT Try.prog 100 = some 1 := by kernel_rfl
@[go_sem] theorem ty100_agg : isAggT Try.prog 100 = some false := by kernel_rfl
@[go_sem] theorem ty102_fn : isFnT Try.prog 102 = true := by kernel_rfl
@[go_sem] theorem ty102_size : sizeT Try.prog 102 = some 1 := by kernel_rfl
@[go_sem] theorem ty102_agg : isAggT Try.prog 102 = some false := by kernel_rfl
@[go_sem] theorem ty103_fn : isFnT Try.prog 103 = true := by kernel_rfl
@[go_sem] theorem ty103_size : sizeT Try.prog 103 = some 1 := by kernel_rfl
@[go_sem] theorem ty103_agg : isAggT Try.prog 103 = some false := by kernel_rfl
@[go_sem] theorem ty104_size : sizeT Try.prog 104 = some 1 := by kernel_rfl
@[go_sem] theorem ty104_agg : isAggT Try.prog 104 = some false := by kernel_rfl
@[go_sem] theorem ty104_known : knownT Try.prog 104 = true := by kernel_rfl
@[go_sem] theorem ty104_ptr : isPtrT Try.prog 104 = true := by kernel_rfl
@[go_sem] theorem ty104_bytes : bytesT Try.prog 104 = some 8 := by kernel_rfl
@[go_sem] theorem ty104_zero : zeroC Try.prog 104 = some [.val (.pointer none)] := by kernel_rfl
@[go_sem] theorem ty104_alloc : allocC Try.prog 104 = some [.val (.pointer none)] := by kernel_rfl
@[go_sem] theorem ty105_size : sizeT Try.prog 105 = some 1 := by kernel_rfl
@[go_sem] theorem ty105_agg : isAggT Try.prog 105 = some false := by kernel_rfl
@[go_sem] theorem ty105_known : knownT Try.prog 105 = true := by kernel_rfl
@[go_sem] theorem ty105_slc : isSlcT Try.prog 105 = true := by kernel_rfl
@[go_sem] theorem ty105_idx : idxT Try.prog 105 = some (none, 21, 1) := by kernel_rfl
@[go_sem] theorem ty105_bytes : bytesT Try.prog 105 = some 24 := by kernel_rfl
@[go_sem] theorem ty105_zero : zeroC Try.prog 105 = some [.lst .full (some true) 1 []] := by kernel_rfl
@[go_sem] theorem ty105_alloc : allocC Try.prog 105 = some [.lst .full (some true) 1 []] := by kernel_rfl
@[go_sem] theorem ty106_size : sizeT Try.prog 106 = some 26 := by kernel_rfl
@[go_sem] theorem ty106_agg : isAggT Try.prog 106 = some true := by kernel_rfl
@[go_sem] theorem ty106_known : knownT Try.prog 106 = true := by kernel_rfl
@[go_sem] theorem ty106_f0 : fldT Try.prog 106 0 = some (0, 44, 20) := by kernel_rfl
@[go_sem] theorem ty106_f1 : fldT Try.prog 106 1 = some (20, 40, 2) := by kernel_rfl
@[go_sem] theorem ty106_f2 : fldT Try.prog 106 2 = some (22, 105, 1) := by kernel_rfl
@[go_sem] theorem ty106_f3 : fldT Try.prog 106 3 = some (23, 3, 1) := by kernel_rfl
@[go_sem] theorem ty106_f4 : fldT Try.prog 106 4 = some (24, 3, 1) := by kernel_rfl
@[go_sem] theorem ty106_f5 : fldT Try.prog 106 5 = some (25, 4, 1) := by kernel_rfl
@[go_sem] theorem ty106_lay : layT Try.prog 106 = some (.str [(0, 20), (20, 2), (22, 1), (23, 1), (24, 1), (25, 1)]) := by kernel_rfl
@[go_sem] theorem ty106_bytes : bytesT Try.prog 106 = some 144 := by kernel_rfl
@[go_sem] theorem ty106_zero : zeroC Try.prog 106 = some [.val (.int .i64 0), .val (.int .i32 0), .val (.int .i32 0), .val (.int .i32 0), .val (.int .i32 0), .val (.int .i32 0), .val (.int .i32 0), .val (.int .i32 0), .val (.int .i32 0), .val (.int .i32 0), .val (.int .i32 0), .val (.int .i32 0), .val (.int .i32 0), .val (.int .i32 0), .val (.int .i32 0), .val (.int .i32 0), .val (.int .i32 0), .val (.int .u32 0), .val (.bool false), .val (.int .i64 0), .val (.int .u16 0), .val (.int .u16 0), .lst .full (some true) 1 [], .val (.int .i64 0), .val (.int .i64 0), .val (.bool false)] := by kernel_rfl
@[go_sem] theorem ty106_alloc : allocC Try.prog 106 = some [.val (.int .i64 0), .val (.int .i32 0), .val (.int .i32 0), .val (.int .i32 0), .val (.int .i32 0), .val (.int .i32 0), .val (.int .i32 0), .val (.int .i32 0), .val (.int .i32 0), .val (.int .i32 0), .val (.int .i32 0), .val (.int .i32 0), .val (.int .i32 0), .val (.int .i32 0), .val (.int .i32 0), .val (.int .i32 0), .val (.int .i32 0), .val (.int .u32 0), .val (.bool false), .val (.int .i64 0), .val (.int .u16 0), .val (.int .u16 0), .lst .full (some true) 1 [], .val (.int .i64 0), .val (.int .i64 0), .val (.bool false)] := by kernel_rfl
@[go_sem] theorem ty107_size : sizeT Try.prog 107 = some 26 := by kernel_rfl
@[go_sem] theorem ty107_agg : isAggT Try.prog 107 = some true := by kernel_rfl
@[go_sem] theorem ty107_known : knownT Try.prog 107 = true := by kernel_rfl
@[go_sem] theorem ty107_f0 : fldT Try.prog 107 0 = some (0, 44, 20) := by kernel_rfl
@[go_sem] theorem ty107_f1 : fldT Try.prog 107 1 = some (20, 40, 2) := by kernel_rfl
@[go_sem] theorem ty107_f2 : fldT Try.prog 107 2 = some (22, 105, 1) := by kernel_rfl
@[go_sem] theorem ty107_f3 : fldT Try.prog 107 3 = some (23, 3, 1) := by kernel_rfl
@[go_sem] theorem ty107_f4 : fldT Try.prog 107 4 = some (24, 3, 1) := by kernel_rfl
@[go_sem] theorem ty107_f5 : fldT Try.prog 107 5 = some (25, 4, 1) := by kernel_rfl
@[go_sem] theorem ty107_lay : layT Try.prog 107 = some (.str [(0, 20), (20, 2), (22, 1), (23, 1), (24, 1), (25, 1)]) := by kernel_rfl
@[go_sem] theorem ty107_bytes : bytesT Try.prog 107 = some 144 := by kernel_rfl
@[go_sem] theorem ty107_zero : zeroC Try.prog 107 = some [.val (.int .i64 0), .val (.int .i32 0), .val (.int .i32 0), .val (.int .i32 0), .val (.int .i32 0), .val (.int .i32 0), .val (.int .i32 0), .val (.int .i32 0), .val (.int .i32 0), .val (.int .i32 0), .val (.int .i32 0), .val (.int .i32 0), .val (.int .i32 0), .val (.int .i32 0), .val (.int .i32 0), .val (.int .i32 0), .val (.int .i32 0), .val (.int .u32 0), .val (.bool false), .val (.int .i64 0), .val (.int .u16 0), .val (.int .u16 0), .lst .full (some true) 1 [], .val (.int .i64 0), .val (.int .i64 0), .val (.bool false)] := by kernel_rfl
@[go_sem] theorem ty107_alloc : allocC Try.prog 107 = some [.val (.int .i64 0), .val (.int .i32 0), .val (.int .i32 0), .val (.int .i32 0), .val (.int .i32 0), .val (.int .i32 0), .val (.int .i32 0), .val (.int .i32 0), .val (.int .i32 0), .val (.int .i32 0), .val (.int .i32 0), .val (.int .i32 0), .val (.int .i32 0), .val (.int .i32 0), .val (.int .i32 0), .val (.int .i32 0), .val (.int .i32 0), .val (.int .u32 0), .val (.bool false), .val (.int .i64 0), .val (.int .u16 0), .val (.int .u16 0), .lst .full (some true) 1 [], .val (.int .i64 0), .val (.int .i64 0), .val (.bool false)] := by kernel_rfl
@[go_sem] theorem ty108_fn : isFnT Try.prog 108 = true := by kernel_rfl
@[go_sem] theorem ty108_size : sizeT Try.prog 108 = some 1 := by kernel_rfl
@[go_sem] theorem ty108_agg : isAggT Try.prog 108 = some false := by kernel_rfl
@[go_sem] theorem ty109_size : sizeT Try.prog 109 = some 1 := by kernel_rfl
@[go_sem] theorem ty109_agg : isAggT Try.prog 109 = some false := by kernel_rfl
@[go_sem] theorem ty109_known : knownT Try.prog 109 = true := by kernel_rfl
@[go_sem] theorem ty109_ptr : isPtrT Try.prog 109 = true := by kernel_rfl
@[go_sem] theorem ty109_bytes : bytesT Try.prog 109 = some 8 := by kernel_rfl
@[go_sem] theorem ty109_zero : zeroC Try.prog 109 = some [.val (.pointer none)] := by kernel_rfl
@[go_sem] theorem ty109_alloc : allocC Try.prog 109 = some [.val (.pointer none)] := by kernel_rfl
@[go_sem] theorem ty110_size : sizeT Try.prog 110 = some 26 := by kernel_rfl
@[go_sem] theorem ty110_agg : isAggT Try.prog 110 = some true := by kernel_rfl
@[go_sem] theorem ty110_known : knownT Try.prog 110 = true := by kernel_rfl
@[go_sem] theorem ty110_f0 : fldT Try.prog 110 0 = some (0, 44, 20) := by kernel_rfl
@[go_sem] theorem ty110_f1 : fldT Try.prog 110 1 = some (20, 40, 2) := by kernel_rfl
@[go_sem] theorem ty110_f2 : fldT Try.prog 110 2 = some (22, 105, 1) := by kernel_rfl
@[go_sem] theorem ty110_f3 : fldT Try.prog 110 3 = some (23, 3, 1) := by kernel_rfl
@[go_sem] theorem ty110_f4 : fldT Try.prog 110 4 = some (24, 4, 1) := by kernel_rfl
@[go_sem] theorem ty110_f5 : fldT Try.prog 110 5 = some (25, 4, 1) := by kernel_rfl
@[go_sem] theorem ty110_lay : layT Try.prog 110 = some (.str [(0, 20), (20, 2), (22, 1), (23, 1), (24, 1), (25, 1)]) := by kernel_rfl
@[go_sem] theorem ty110_bytes : bytesT Try.prog 110 = some 136 := by kernel_rfl
@[go_sem] theorem ty110_zero : zeroC Try.prog 110 = some [.val (.int .i64 0), .val (.int .i32 0), .val (.int .i32 0), .val (.int .i32 0), .val (.int .i32 0), .val (.int .i32 0), .val (.int .i32 0), .val (.int .i32 0), .val (.int .i32 0), .val (.int .i32 0), .val (.int .i32 0), .val (.int .i32 0), .val (.int .i32 0), .val (.int .i32 0), .val (.int .i32 0), .val (.int .i32 0), .val (.int .i32 0), .val (.int .u32 0), .val (.bool false), .val (.int .i64 0), .val (.int .u16 0), .val (.int .u16 0), .lst .full (some true) 1 [], .val (.int .i64 0), .val (.bool false), .val (.bool false)] := by kernel_rfl
@[go_sem] theorem ty110_alloc : allocC Try.prog 110 = some [.val (.int .i64 0), .val (.int .i32 0), .val (.int .i32 0), .val (.int .i32 0), .val (.int .i32 0), .val (.int .i32 0), .val (.int .i32 0), .val (.int .i32 0), .val (.int .i32 0), .val (.int .i32 0), .val (.int .i32 0), .val (.int .i32 0), .val (.int .i32 0), .val (.int .i32 0), .val (.int .i32 0), .val (.int .i32 0), .val (.int .i32 0), .val (.int .u32 0), .val (.bool false), .val (.int .i64 0), .val (.int .u16 0), .val (.int .u16 0), .lst .full (some true) 1 [], .val (.int .i64 0), .val (.bool false), .val (.bool false)] := by kernel_rfl
@[go_sem] theorem ty111_size : sizeT Try.prog 111 = some 26 := by kernel_rfl
@[go_sem] theorem ty111_agg : isAggT Try.prog 111 = some true := by kernel_rfl
@[go_sem] theorem ty111_known : knownT Try.prog 111 = true := by kernel_rfl
@[go_sem] theorem ty111_f0 : fldT Try.prog 111 0 = some (0, 44, 20) := by kernel_rfl
@[go_sem] theorem ty111_f1 : fldT Try.prog 111 1 = some (20, 40, 2) := by kernel_rfl
@[go_sem] theorem ty111_f2 : fldT Try.prog 111 2 = some (22, 105, 1) := by kernel_rfl
@[go_sem] theorem ty111_f3 : fldT Try.prog 111 3 = some (23, 3, 1) := by kernel_rfl
@[go_sem] theorem ty111_f4 : fldT Try.prog 111 4 = some (24, 4, 1) := by kernel_rfl
@[go_sem] theorem ty111_f5 : fldT Try.prog 111 5 = some (25, 4, 1) := by kernel_rfl
@[go_sem] theorem ty111_lay : layT Try.prog 111 = some (.str [(0, 20), (20, 2), (22, 1), (23, 1), (24, 1), (25, 1)]) := by kernel_rfl
@[go_sem] theorem ty111_bytes : bytesT Try.prog 111 = some 136 := by kernel_rfl
@[go_sem] theorem ty111_zero : zeroC Try.prog 111 = some [.val (.int .i64 0), .val (.int .i32 0), .val (.int .i32 0), .val (.int .i32 0), .val (.int .i32 0), .val (.int .i32 0), .val (.int .i32 0), .val (.int .i32 0), .val (.int .i32 0), .val (.int .i32 0), .val (.int .i32 0), .val (.int .i32 0), .val (.int .i32 0), .val (.int .i32 0), .val (.int .i32 0), .val (.int .i32 0), .val (.int .i32 0), .val (.int .u32 0), .val (.bool false), .val (.int .i64 0), .val (.int .u16 0), .val (.int .u16 0), .lst .full (some true) 1 [], .val (.int .i64 0), .val (.bool false), .val (.bool false)] := by kernel_rfl
@[go_sem] theorem ty111_alloc : allocC Try.prog 111 = some [.val (.int .i64 0), .val (.int .i32 0), .val (.int .i32 0), .val (.int .i32 0), .val (.int .i32 0), .val (.int .i32 0), .val (.int .i32 0), .val (.int .i32 0), .val (.int .i32 0), .val (.int .i32 0), .val (.int .i32 0), .val (.int .i32 0), .val (.int .i32 0), .val (.int .i32 0), .val (.int .i32 0), .val (.int .i32 0), .val (.int .i32 0), .val (.int .u32 0), .val (.bool false), .val (.int .i64 0), .val (.int .u16 0), .val (.int .u16 0), .lst .full (some true) 1 [], .val (.int .i64 0), .val (.bool false), .val (.bool false)] := by kernel_rfl
@[go_sem] theorem ty112_fn : isFnT Try.prog 112 = true := by kernel_rfl
@[go_sem] theorem ty112_size : sizeT Try.prog 112 = some 1 := by kernel_rfl
@[go_sem] theorem ty112_agg : isAggT Try.prog 112 = some false := by kernel_rfl
@[go_sem] theorem ty113_fn : isFnT Try.prog 113 = true := by kernel_rfl
@[go_sem] theorem ty113_size : sizeT Try.prog 113 = some 1 := by kernel_rfl
@[go_sem] theorem ty113_agg : isAggT Try.prog 113 = some false := by kernel_rfl
@[go_sem] theorem ty114_fn : isFnT Try.prog 114 = true := by kernel_rfl
@[go_sem] theorem ty114_size : sizeT Try.prog 114 = some 1 := by kernel_rfl
@[go_sem] theorem ty114_agg : isAggT Try.prog 114 = some false := by kernel_rfl
@[go_sem] theorem ty115_size : sizeT Try.prog 115 = some 1 := by kernel_rfl
@[go_sem] theorem ty115_agg : isAggT Try.prog 115 = some false := by kernel_rfl
@[go_sem] theorem ty115_known : knownT Try.prog 115 = true := by kernel_rfl
@[go_sem] theorem ty115_kind : kindT Try.prog 115 = some .u64 := by kernel_rfl
@[go_sem] theorem ty115_isint : isIntT Try.prog 115 = true := by kernel_rfl
@[go_sem] theorem ty115_bytes : bytesT Try.prog 115 = some 8 := by kernel_rfl
@[go_sem] theorem ty115_zero : zeroC Try.prog 115 = some [.val (.int .u64 0)] := by kernel_rfl
@[go_sem] theorem ty115_alloc : allocC Try.prog 115 = some [.val (.int .u64 0)] := by kernel_rfl
@[go_sem] theorem ty116_fn : isFnT Try.prog 116 = true := by kernel_rfl
@[go_sem] theorem ty116_size : sizeT Try.prog 116 = some 1 := by kernel_rfl
@[go_sem] theorem ty116_agg : isAggT Try.prog 116 = some false := by kernel_rfl
@[go_sem] theorem ty117_fn : isFnT Try.prog 117 = true := by kernel_rfl
@[go_sem] theorem ty117_size : sizeT Try.prog 117 = some 1 := by kernel_rfl
@[go_sem] theorem ty117_agg : isAggT Try.prog 117 = some false := by kernel_rfl
@[go_sem] theorem ty118_size : sizeT Try.prog 118 = some 23 := by kernel_rfl
@[go_sem] theorem ty118_agg : isAggT Try.prog 118 = some true := by kernel_rfl
@[go_sem] theorem ty118_known : knownT Try.prog 118 = true := by kernel_rfl
@[go_sem] theorem ty118_idx : idxT Try.prog 118 = some (some 23, 117, 1) := by kernel_rfl
@[go_sem] theorem ty118_lay : layT Try.prog 118 = some (.arr 1) := by kernel_rfl
@[go_sem] theorem ty118_bytes : bytesT Try.prog 118 = some 184 := by kernel_rfl
@[go_sem] theorem ty118_zero : zeroC Try.prog 118 = some [.val (.nilFunc), .val (.nilFunc), .val (.nilFunc), .val (.nilFunc), .val (.nilFunc), .val (.nilFunc), .val (.nilFunc), .val (.nilFunc), .val (.nilFunc), .val (.nilFunc), .val (.nilFunc), .val (.nilFunc), .val (.nilFunc), .val (.nilFunc), .val (.nilFunc), .val (.nilFunc), .val (.nilFunc), .val (.nilFunc), .val (.nilFunc), .val (.nilFunc), .val (.nilFunc), .val (.nilFunc), .val (.nilFunc)] := by kernel_rfl
@[go_sem] theorem ty118_alloc : allocC Try.prog 118 = some [.val (.nilFunc), .val (.nilFunc), .val (.nilFunc), .val (.nilFunc), .val (.nilFunc), .val (.nilFunc), .val (.nilFunc), .val (.nilFunc), .val (.nilFunc), .val (.nilFunc), .val (.nilFunc), .val (.nilFunc), .val (.nilFunc), .val (.nilFunc), .val (.nilFunc), .val (.nilFunc), .val (.nilFunc), .val (.nilFunc), .val (.nilFunc), .val (.nilFunc), .val (.nilFunc), .val (.nilFunc), .val (.nilFunc)] := by kernel_rfl
theorem ty118_und : ∃ q, Try.prog.underlying 118 = some (.array q.1 q.2) ∧ q = (23, 117) := ⟨(23, 117), by kernel_rfl, rfl⟩
@[go_sem] theorem ty119_fn : isFnT Try.prog 119 = true := by kernel_rfl
@[go_sem] theorem ty119_size : sizeT Try.prog 119 = some 1 := by kernel_rfl
@[go_sem] theorem ty119_agg : isAggT Try.prog 119 = some false := by kernel_rfl
@[go_sem] theorem ty120_fn : isFnT Try.prog 120 = true := by kernel_rfl
@[go_sem] theorem ty120_size : sizeT Try.prog 120 = some 1 := by kernel_rfl
@[go_sem] theorem ty120_agg : isAggT Try.prog 120 = some false := by kernel_rfl
@[go_sem] theorem ty121_fn : isFnT Try.prog 121 = true := by kernel_rfl
@[go_sem] theorem ty121_size : sizeT Try.prog 121 = some 1 := by kernel_rfl
@[go_sem] theorem ty121_agg : isAggT Try.prog 121 = some false := by kernel_rfl
@[go_sem] theorem ty122_fn : isFnT Try.prog 122 = true := by kernel_rfl
@[go_sem] theorem ty122_size : sizeT Try.prog 122 = some 1 := by kernel_rfl
@[go_sem] theorem ty122_agg : isAggT Try.prog 122 = some false := by kernel_rfl
@[go_sem] theorem ty123_fn : isFnT Try.prog 123 = true := by kernel_rfl
@[go_sem] theorem ty123_size : sizeT Try.prog 123 = some 1 := by kernel_rfl
@[go_sem] theorem ty123_agg : isAggT Try.prog 123 = some false := by kernel_rfl
@[go_sem] theorem ty124_fn : isFnT Try.prog 124 = true := by kernel_rfl
@[go_sem] theorem ty124_size : sizeT Try.prog 124 = some 1 := by kernel_rfl
@[go_sem] theorem ty124_agg : isAggT Try.prog 124 = some false := by kernel_rfl
@[go_sem] theorem ty125_fn : isFnT Try.prog 125 = true := by kernel_rfl
@[go_sem] theorem ty125_size : sizeT Try.prog 125 = some 1 := by kernel_rfl
@[go_sem] theorem ty125_agg : isAggT Try.prog 125 = some false := by kernel_rfl
@[go_sem] theorem ty126_size : sizeT Try.prog 126 = some 4 := by kernel_rfl
@[go_sem] theorem ty126_agg : isAggT Try.prog 126 = some true := by kernel_rfl
@[go_sem] theorem ty126_known : knownT Try.prog 126 = true := by kernel_rfl
@[go_sem] theorem ty126_f0 : fldT Try.prog 126 0 = some (0, 17, 1) := by kernel_rfl
@[go_sem] theorem ty126_f1 : fldT Try.prog 126 1 = some (1, 17, 1) := by kernel_rfl
@[go_sem] theorem ty126_f2 : fldT Try.prog 126 2 = some (2, 17, 1) := by kernel_rfl
@[go_sem] theorem ty126_f3 : fldT Try.prog 126 3 = some (3, 9, 1) := by kernel_rfl
@[go_sem] theorem ty126_lay : layT Try.prog 126 = some (.str [(0, 1), (1, 1), (2, 1), (3, 1)]) := by kernel_rfl
@[go_sem] theorem ty126_bytes : bytesT Try.prog 126 = some 40 := by kernel_rfl
@[go_sem] theorem ty126_zero : zeroC Try.prog 126 = some [.val (.pointer none), .val (.pointer none), .val (.pointer none), .val (.string ⟨#[]⟩)] := by kernel_rfl
@[go_sem] theorem ty126_alloc : allocC Try.prog 126 = some [.val (.pointer none), .val (.pointer none), .val (.pointer none), .val (.string ⟨#[]⟩)] := by kernel_rfl
@[go_sem] theorem ty128_size : sizeT Try.prog 128 = some 0 := by kernel_rfl
@[go_sem] theorem ty128_agg : isAggT Try.prog 128 = some true := by kernel_rfl
@[go_sem] theorem ty128_known : knownT Try.prog 128 = true := by kernel_rfl
@[go_sem] theorem ty128_idx : idxT Try.prog 128 = some (some 0, 16, 1) := by kernel_rfl
@[go_sem] theorem ty128_lay : layT Try.prog 128 = some (.arr 1) := by kernel_rfl
@[go_sem] theorem ty128_bytes : bytesT Try.prog 128 = some 0 := by kernel_rfl
@[go_sem] theorem ty128_zero : zeroC Try.prog 128 = some [] := by kernel_rfl
@[go_sem] theorem ty128_alloc : allocC Try.prog 128 = some [] := by kernel_rfl
theorem ty128_und : ∃ q, Try.prog.underlying 128 = some (.array q.1 q.2) ∧ q = (0, 16) := ⟨(0, 16), by kernel_rfl, rfl⟩
@[go_sem] theorem ty129_size : sizeT Try.prog 129 = some 0 := by kernel_rfl
@[go_sem] theorem ty129_agg : isAggT Try.prog 129 = some true := by kernel_rfl
@[go_sem] theorem ty129_known : knownT Try.prog 129 = true := by kernel_rfl
@[go_sem] theorem ty129_f0 : fldT Try.prog 129 0 = some (0, 128, 0) := by kernel_rfl
@[go_sem] theorem ty129_lay : layT Try.prog 129 = some (.str [(0, 0)]) := by kernel_rfl
@[go_sem] theorem ty129_bytes : bytesT Try.prog 129 = some 0 := by kernel_rfl
@[go_sem] theorem ty129_zero : zeroC Try.prog 129 = some [] := by kernel_rfl
@[go_sem] theorem ty129_alloc : allocC Try.prog 129 = some [] := by kernel_rfl
@[go_sem] theorem ty131_fn : isFnT Try.prog 131 = true := by kernel_rfl
@[go_sem] theorem ty131_size : sizeT Try.prog 131 = some 1 := by kernel_rfl
@[go_sem] theorem ty131_agg : isAggT Try.prog 131 = some false := by kernel_rfl
@[go_sem] theorem ty134_fn : isFnT Try.prog 134 = true := by kernel_rfl
@[go_sem] theorem ty134_size : sizeT Try.prog 134 = some 1 := by kernel_rfl
@[go_sem] theorem ty134_agg : isAggT Try.prog 134 = some false := by kernel_rfl
@[go_sem] theorem ty135_size : sizeT Try.prog 135 = some 1 := by kernel_rfl
@[go_sem] theorem ty135_agg : isAggT Try.prog 135 = some false := by kernel_rfl
@[go_sem] theorem ty135_known : knownT Try.prog 135 = true := by kernel_rfl
@[go_sem] theorem ty135_ptr : isPtrT Try.prog 135 = true := by kernel_rfl
@[go_sem] theorem ty135_bytes : bytesT Try.prog 135 = some 8 := by kernel_rfl
@[go_sem] theorem ty135_zero : zeroC Try.prog 135 = some [.val (.pointer none)] := by kernel_rfl
@[go_sem] theorem ty135_alloc : allocC Try.prog 135 = some [.val (.pointer none)] := by kernel_rfl
@[go_sem] theorem ty138_size : sizeT Try.prog 138 = some 11 := by kernel_rfl
@[go_sem] theorem ty138_agg : isAggT Try.prog 138 = some true := by kernel_rfl
@[go_sem] theorem ty138_known : knownT Try.prog 138 = true := by kernel_rfl
@[go_sem] theorem ty138_f0 : fldT Try.prog 138 0 = some (0, 12, 1) := by kernel_rfl
@[go_sem] theorem ty138_f1 : fldT Try.prog 138 1 = some (1, 12, 1) := by kernel_rfl
@[go_sem] theorem ty138_f2 : fldT Try.prog 138 2 = some (2, 42, 1) := by kernel_rfl
@[go_sem] theorem ty138_f3 : fldT Try.prog 138 3 = some (3, 132, 1) := by kernel_rfl
@[go_sem] theorem ty138_f4 : fldT Try.prog 138 4 = some (4, 5, 1) := by kernel_rfl
@[go_sem] theorem ty138_f5 : fldT Try.prog 138 5 = some (5, 5, 1) := by kernel_rfl
@[go_sem] theorem ty138_f6 : fldT Try.prog 138 6 = some (6, 133, 1) := by kernel_rfl
@[go_sem] theorem ty138_f7 : fldT Try.prog 138 7 = some (7, 134, 1) := by kernel_rfl
@[go_sem] theorem ty138_f8 : fldT Try.prog 138 8 = some (8, 135, 1) := by kernel_rfl
@[go_sem] theorem ty138_f9 : fldT Try.prog 138 9 = some (9, 136, 1) := by kernel_rfl
@[go_sem] theorem ty138_f10 : fldT Try.prog 138 10 = some (10, 137, 1) := by kernel_rfl
@[go_sem] theorem ty138_lay : layT Try.prog 138 = some (.str [(0, 1), (1, 1), (2, 1), (3, 1), (4, 1), (5, 1), (6, 1), (7, 1), (8, 1), (9, 1), (10, 1)]) := by kernel_rfl
@[go_sem] theorem ty138_bytes : bytesT Try.prog 138 = some 48 := by kernel_rfl
@[go_sem] theorem ty138_zero : zeroC Try.prog 138 = some [.val (.int .u64 0), .val (.int .u64 0), .val (.int .u32 0), .val (.int .u8 0), .val (.int .u8 0), .val (.int .u8 0), .val (.int .u8 0), .val (.nilFunc), .val (.pointer none), .val (.int .i32 0), .val (.int .i32 0)] := by kernel_rfl
@[go_sem] theorem ty138_alloc : allocC Try.prog 138 = some [.val (.int .u64 0), .val (.int .u64 0), .val (.int .u32 0), .val (.int .u8 0), .val (.int .u8 0), .val (.int .u8 0), .val (.int .u8 0), .val (.nilFunc), .val (.pointer none), .val (.int .i32 0), .val (.int .i32 0)] := by kernel_rfl
@[go_sem] theorem ty140_size : sizeT Try.prog 140 = some 1 := by kernel_rfl
@[go_sem] theorem ty140_agg : isAggT Try.prog 140 = some false := by kernel_rfl
@[go_sem] theorem ty140_known : knownT Try.prog 140 = true := by kernel_rfl
@[go_sem] theorem ty140_bytes : bytesT Try.prog 140 = some 8 := by kernel_rfl
@[go_sem] theorem ty140_zero : zeroC Try.prog 140 = some [.val (.pointer none)] := by kernel_rfl
@[go_sem] theorem ty140_alloc : allocC Try.prog 140 = some [.val (.pointer none)] := by kernel_rfl
end Go.Proofs.Ytamcjecgkfmjkaa
