/- What the logic asks of the types of this program. -/
import Derived.Test.YtbkmmelhfkcmgaaProg
import Derived.Test.YtbkmmelhfkcmgaaAwN
open Go Go.RowKit
namespace Go.Proofs.Ytbkmmelhfkcmgaa
theorem mixed : Try.prog.follows .mixedOrders = true := by kernel_rfl
@[go_sem] theorem ty1_fn : isFnT Try.prog 1 = true := by kernel_rfl
@[go_sem] theorem ty2_size : sizeT Try.prog 2 = some 1 := by kernel_rfl
@[go_sem] theorem ty2_agg : isAggT Try.prog 2 = some false := by kernel_rfl
@[go_sem] theorem ty2_known : knownT Try.prog 2 = true := by kernel_rfl
@[go_sem] theorem ty2_kind : kindT Try.prog 2 = some .i64 := by kernel_rfl
@[go_sem] theorem ty2_isint : isIntT Try.prog 2 = true := by kernel_rfl
@[go_sem] theorem ty2_bytes : bytesT Try.prog 2 = some 8 := by kernel_rfl
@[go_sem] theorem ty2_zero : zeroC Try.prog 2 = some [.val (.int .i64 0)] := by kernel_rfl
@[go_sem] theorem ty2_alloc : allocC Try.prog 2 = some [.val (.int .i64 0)] := by kernel_rfl
@[go_sem] theorem ty3_size : sizeT Try.prog 3 = some 1 := by kernel_rfl
@[go_sem] theorem ty3_agg : isAggT Try.prog 3 = some false := by kernel_rfl
@[go_sem] theorem ty3_known : knownT Try.prog 3 = true := by kernel_rfl
@[go_sem] theorem ty3_kind : kindT Try.prog 3 = some .i64 := by kernel_rfl
@[go_sem] theorem ty3_isint : isIntT Try.prog 3 = true := by kernel_rfl
@[go_sem] theorem ty3_bytes : bytesT Try.prog 3 = some 8 := by kernel_rfl
@[go_sem] theorem ty3_zero : zeroC Try.prog 3 = some [.val (.int .i64 0)] := by kernel_rfl
@[go_sem] theorem ty3_alloc : allocC Try.prog 3 = some [.val (.int .i64 0)] := by kernel_rfl
@[go_sem] theorem ty4_size : sizeT Try.prog 4 = some 1 := by kernel_rfl
@[go_sem] theorem ty4_agg : isAggT Try.prog 4 = some false := by kernel_rfl
@[go_sem] theorem ty4_known : knownT Try.prog 4 = true := by kernel_rfl
@[go_sem] theorem ty4_bool : isBoolT Try.prog 4 = true := by kernel_rfl
@[go_sem] theorem ty4_bytes : bytesT Try.prog 4 = some 1 := by kernel_rfl
@[go_sem] theorem ty4_zero : zeroC Try.prog 4 = some [.val (.bool false)] := by kernel_rfl
@[go_sem] theorem ty4_alloc : allocC Try.prog 4 = some [.val (.bool false)] := by kernel_rfl
@[go_sem] theorem ty5_size : sizeT Try.prog 5 = some 1 := by kernel_rfl
@[go_sem] theorem ty5_agg : isAggT Try.prog 5 = some false := by kernel_rfl
@[go_sem] theorem ty5_known : knownT Try.prog 5 = true := by kernel_rfl
@[go_sem] theorem ty5_kind : kindT Try.prog 5 = some .u8 := by kernel_rfl
@[go_sem] theorem ty5_isint : isIntT Try.prog 5 = true := by kernel_rfl
@[go_sem] theorem ty5_bytes : bytesT Try.prog 5 = some 1 := by kernel_rfl
@[go_sem] theorem ty5_zero : zeroC Try.prog 5 = some [.val (.int .u8 0)] := by kernel_rfl
@[go_sem] theorem ty5_alloc : allocC Try.prog 5 = some [.val (.int .u8 0)] := by kernel_rfl
@[go_sem] theorem ty7_size : sizeT Try.prog 7 = some 4 := by kernel_rfl
@[go_sem] theorem ty7_agg : isAggT Try.prog 7 = some true := by kernel_rfl
@[go_sem] theorem ty7_known : knownT Try.prog 7 = true := by kernel_rfl
@[go_sem] theorem ty7_flat : flatT Try.prog 7 = some (List.replicate 1 (some .i64) ++ List.replicate 1 (some .i64) ++ List.replicate 1 (none) ++ List.replicate 1 (some .u8)) := by kernel_rfl
@[go_sem] theorem ty7_f0 : fldT Try.prog 7 0 = some (0, 2, 1) := by kernel_rfl
@[go_sem] theorem ty7_f1 : fldT Try.prog 7 1 = some (1, 3, 1) := by kernel_rfl
@[go_sem] theorem ty7_f2 : fldT Try.prog 7 2 = some (2, 4, 1) := by kernel_rfl
@[go_sem] theorem ty7_f3 : fldT Try.prog 7 3 = some (3, 6, 1) := by kernel_rfl
@[go_sem] theorem ty7_lay : layT Try.prog 7 = some (.str [(0, 1), (1, 1), (2, 1), (3, 1)]) := by kernel_rfl
@[go_sem] theorem ty7_bytes : bytesT Try.prog 7 = some 24 := by kernel_rfl
@[go_sem] theorem ty7_zero : zeroC Try.prog 7 = some [.val (.int .i64 0), .val (.int .i64 0), .val (.bool false), .val (.int .u8 0)] := by kernel_rfl
@[go_sem] theorem ty7_alloc : allocC Try.prog 7 = some [.val (.int .i64 0), .val (.int .i64 0), .val (.bool false), .val (.int .u8 0)] := by kernel_rfl
@[go_sem] theorem ty9_size : sizeT Try.prog 9 = some 1 := by kernel_rfl
@[go_sem] theorem ty9_agg : isAggT Try.prog 9 = some false := by kernel_rfl
@[go_sem] theorem ty9_known : knownT Try.prog 9 = true := by kernel_rfl
@[go_sem] theorem ty9_str : isStrT Try.prog 9 = true := by kernel_rfl
@[go_sem] theorem ty9_sb : sbT Try.prog 9 = some false := by kernel_rfl
@[go_sem] theorem ty9_bytes : bytesT Try.prog 9 = some 16 := by kernel_rfl
@[go_sem] theorem ty9_zero : zeroC Try.prog 9 = some [.val (.string ⟨#[]⟩)] := by kernel_rfl
@[go_sem] theorem ty9_alloc : allocC Try.prog 9 = some [.val (.string ⟨#[]⟩)] := by kernel_rfl
@[go_sem] theorem ty12_size : sizeT Try.prog 12 = some 1 := by kernel_rfl
@[go_sem] theorem ty12_agg : isAggT Try.prog 12 = some false := by kernel_rfl
@[go_sem] theorem ty12_known : knownT Try.prog 12 = true := by kernel_rfl
@[go_sem] theorem ty12_kind : kindT Try.prog 12 = some .u64 := by kernel_rfl
@[go_sem] theorem ty12_isint : isIntT Try.prog 12 = true := by kernel_rfl
@[go_sem] theorem ty12_bytes : bytesT Try.prog 12 = some 8 := by kernel_rfl
@[go_sem] theorem ty12_zero : zeroC Try.prog 12 = some [.val (.int .u64 0)] := by kernel_rfl
@[go_sem] theorem ty12_alloc : allocC Try.prog 12 = some [.val (.int .u64 0)] := by kernel_rfl
@[go_sem] theorem ty13_size : sizeT Try.prog 13 = some 2 := by kernel_rfl
@[go_sem] theorem ty13_agg : isAggT Try.prog 13 = some true := by kernel_rfl
@[go_sem] theorem ty13_known : knownT Try.prog 13 = true := by kernel_rfl
@[go_sem] theorem ty13_f0 : fldT Try.prog 13 0 = some (0, 9, 1) := by kernel_rfl
@[go_sem] theorem ty13_f1 : fldT Try.prog 13 1 = some (1, 12, 1) := by kernel_rfl
@[go_sem] theorem ty13_lay : layT Try.prog 13 = some (.str [(0, 1), (1, 1)]) := by kernel_rfl
@[go_sem] theorem ty13_bytes : bytesT Try.prog 13 = some 24 := by kernel_rfl
@[go_sem] theorem ty13_zero : zeroC Try.prog 13 = some [.val (.string ⟨#[]⟩), .val (.int .u64 0)] := by kernel_rfl
@[go_sem] theorem ty13_alloc : allocC Try.prog 13 = some [.val (.string ⟨#[]⟩), .val (.int .u64 0)] := by kernel_rfl
@[go_sem] theorem ty15_size : sizeT Try.prog 15 = some 1 := by kernel_rfl
@[go_sem] theorem ty15_agg : isAggT Try.prog 15 = some false := by kernel_rfl
@[go_sem] theorem ty15_known : knownT Try.prog 15 = true := by kernel_rfl
@[go_sem] theorem ty15_ptr : isPtrT Try.prog 15 = true := by kernel_rfl
@[go_sem] theorem ty15_bytes : bytesT Try.prog 15 = some 8 := by kernel_rfl
@[go_sem] theorem ty15_zero : zeroC Try.prog 15 = some [.val (.pointer none)] := by kernel_rfl
@[go_sem] theorem ty15_alloc : allocC Try.prog 15 = some [.val (.pointer none)] := by kernel_rfl
@[go_sem] theorem ty16_size : sizeT Try.prog 16 = some 1 := by kernel_rfl
@[go_sem] theorem ty16_agg : isAggT Try.prog 16 = some false := by kernel_rfl
@[go_sem] theorem ty16_known : knownT Try.prog 16 = true := by kernel_rfl
@[go_sem] theorem ty16_ptr : isPtrT Try.prog 16 = true := by kernel_rfl
@[go_sem] theorem ty16_bytes : bytesT Try.prog 16 = some 8 := by kernel_rfl
@[go_sem] theorem ty16_zero : zeroC Try.prog 16 = some [.val (.pointer none)] := by kernel_rfl
@[go_sem] theorem ty16_alloc : allocC Try.prog 16 = some [.val (.pointer none)] := by kernel_rfl
@[go_sem] theorem ty17_size : sizeT Try.prog 17 = some 1 := by kernel_rfl
@[go_sem] theorem ty17_agg : isAggT Try.prog 17 = some false := by kernel_rfl
@[go_sem] theorem ty17_known : knownT Try.prog 17 = true := by kernel_rfl
@[go_sem] theorem ty17_ptr : isPtrT Try.prog 17 = true := by kernel_rfl
@[go_sem] theorem ty17_bytes : bytesT Try.prog 17 = some 8 := by kernel_rfl
@[go_sem] theorem ty17_zero : zeroC Try.prog 17 = some [.val (.pointer none)] := by kernel_rfl
@[go_sem] theorem ty17_alloc : allocC Try.prog 17 = some [.val (.pointer none)] := by kernel_rfl
@[go_sem] theorem ty18_size : sizeT Try.prog 18 = some 1 := by kernel_rfl
@[go_sem] theorem ty18_agg : isAggT Try.prog 18 = some true := by kernel_rfl
@[go_sem] theorem ty18_known : knownT Try.prog 18 = true := by kernel_rfl
@[go_sem] theorem ty18_f0 : fldT Try.prog 18 0 = some (0, 17, 1) := by kernel_rfl
@[go_sem] theorem ty18_lay : layT Try.prog 18 = some (.str [(0, 1)]) := by kernel_rfl
@[go_sem] theorem ty18_bytes : bytesT Try.prog 18 = some 8 := by kernel_rfl
@[go_sem] theorem ty18_zero : zeroC Try.prog 18 = some [.val (.pointer none)] := by kernel_rfl
@[go_sem] theorem ty18_alloc : allocC Try.prog 18 = some [.val (.pointer none)] := by kernel_rfl
@[go_sem] theorem ty19_size : sizeT Try.prog 19 = some 1 := by kernel_rfl
@[go_sem] theorem ty19_agg : isAggT Try.prog 19 = some true := by kernel_rfl
@[go_sem] theorem ty19_known : knownT Try.prog 19 = true := by kernel_rfl
@[go_sem] theorem ty19_f0 : fldT Try.prog 19 0 = some (0, 17, 1) := by kernel_rfl
@[go_sem] theorem ty19_lay : layT Try.prog 19 = some (.str [(0, 1)]) := by kernel_rfl
@[go_sem] theorem ty19_bytes : bytesT Try.prog 19 = some 8 := by kernel_rfl
@[go_sem] theorem ty19_zero : zeroC Try.prog 19 = some [.val (.pointer none)] := by kernel_rfl
@[go_sem] theorem ty19_alloc : allocC Try.prog 19 = some [.val (.pointer none)] := by kernel_rfl
@[go_sem] theorem ty20_ifc : isIfcT Try.prog 20 = true := by kernel_rfl
@[go_sem] theorem ty21_size : sizeT Try.prog 21 = some 1 := by kernel_rfl
@[go_sem] theorem ty21_agg : isAggT Try.prog 21 = some false := by kernel_rfl
@[go_sem] theorem ty21_known : knownT Try.prog 21 = true := by kernel_rfl
@[go_sem] theorem ty21_kind : kindT Try.prog 21 = some .i32 := by kernel_rfl
@[go_sem] theorem ty21_isint : isIntT Try.prog 21 = true := by kernel_rfl
@[go_sem] theorem ty21_bytes : bytesT Try.prog 21 = some 4 := by kernel_rfl
@[go_sem] theorem ty21_zero : zeroC Try.prog 21 = some [.val (.int .i32 0)] := by kernel_rfl
@[go_sem] theorem ty21_alloc : allocC Try.prog 21 = some [.val (.int .i32 0)] := by kernel_rfl
@[go_sem] theorem ty22_size : sizeT Try.prog 22 = some 1 := by kernel_rfl
@[go_sem] theorem ty22_agg : isAggT Try.prog 22 = some false := by kernel_rfl
@[go_sem] theorem ty22_known : knownT Try.prog 22 = true := by kernel_rfl
@[go_sem] theorem ty22_sb : sbT Try.prog 22 = some true := by kernel_rfl
@[go_sem] theorem ty22_slc : isSlcT Try.prog 22 = true := by kernel_rfl
@[go_sem] theorem ty22_idx : idxT Try.prog 22 = some (none, 5, 1) := by kernel_rfl
@[go_sem] theorem ty22_bytes : bytesT Try.prog 22 = some 24 := by kernel_rfl
@[go_sem] theorem ty22_zero : zeroC Try.prog 22 = some [.lst .full (some true) 1 []] := by kernel_rfl
@[go_sem] theorem ty22_alloc : allocC Try.prog 22 = some [.lst .full (some true) 1 []] := by kernel_rfl
@[go_sem] theorem ty23_fn : isFnT Try.prog 23 = true := by kernel_rfl
@[go_sem] theorem ty24_size : sizeT Try.prog 24 = some 16 := by kernel_rfl
@[go_sem] theorem ty24_agg : isAggT Try.prog 24 = some true := by kernel_rfl
@[go_sem] theorem ty24_known : knownT Try.prog 24 = true := by kernel_rfl
@[go_sem] theorem ty24_flat : flatT Try.prog 24 = some (List.replicate 16 (some .u8)) := by kernel_rfl
@[go_sem] theorem ty24_idx : idxT Try.prog 24 = some (some 16, 5, 1) := by kernel_rfl
@[go_sem] theorem ty24_lay : layT Try.prog 24 = some (.arr 1) := by kernel_rfl
@[go_sem] theorem ty24_bytes : bytesT Try.prog 24 = some 16 := by kernel_rfl
@[go_sem] theorem ty24_zero : zeroC Try.prog 24 = some [.val (.int .u8 0), .val (.int .u8 0), .val (.int .u8 0), .val (.int .u8 0), .val (.int .u8 0), .val (.int .u8 0), .val (.int .u8 0), .val (.int .u8 0), .val (.int .u8 0), .val (.int .u8 0), .val (.int .u8 0), .val (.int .u8 0), .val (.int .u8 0), .val (.int .u8 0), .val (.int .u8 0), .val (.int .u8 0)] := by kernel_rfl
@[go_sem] theorem ty24_alloc : allocC Try.prog 24 = some [.val (.int .u8 0), .val (.int .u8 0), .val (.int .u8 0), .val (.int .u8 0), .val (.int .u8 0), .val (.int .u8 0), .val (.int .u8 0), .val (.int .u8 0), .val (.int .u8 0), .val (.int .u8 0), .val (.int .u8 0), .val (.int .u8 0), .val (.int .u8 0), .val (.int .u8 0), .val (.int .u8 0), .val (.int .u8 0)] := by kernel_rfl
theorem ty24_und : ∃ q, Try.prog.underlying 24 = some (.array q.1 q.2) ∧ q = (16, 5) := ⟨(16, 5), by kernel_rfl, rfl⟩
@[go_sem] theorem ty25_size : sizeT Try.prog 25 = some 16 := by kernel_rfl
@[go_sem] theorem ty25_agg : isAggT Try.prog 25 = some true := by kernel_rfl
@[go_sem] theorem ty25_known : knownT Try.prog 25 = true := by kernel_rfl
@[go_sem] theorem ty25_flat : flatT Try.prog 25 = some (List.replicate 16 (some .u8)) := by kernel_rfl
@[go_sem] theorem ty25_idx : idxT Try.prog 25 = some (some 16, 5, 1) := by kernel_rfl
@[go_sem] theorem ty25_lay : layT Try.prog 25 = some (.arr 1) := by kernel_rfl
@[go_sem] theorem ty25_bytes : bytesT Try.prog 25 = some 16 := by kernel_rfl
@[go_sem] theorem ty25_zero : zeroC Try.prog 25 = some [.val (.int .u8 0), .val (.int .u8 0), .val (.int .u8 0), .val (.int .u8 0), .val (.int .u8 0), .val (.int .u8 0), .val (.int .u8 0), .val (.int .u8 0), .val (.int .u8 0), .val (.int .u8 0), .val (.int .u8 0), .val (.int .u8 0), .val (.int .u8 0), .val (.int .u8 0), .val (.int .u8 0), .val (.int .u8 0)] := by kernel_rfl
@[go_sem] theorem ty25_alloc : allocC Try.prog 25 = some [.val (.int .u8 0), .val (.int .u8 0), .val (.int .u8 0), .val (.int .u8 0), .val (.int .u8 0), .val (.int .u8 0), .val (.int .u8 0), .val (.int .u8 0), .val (.int .u8 0), .val (.int .u8 0), .val (.int .u8 0), .val (.int .u8 0), .val (.int .u8 0), .val (.int .u8 0), .val (.int .u8 0), .val (.int .u8 0)] := by kernel_rfl
theorem ty25_und : ∃ q, Try.prog.underlying 25 = some (.array q.1 q.2) ∧ q = (16, 5) := ⟨(16, 5), by kernel_rfl, rfl⟩
@[go_sem] theorem ty26_fn : isFnT Try.prog 26 = true := by kernel_rfl
@[go_sem] theorem ty27_size : sizeT Try.prog 27 = some 16 := by kernel_rfl
@[go_sem] theorem ty27_agg : isAggT Try.prog 27 = some true := by kernel_rfl
@[go_sem] theorem ty27_known : knownT Try.prog 27 = true := by kernel_rfl
@[go_sem] theorem ty27_flat : flatT Try.prog 27 = some (List.replicate 16 (some .u8)) := by kernel_rfl
@[go_sem] theorem ty27_idx : idxT Try.prog 27 = some (some 16, 5, 1) := by kernel_rfl
@[go_sem] theorem ty27_lay : layT Try.prog 27 = some (.arr 1) := by kernel_rfl
@[go_sem] theorem ty27_bytes : bytesT Try.prog 27 = some 16 := by kernel_rfl
@[go_sem] theorem ty27_zero : zeroC Try.prog 27 = some [.val (.int .u8 0), .val (.int .u8 0), .val (.int .u8 0), .val (.int .u8 0), .val (.int .u8 0), .val (.int .u8 0), .val (.int .u8 0), .val (.int .u8 0), .val (.int .u8 0), .val (.int .u8 0), .val (.int .u8 0), .val (.int .u8 0), .val (.int .u8 0), .val (.int .u8 0), .val (.int .u8 0), .val (.int .u8 0)] := by kernel_rfl
@[go_sem] theorem ty27_alloc : allocC Try.prog 27 = some [.val (.int .u8 0), .val (.int .u8 0), .val (.int .u8 0), .val (.int .u8 0), .val (.int .u8 0), .val (.int .u8 0), .val (.int .u8 0), .val (.int .u8 0), .val (.int .u8 0), .val (.int .u8 0), .val (.int .u8 0), .val (.int .u8 0), .val (.int .u8 0), .val (.int .u8 0), .val (.int .u8 0), .val (.int .u8 0)] := by kernel_rfl
theorem ty27_und : ∃ q, Try.prog.underlying 27 = some (.array q.1 q.2) ∧ q = (16, 5) := ⟨(16, 5), by kernel_rfl, rfl⟩
@[go_sem] theorem ty28_fn : isFnT Try.prog 28 = true := by kernel_rfl
@[go_sem] theorem ty29_size : sizeT Try.prog 29 = some 1 := by kernel_rfl
@[go_sem] theorem ty29_agg : isAggT Try.prog 29 = some false := by kernel_rfl
@[go_sem] theorem ty29_known : knownT Try.prog 29 = true := by kernel_rfl
@[go_sem] theorem ty29_kind : kindT Try.prog 29 = some .i64 := by kernel_rfl
@[go_sem] theorem ty29_isint : isIntT Try.prog 29 = true := by kernel_rfl
@[go_sem] theorem ty29_bytes : bytesT Try.prog 29 = some 8 := by kernel_rfl
@[go_sem] theorem ty29_zero : zeroC Try.prog 29 = some [.val (.int .i64 0)] := by kernel_rfl
@[go_sem] theorem ty29_alloc : allocC Try.prog 29 = some [.val (.int .i64 0)] := by kernel_rfl
@[go_sem] theorem ty30_fn : isFnT Try.prog 30 = true := by kernel_rfl
@[go_sem] theorem ty31_fn : isFnT Try.prog 31 = true := by kernel_rfl
@[go_sem] theorem ty32_fn : isFnT Try.prog 32 = true := by kernel_rfl
@[go_sem] theorem ty33_fn : isFnT Try.prog 33 = true := by kernel_rfl
@[go_sem] theorem ty34_fn : isFnT Try.prog 34 = true := by kernel_rfl
@[go_sem] theorem ty36_fn : isFnT Try.prog 36 = true := by kernel_rfl
@[go_sem] theorem ty37_fn : isFnT Try.prog 37 = true := by kernel_rfl
@[go_sem] theorem ty39_fn : isFnT Try.prog 39 = true := by kernel_rfl
@[go_sem] theorem ty40_fn : isFnT Try.prog 40 = true := by kernel_rfl
@[go_sem] theorem ty41_fn : isFnT Try.prog 41 = true := by kernel_rfl
@[go_sem] theorem ty42_fn : isFnT Try.prog 42 = true := by kernel_rfl
@[go_sem] theorem ty43_size : sizeT Try.prog 43 = some 1 := by kernel_rfl
@[go_sem] theorem ty43_agg : isAggT Try.prog 43 = some true := by kernel_rfl
@[go_sem] theorem ty43_known : knownT Try.prog 43 = true := by kernel_rfl
@[go_sem] theorem ty43_f0 : fldT Try.prog 43 0 = some (0, 22, 1) := by kernel_rfl
@[go_sem] theorem ty43_lay : layT Try.prog 43 = some (.str [(0, 1)]) := by kernel_rfl
@[go_sem] theorem ty43_bytes : bytesT Try.prog 43 = some 24 := by kernel_rfl
@[go_sem] theorem ty43_zero : zeroC Try.prog 43 = some [.lst .full (some true) 1 []] := by kernel_rfl
@[go_sem] theorem ty43_alloc : allocC Try.prog 43 = some [.lst .full (some true) 1 []] := by kernel_rfl
@[go_sem] theorem ty44_size : sizeT Try.prog 44 = some 1 := by kernel_rfl
@[go_sem] theorem ty44_agg : isAggT Try.prog 44 = some true := by kernel_rfl
@[go_sem] theorem ty44_known : knownT Try.prog 44 = true := by kernel_rfl
@[go_sem] theorem ty44_f0 : fldT Try.prog 44 0 = some (0, 22, 1) := by kernel_rfl
@[go_sem] theorem ty44_lay : layT Try.prog 44 = some (.str [(0, 1)]) := by kernel_rfl
@[go_sem] theorem ty44_bytes : bytesT Try.prog 44 = some 24 := by kernel_rfl
@[go_sem] theorem ty44_zero : zeroC Try.prog 44 = some [.lst .full (some true) 1 []] := by kernel_rfl
@[go_sem] theorem ty44_alloc : allocC Try.prog 44 = some [.lst .full (some true) 1 []] := by kernel_rfl
@[go_sem] theorem ty45_fn : isFnT Try.prog 45 = true := by kernel_rfl
@[go_sem] theorem ty46_size : sizeT Try.prog 46 = some 3 := by kernel_rfl
@[go_sem] theorem ty46_agg : isAggT Try.prog 46 = some true := by kernel_rfl
@[go_sem] theorem ty46_known : knownT Try.prog 46 = true := by kernel_rfl
@[go_sem] theorem ty46_flat : flatT Try.prog 46 = some (List.replicate 3 (some .i64)) := by kernel_rfl
@[go_sem] theorem ty46_idx : idxT Try.prog 46 = some (some 3, 3, 1) := by kernel_rfl
@[go_sem] theorem ty46_lay : layT Try.prog 46 = some (.arr 1) := by kernel_rfl
@[go_sem] theorem ty46_bytes : bytesT Try.prog 46 = some 24 := by kernel_rfl
@[go_sem] theorem ty46_zero : zeroC Try.prog 46 = some [.val (.int .i64 0), .val (.int .i64 0), .val (.int .i64 0)] := by kernel_rfl
@[go_sem] theorem ty46_alloc : allocC Try.prog 46 = some [.val (.int .i64 0), .val (.int .i64 0), .val (.int .i64 0)] := by kernel_rfl
theorem ty46_und : ∃ q, Try.prog.underlying 46 = some (.array q.1 q.2) ∧ q = (3, 3) := ⟨(3, 3), by kernel_rfl, rfl⟩
@[go_sem] theorem ty47_fn : isFnT Try.prog 47 = true := by kernel_rfl
@[go_sem] theorem ty48_size : sizeT Try.prog 48 = some 32 := by kernel_rfl
@[go_sem] theorem ty48_agg : isAggT Try.prog 48 = some true := by kernel_rfl
@[go_sem] theorem ty48_known : knownT Try.prog 48 = true := by kernel_rfl
@[go_sem] theorem ty48_flat : flatT Try.prog 48 = some (List.replicate 32 (some .u8)) := by kernel_rfl
@[go_sem] theorem ty48_idx : idxT Try.prog 48 = some (some 32, 5, 1) := by kernel_rfl
@[go_sem] theorem ty48_lay : layT Try.prog 48 = some (.arr 1) := by kernel_rfl
@[go_sem] theorem ty48_bytes : bytesT Try.prog 48 = some 32 := by kernel_rfl
@[go_sem] theorem ty48_zero : zeroC Try.prog 48 = some [.val (.int .u8 0), .val (.int .u8 0), .val (.int .u8 0), .val (.int .u8 0), .val (.int .u8 0), .val (.int .u8 0), .val (.int .u8 0), .val (.int .u8 0), .val (.int .u8 0), .val (.int .u8 0), .val (.int .u8 0), .val (.int .u8 0), .val (.int .u8 0), .val (.int .u8 0), .val (.int .u8 0), .val (.int .u8 0), .val (.int .u8 0), .val (.int .u8 0), .val (.int .u8 0), .val (.int .u8 0), .val (.int .u8 0), .val (.int .u8 0), .val (.int .u8 0), .val (.int .u8 0), .val (.int .u8 0), .val (.int .u8 0), .val (.int .u8 0), .val (.int .u8 0), .val (.int .u8 0), .val (.int .u8 0), .val (.int .u8 0), .val (.int .u8 0)] := by kernel_rfl
@[go_sem] theorem ty48_alloc : allocC Try.prog 48 = some [.val (.int .u8 0), .val (.int .u8 0), .val (.int .u8 0), .val (.int .u8 0), .val (.int .u8 0), .val (.int .u8 0), .val (.int .u8 0), .val (.int .u8 0), .val (.int .u8 0), .val (.int .u8 0), .val (.int .u8 0), .val (.int .u8 0), .val (.int .u8 0), .val (.int .u8 0), .val (.int .u8 0), .val (.int .u8 0), .val (.int .u8 0), .val (.int .u8 0), .val (.int .u8 0), .val (.int .u8 0), .val (.int .u8 0), .val (.int .u8 0), .val (.int .u8 0), .val (.int .u8 0), .val (.int .u8 0), .val (.int .u8 0), .val (.int .u8 0), .val (.int .u8 0), .val (.int .u8 0), .val (.int .u8 0), .val (.int .u8 0), .val (.int .u8 0)] := by kernel_rfl
theorem ty48_und : ∃ q, Try.prog.underlying 48 = some (.array q.1 q.2) ∧ q = (32, 5) := ⟨(32, 5), by kernel_rfl, rfl⟩
@[go_sem] theorem ty49_size : sizeT Try.prog 49 = some 32 := by kernel_rfl
@[go_sem] theorem ty49_agg : isAggT Try.prog 49 = some true := by kernel_rfl
@[go_sem] theorem ty49_known : knownT Try.prog 49 = true := by kernel_rfl
@[go_sem] theorem ty49_flat : flatT Try.prog 49 = some (List.replicate 32 (some .u8)) := by kernel_rfl
@[go_sem] theorem ty49_idx : idxT Try.prog 49 = some (some 32, 5, 1) := by kernel_rfl
@[go_sem] theorem ty49_lay : layT Try.prog 49 = some (.arr 1) := by kernel_rfl
@[go_sem] theorem ty49_bytes : bytesT Try.prog 49 = some 32 := by kernel_rfl
@[go_sem] theorem ty49_zero : zeroC Try.prog 49 = some [.val (.int .u8 0), .val (.int .u8 0), .val (.int .u8 0), .val (.int .u8 0), .val (.int .u8 0), .val (.int .u8 0), .val (.int .u8 0), .val (.int .u8 0), .val (.int .u8 0), .val (.int .u8 0), .val (.int .u8 0), .val (.int .u8 0), .val (.int .u8 0), .val (.int .u8 0), .val (.int .u8 0), .val (.int .u8 0), .val (.int .u8 0), .val (.int .u8 0), .val (.int .u8 0), .val (.int .u8 0), .val (.int .u8 0), .val (.int .u8 0), .val (.int .u8 0), .val (.int .u8 0), .val (.int .u8 0), .val (.int .u8 0), .val (.int .u8 0), .val (.int .u8 0), .val (.int .u8 0), .val (.int .u8 0), .val (.int .u8 0), .val (.int .u8 0)] := by kernel_rfl
@[go_sem] theorem ty49_alloc : allocC Try.prog 49 = some [.val (.int .u8 0), .val (.int .u8 0), .val (.int .u8 0), .val (.int .u8 0), .val (.int .u8 0), .val (.int .u8 0), .val (.int .u8 0), .val (.int .u8 0), .val (.int .u8 0), .val (.int .u8 0), .val (.int .u8 0), .val (.int .u8 0), .val (.int .u8 0), .val (.int .u8 0), .val (.int .u8 0), .val (.int .u8 0), .val (.int .u8 0), .val (.int .u8 0), .val (.int .u8 0), .val (.int .u8 0), .val (.int .u8 0), .val (.int .u8 0), .val (.int .u8 0), .val (.int .u8 0), .val (.int .u8 0), .val (.int .u8 0), .val (.int .u8 0), .val (.int .u8 0), .val (.int .u8 0), .val (.int .u8 0), .val (.int .u8 0), .val (.int .u8 0)] := by kernel_rfl
theorem ty49_und : ∃ q, Try.prog.underlying 49 = some (.array q.1 q.2) ∧ q = (32, 5) := ⟨(32, 5), by kernel_rfl, rfl⟩
@[go_sem] theorem ty50_fn : isFnT Try.prog 50 = true := by kernel_rfl
@[go_sem] theorem ty51_fn : isFnT Try.prog 51 = true := by kernel_rfl
@[go_sem] theorem ty52_fn : isFnT Try.prog 52 = true := by kernel_rfl
@[go_sem] theorem ty53_fn : isFnT Try.prog 53 = true := by kernel_rfl
@[go_sem] theorem ty54_size : sizeT Try.prog 54 = some 1 := by kernel_rfl
@[go_sem] theorem ty54_agg : isAggT Try.prog 54 = some false := by kernel_rfl
@[go_sem] theorem ty54_known : knownT Try.prog 54 = true := by kernel_rfl
@[go_sem] theorem ty54_kind : kindT Try.prog 54 = some .u64 := by kernel_rfl
@[go_sem] theorem ty54_isint : isIntT Try.prog 54 = true := by kernel_rfl
@[go_sem] theorem ty54_bytes : bytesT Try.prog 54 = some 8 := by kernel_rfl
@[go_sem] theorem ty54_zero : zeroC Try.prog 54 = some [.val (.int .u64 0)] := by kernel_rfl
@[go_sem] theorem ty54_alloc : allocC Try.prog 54 = some [.val (.int .u64 0)] := by kernel_rfl
@[go_sem] theorem ty55_size : sizeT Try.prog 55 = some 1 := by kernel_rfl
@[go_sem] theorem ty55_agg : isAggT Try.prog 55 = some false := by kernel_rfl
@[go_sem] theorem ty55_known : knownT Try.prog 55 = true := by kernel_rfl
@[go_sem] theorem ty55_ptr : isPtrT Try.prog 55 = true := by kernel_rfl
@[go_sem] theorem ty55_bytes : bytesT Try.prog 55 = some 8 := by kernel_rfl
@[go_sem] theorem ty55_zero : zeroC Try.prog 55 = some [.val (.pointer none)] := by kernel_rfl
@[go_sem] theorem ty55_alloc : allocC Try.prog 55 = some [.val (.pointer none)] := by kernel_rfl
@[go_sem] theorem ty56_size : sizeT Try.prog 56 = some 2 := by kernel_rfl
@[go_sem] theorem ty56_agg : isAggT Try.prog 56 = some true := by kernel_rfl
@[go_sem] theorem ty56_known : knownT Try.prog 56 = true := by kernel_rfl
@[go_sem] theorem ty56_f0 : fldT Try.prog 56 0 = some (0, 55, 1) := by kernel_rfl
@[go_sem] theorem ty56_f1 : fldT Try.prog 56 1 = some (1, 22, 1) := by kernel_rfl
@[go_sem] theorem ty56_lay : layT Try.prog 56 = some (.str [(0, 1), (1, 1)]) := by kernel_rfl
@[go_sem] theorem ty56_bytes : bytesT Try.prog 56 = some 32 := by kernel_rfl
@[go_sem] theorem ty56_zero : zeroC Try.prog 56 = some [.val (.pointer none), .lst .full (some true) 1 []] := by kernel_rfl
@[go_sem] theorem ty56_alloc : allocC Try.prog 56 = some [.val (.pointer none), .lst .full (some true) 1 []] := by kernel_rfl
@[go_sem] theorem ty57_size : sizeT Try.prog 57 = some 2 := by kernel_rfl
@[go_sem] theorem ty57_agg : isAggT Try.prog 57 = some true := by kernel_rfl
@[go_sem] theorem ty57_known : knownT Try.prog 57 = true := by kernel_rfl
@[go_sem] theorem ty57_f0 : fldT Try.prog 57 0 = some (0, 55, 1) := by kernel_rfl
@[go_sem] theorem ty57_f1 : fldT Try.prog 57 1 = some (1, 22, 1) := by kernel_rfl
@[go_sem] theorem ty57_lay : layT Try.prog 57 = some (.str [(0, 1), (1, 1)]) := by kernel_rfl
@[go_sem] theorem ty57_bytes : bytesT Try.prog 57 = some 32 := by kernel_rfl
@[go_sem] theorem ty57_zero : zeroC Try.prog 57 = some [.val (.pointer none), .lst .full (some true) 1 []] := by kernel_rfl
@[go_sem] theorem ty57_alloc : allocC Try.prog 57 = some [.typ 57, .lst .full (some true) 1 []] := by kernel_rfl
@[go_sem] theorem ty58_ifc : isIfcT Try.prog 58 = true := by kernel_rfl
@[go_sem] theorem ty59_size : sizeT Try.prog 59 = some 1 := by kernel_rfl
@[go_sem] theorem ty59_agg : isAggT Try.prog 59 = some false := by kernel_rfl
@[go_sem] theorem ty59_known : knownT Try.prog 59 = true := by kernel_rfl
@[go_sem] theorem ty59_ifc : isIfcT Try.prog 59 = true := by kernel_rfl
@[go_sem] theorem ty59_bytes : bytesT Try.prog 59 = some 16 := by kernel_rfl
@[go_sem] theorem ty59_zero : zeroC Try.prog 59 = some [.val (.nilIface)] := by kernel_rfl
@[go_sem] theorem ty59_alloc : allocC Try.prog 59 = some [.val (.nilIface)] := by kernel_rfl
@[go_sem] theorem ty60_fn : isFnT Try.prog 60 = true := by kernel_rfl
@[go_sem] theorem ty62_fn : isFnT Try.prog 62 = true := by kernel_rfl
@[go_sem] theorem ty63_fn : isFnT Try.prog 63 = true := by kernel_rfl
@[go_sem] theorem ty64_fn : isFnT Try.prog 64 = true := by kernel_rfl
@[go_sem] theorem ty65_size : sizeT Try.prog 65 = some 1 := by kernel_rfl
@[go_sem] theorem ty65_agg : isAggT Try.prog 65 = some false := by kernel_rfl
@[go_sem] theorem ty65_known : knownT Try.prog 65 = true := by kernel_rfl
@[go_sem] theorem ty65_ptr : isPtrT Try.prog 65 = true := by kernel_rfl
@[go_sem] theorem ty65_bytes : bytesT Try.prog 65 = some 8 := by kernel_rfl
@[go_sem] theorem ty65_zero : zeroC Try.prog 65 = some [.val (.pointer none)] := by kernel_rfl
@[go_sem] theorem ty65_alloc : allocC Try.prog 65 = some [.val (.pointer none)] := by kernel_rfl
@[go_sem] theorem ty66_fn : isFnT Try.prog 66 = true := by kernel_rfl
@[go_sem] theorem ty67_size : sizeT Try.prog 67 = some 1 := by kernel_rfl
@[go_sem] theorem ty67_agg : isAggT Try.prog 67 = some false := by kernel_rfl
@[go_sem] theorem ty67_known : knownT Try.prog 67 = true := by kernel_rfl
@[go_sem] theorem ty67_kind : kindT Try.prog 67 = some .u64 := by kernel_rfl
@[go_sem] theorem ty67_isint : isIntT Try.prog 67 = true := by kernel_rfl
@[go_sem] theorem ty67_bytes : bytesT Try.prog 67 = some 8 := by kernel_rfl
@[go_sem] theorem ty67_zero : zeroC Try.prog 67 = some [.val (.int .u64 0)] := by kernel_rfl
@[go_sem] theorem ty67_alloc : allocC Try.prog 67 = some [.val (.int .u64 0)] := by kernel_rfl
@[go_sem] theorem ty68_size : sizeT Try.prog 68 = some 64 := by kernel_rfl
@[go_sem] theorem ty68_agg : isAggT Try.prog 68 = some true := by kernel_rfl
@[go_sem] theorem ty68_known : knownT Try.prog 68 = true := by kernel_rfl
@[go_sem] theorem ty68_flat : flatT Try.prog 68 = some (List.replicate 64 (some .u8)) := by kernel_rfl
@[go_sem] theorem ty68_idx : idxT Try.prog 68 = some (some 64, 5, 1) := by kernel_rfl
@[go_sem] theorem ty68_lay : layT Try.prog 68 = some (.arr 1) := by kernel_rfl
@[go_sem] theorem ty68_bytes : bytesT Try.prog 68 = some 64 := by kernel_rfl
@[go_sem] theorem ty68_zero : zeroC Try.prog 68 = some (List.replicate 64 (.val (.int .u8 0))) := by kernel_rfl
@[go_sem] theorem ty68_alloc : allocC Try.prog 68 = some (List.replicate 64 (.val (.int .u8 0))) := by kernel_rfl
theorem ty68_und : ∃ q, Try.prog.underlying 68 = some (.array q.1 q.2) ∧ q = (64, 5) := ⟨(64, 5), by kernel_rfl, rfl⟩
@[go_sem] theorem ty69_fn : isFnT Try.prog 69 = true := by kernel_rfl
@[go_sem] theorem ty70_fn : isFnT Try.prog 70 = true := by kernel_rfl
@[go_sem] theorem ty71_size : sizeT Try.prog 71 = some 1 := by kernel_rfl
@[go_sem] theorem ty71_agg : isAggT Try.prog 71 = some false := by kernel_rfl
@[go_sem] theorem ty71_known : knownT Try.prog 71 = true := by kernel_rfl
@[go_sem] theorem ty71_ptr : isPtrT Try.prog 71 = true := by kernel_rfl
@[go_sem] theorem ty71_bytes : bytesT Try.prog 71 = some 8 := by kernel_rfl
@[go_sem] theorem ty71_zero : zeroC Try.prog 71 = some [.val (.pointer none)] := by kernel_rfl
@[go_sem] theorem ty71_alloc : allocC Try.prog 71 = some [.val (.pointer none)] := by kernel_rfl
@[go_sem] theorem ty72_size : sizeT Try.prog 72 = some 1 := by kernel_rfl
@[go_sem] theorem ty72_agg : isAggT Try.prog 72 = some false := by kernel_rfl
@[go_sem] theorem ty72_known : knownT Try.prog 72 = true := by kernel_rfl
@[go_sem] theorem ty72_kind : kindT Try.prog 72 = some .u32 := by kernel_rfl
@[go_sem] theorem ty72_isint : isIntT Try.prog 72 = true := by kernel_rfl
@[go_sem] theorem ty72_bytes : bytesT Try.prog 72 = some 4 := by kernel_rfl
@[go_sem] theorem ty72_zero : zeroC Try.prog 72 = some [.val (.int .u32 0)] := by kernel_rfl
@[go_sem] theorem ty72_alloc : allocC Try.prog 72 = some [.val (.int .u32 0)] := by kernel_rfl
@[go_sem] theorem ty73_size : sizeT Try.prog 73 = some 8 := by kernel_rfl
@[go_sem] theorem ty73_agg : isAggT Try.prog 73 = some true := by kernel_rfl
@[go_sem] theorem ty73_known : knownT Try.prog 73 = true := by kernel_rfl
@[go_sem] theorem ty73_flat : flatT Try.prog 73 = some (List.replicate 8 (some .u32)) := by kernel_rfl
@[go_sem] theorem ty73_idx : idxT Try.prog 73 = some (some 8, 72, 1) := by kernel_rfl
@[go_sem] theorem ty73_lay : layT Try.prog 73 = some (.arr 1) := by kernel_rfl
@[go_sem] theorem ty73_bytes : bytesT Try.prog 73 = some 32 := by kernel_rfl
@[go_sem] theorem ty73_zero : zeroC Try.prog 73 = some [.val (.int .u32 0), .val (.int .u32 0), .val (.int .u32 0), .val (.int .u32 0), .val (.int .u32 0), .val (.int .u32 0), .val (.int .u32 0), .val (.int .u32 0)] := by kernel_rfl
@[go_sem] theorem ty73_alloc : allocC Try.prog 73 = some [.val (.int .u32 0), .val (.int .u32 0), .val (.int .u32 0), .val (.int .u32 0), .val (.int .u32 0), .val (.int .u32 0), .val (.int .u32 0), .val (.int .u32 0)] := by kernel_rfl
theorem ty73_und : ∃ q, Try.prog.underlying 73 = some (.array q.1 q.2) ∧ q = (8, 72) := ⟨(8, 72), by kernel_rfl, rfl⟩
@[go_sem] theorem ty74_size : sizeT Try.prog 74 = some 8 := by kernel_rfl
@[go_sem] theorem ty74_agg : isAggT Try.prog 74 = some true := by kernel_rfl
@[go_sem] theorem ty74_known : knownT Try.prog 74 = true := by kernel_rfl
@[go_sem] theorem ty74_flat : flatT Try.prog 74 = some (List.replicate 8 (some .u32)) := by kernel_rfl
@[go_sem] theorem ty74_idx : idxT Try.prog 74 = some (some 8, 72, 1) := by kernel_rfl
@[go_sem] theorem ty74_lay : layT Try.prog 74 = some (.arr 1) := by kernel_rfl
@[go_sem] theorem ty74_bytes : bytesT Try.prog 74 = some 32 := by kernel_rfl
@[go_sem] theorem ty74_zero : zeroC Try.prog 74 = some [.val (.int .u32 0), .val (.int .u32 0), .val (.int .u32 0), .val (.int .u32 0), .val (.int .u32 0), .val (.int .u32 0), .val (.int .u32 0), .val (.int .u32 0)] := by kernel_rfl
@[go_sem] theorem ty74_alloc : allocC Try.prog 74 = some [.val (.int .u32 0), .val (.int .u32 0), .val (.int .u32 0), .val (.int .u32 0), .val (.int .u32 0), .val (.int .u32 0), .val (.int .u32 0), .val (.int .u32 0)] := by kernel_rfl
theorem ty74_und : ∃ q, Try.prog.underlying 74 = some (.array q.1 q.2) ∧ q = (8, 72) := ⟨(8, 72), by kernel_rfl, rfl⟩
@[go_sem] theorem ty75_size : sizeT Try.prog 75 = some 64 := by kernel_rfl
@[go_sem] theorem ty75_agg : isAggT Try.prog 75 = some true := by kernel_rfl
@[go_sem] theorem ty75_known : knownT Try.prog 75 = true := by kernel_rfl
@[go_sem] theorem ty75_flat : flatT Try.prog 75 = some (List.replicate 64 (some .u32)) := by kernel_rfl
@[go_sem] theorem ty75_idx : idxT Try.prog 75 = some (some 64, 72, 1) := by kernel_rfl
@[go_sem] theorem ty75_lay : layT Try.prog 75 = some (.arr 1) := by kernel_rfl
@[go_sem] theorem ty75_bytes : bytesT Try.prog 75 = some 256 := by kernel_rfl
@[go_sem] theorem ty75_zero : zeroC Try.prog 75 = some (List.replicate 64 (.val (.int .u32 0))) := by kernel_rfl
@[go_sem] theorem ty75_alloc : allocC Try.prog 75 = some (List.replicate 64 (.val (.int .u32 0))) := by kernel_rfl
theorem ty75_und : ∃ q, Try.prog.underlying 75 = some (.array q.1 q.2) ∧ q = (64, 72) := ⟨(64, 72), by kernel_rfl, rfl⟩
@[go_sem] theorem ty76_fn : isFnT Try.prog 76 = true := by kernel_rfl
@[go_sem] theorem ty77_fn : isFnT Try.prog 77 = true := by kernel_rfl
@[go_sem] theorem ty78_size : sizeT Try.prog 78 = some 1 := by kernel_rfl
@[go_sem] theorem ty78_agg : isAggT Try.prog 78 = some false := by kernel_rfl
@[go_sem] theorem ty78_known : knownT Try.prog 78 = true := by kernel_rfl
@[go_sem] theorem ty78_ptr : isPtrT Try.prog 78 = true := by kernel_rfl
@[go_sem] theorem ty78_bytes : bytesT Try.prog 78 = some 8 := by kernel_rfl
@[go_sem] theorem ty78_zero : zeroC Try.prog 78 = some [.val (.pointer none)] := by kernel_rfl
@[go_sem] theorem ty78_alloc : allocC Try.prog 78 = some [.val (.pointer none)] := by kernel_rfl
@[go_sem] theorem ty79_size : sizeT Try.prog 79 = some 128 := by kernel_rfl
@[go_sem] theorem ty79_agg : isAggT Try.prog 79 = some true := by kernel_rfl
@[go_sem] theorem ty79_known : knownT Try.prog 79 = true := by kernel_rfl
@[go_sem] theorem ty79_flat : flatT Try.prog 79 = some (List.replicate 128 (some .u8)) := by kernel_rfl
@[go_sem] theorem ty79_idx : idxT Try.prog 79 = some (some 128, 5, 1) := by kernel_rfl
@[go_sem] theorem ty79_lay : layT Try.prog 79 = some (.arr 1) := by kernel_rfl
@[go_sem] theorem ty79_bytes : bytesT Try.prog 79 = some 128 := by kernel_rfl
@[go_sem] theorem ty79_zero : zeroC Try.prog 79 = some (List.replicate 128 (.val (.int .u8 0))) := by kernel_rfl
@[go_sem] theorem ty79_alloc : allocC Try.prog 79 = some (List.replicate 128 (.val (.int .u8 0))) := by kernel_rfl
theorem ty79_und : ∃ q, Try.prog.underlying 79 = some (.array q.1 q.2) ∧ q = (128, 5) := ⟨(128, 5), by kernel_rfl, rfl⟩
@[go_sem] theorem ty80_fn : isFnT Try.prog 80 = true := by kernel_rfl
@[go_sem] theorem ty81_size : sizeT Try.prog 81 = some 1 := by kernel_rfl
@[go_sem] theorem ty81_agg : isAggT Try.prog 81 = some false := by kernel_rfl
@[go_sem] theorem ty81_known : knownT Try.prog 81 = true := by kernel_rfl
@[go_sem] theorem ty81_bytes : bytesT Try.prog 81 = some 8 := by kernel_rfl
@[go_sem] theorem ty81_zero : zeroC Try.prog 81 = some [.val (.pointer none)] := by kernel_rfl
@[go_sem] theorem ty81_alloc : allocC Try.prog 81 = some [.val (.pointer none)] := by kernel_rfl
@[go_sem] theorem ty82_fn : isFnT Try.prog 82 = true := by kernel_rfl
@[go_sem] theorem ty83_size : sizeT Try.prog 83 = some 1 := by kernel_rfl
@[go_sem] theorem ty83_agg : isAggT Try.prog 83 = some false := by kernel_rfl
@[go_sem] theorem ty83_known : knownT Try.prog 83 = true := by kernel_rfl
@[go_sem] theorem ty83_ptr : isPtrT Try.prog 83 = true := by kernel_rfl
@[go_sem] theorem ty83_bytes : bytesT Try.prog 83 = some 8 := by kernel_rfl
@[go_sem] theorem ty83_zero : zeroC Try.prog 83 = some [.val (.pointer none)] := by kernel_rfl
@[go_sem] theorem ty83_alloc : allocC Try.prog 83 = some [.val (.pointer none)] := by kernel_rfl
@[go_sem] theorem ty84_fn : isFnT Try.prog 84 = true := by kernel_rfl
@[go_sem] theorem ty85_fn : isFnT Try.prog 85 = true := by kernel_rfl
@[go_sem] theorem ty86_fn : isFnT Try.prog 86 = true := by kernel_rfl
@[go_sem] theorem ty87_size : sizeT Try.prog 87 = some 4 := by kernel_rfl
@[go_sem] theorem ty87_agg : isAggT Try.prog 87 = some true := by kernel_rfl
@[go_sem] theorem ty87_known : knownT Try.prog 87 = true := by kernel_rfl
@[go_sem] theorem ty87_f0 : fldT Try.prog 87 0 = some (0, 17, 1) := by kernel_rfl
@[go_sem] theorem ty87_f1 : fldT Try.prog 87 1 = some (1, 17, 1) := by kernel_rfl
@[go_sem] theorem ty87_f2 : fldT Try.prog 87 2 = some (2, 17, 1) := by kernel_rfl
@[go_sem] theorem ty87_f3 : fldT Try.prog 87 3 = some (3, 9, 1) := by kernel_rfl
@[go_sem] theorem ty87_lay : layT Try.prog 87 = some (.str [(0, 1), (1, 1), (2, 1), (3, 1)]) := by kernel_rfl
@[go_sem] theorem ty87_bytes : bytesT Try.prog 87 = some 40 := by kernel_rfl
@[go_sem] theorem ty87_zero : zeroC Try.prog 87 = some [.val (.pointer none), .val (.pointer none), .val (.pointer none), .val (.string ⟨#[]⟩)] := by kernel_rfl
@[go_sem] theorem ty87_alloc : allocC Try.prog 87 = some [.val (.pointer none), .val (.pointer none), .val (.pointer none), .val (.string ⟨#[]⟩)] := by kernel_rfl
@[go_sem] theorem ty89_size : sizeT Try.prog 89 = some 0 := by kernel_rfl
@[go_sem] theorem ty89_agg : isAggT Try.prog 89 = some true := by kernel_rfl
@[go_sem] theorem ty89_known : knownT Try.prog 89 = true := by kernel_rfl
@[go_sem] theorem ty89_idx : idxT Try.prog 89 = some (some 0, 16, 1) := by kernel_rfl
@[go_sem] theorem ty89_lay : layT Try.prog 89 = some (.arr 1) := by kernel_rfl
@[go_sem] theorem ty89_bytes : bytesT Try.prog 89 = some 0 := by kernel_rfl
@[go_sem] theorem ty89_zero : zeroC Try.prog 89 = some [] := by kernel_rfl
@[go_sem] theorem ty89_alloc : allocC Try.prog 89 = some [] := by kernel_rfl
theorem ty89_und : ∃ q, Try.prog.underlying 89 = some (.array q.1 q.2) ∧ q = (0, 16) := ⟨(0, 16), by kernel_rfl, rfl⟩
@[go_sem] theorem ty90_size : sizeT Try.prog 90 = some 0 := by kernel_rfl
@[go_sem] theorem ty90_agg : isAggT Try.prog 90 = some true := by kernel_rfl
@[go_sem] theorem ty90_known : knownT Try.prog 90 = true := by kernel_rfl
@[go_sem] theorem ty90_f0 : fldT Try.prog 90 0 = some (0, 89, 0) := by kernel_rfl
@[go_sem] theorem ty90_lay : layT Try.prog 90 = some (.str [(0, 0)]) := by kernel_rfl
@[go_sem] theorem ty90_bytes : bytesT Try.prog 90 = some 0 := by kernel_rfl
@[go_sem] theorem ty90_zero : zeroC Try.prog 90 = some [] := by kernel_rfl
@[go_sem] theorem ty90_alloc : allocC Try.prog 90 = some [] := by kernel_rfl
@[go_sem] theorem ty92_fn : isFnT Try.prog 92 = true := by kernel_rfl
@[go_sem] theorem ty95_fn : isFnT Try.prog 95 = true := by kernel_rfl
@[go_sem] theorem ty98_size : sizeT Try.prog 98 = some 11 := by kernel_rfl
@[go_sem] theorem ty98_agg : isAggT Try.prog 98 = some true := by kernel_rfl
@[go_sem] theorem ty98_known : knownT Try.prog 98 = true := by kernel_rfl
@[go_sem] theorem ty98_f0 : fldT Try.prog 98 0 = some (0, 12, 1) := by kernel_rfl
@[go_sem] theorem ty98_f1 : fldT Try.prog 98 1 = some (1, 12, 1) := by kernel_rfl
@[go_sem] theorem ty98_f2 : fldT Try.prog 98 2 = some (2, 72, 1) := by kernel_rfl
@[go_sem] theorem ty98_f3 : fldT Try.prog 98 3 = some (3, 93, 1) := by kernel_rfl
@[go_sem] theorem ty98_f4 : fldT Try.prog 98 4 = some (4, 5, 1) := by kernel_rfl
@[go_sem] theorem ty98_f5 : fldT Try.prog 98 5 = some (5, 5, 1) := by kernel_rfl
@[go_sem] theorem ty98_f6 : fldT Try.prog 98 6 = some (6, 94, 1) := by kernel_rfl
@[go_sem] theorem ty98_f7 : fldT Try.prog 98 7 = some (7, 95, 1) := by kernel_rfl
@[go_sem] theorem ty98_f8 : fldT Try.prog 98 8 = some (8, 71, 1) := by kernel_rfl
@[go_sem] theorem ty98_f9 : fldT Try.prog 98 9 = some (9, 96, 1) := by kernel_rfl
@[go_sem] theorem ty98_f10 : fldT Try.prog 98 10 = some (10, 97, 1) := by kernel_rfl
@[go_sem] theorem ty98_lay : layT Try.prog 98 = some (.str [(0, 1), (1, 1), (2, 1), (3, 1), (4, 1), (5, 1), (6, 1), (7, 1), (8, 1), (9, 1), (10, 1)]) := by kernel_rfl
@[go_sem] theorem ty98_bytes : bytesT Try.prog 98 = some 48 := by kernel_rfl
@[go_sem] theorem ty98_zero : zeroC Try.prog 98 = some [.val (.int .u64 0), .val (.int .u64 0), .val (.int .u32 0), .val (.int .u8 0), .val (.int .u8 0), .val (.int .u8 0), .val (.int .u8 0), .val (.nilFunc), .val (.pointer none), .val (.int .i32 0), .val (.int .i32 0)] := by kernel_rfl
@[go_sem] theorem ty98_alloc : allocC Try.prog 98 = some [.val (.int .u64 0), .val (.int .u64 0), .val (.int .u32 0), .val (.int .u8 0), .val (.int .u8 0), .val (.int .u8 0), .val (.int .u8 0), .val (.nilFunc), .val (.pointer none), .val (.int .i32 0), .val (.int .i32 0)] := by kernel_rfl
end Go.Proofs.Ytbkmmelhfkcmgaa
