/- What the logic asks of the types of this program. -/
import Derived.Test.YtlanmghaflompaaDoorProg
import Derived.Test.YtlanmghaflompaaDoorAwN
open Go Go.RowKit
namespace Go.Proofs.YtlanmghaflompaaDoor
@[go_sem] theorem ty1_fn : isFnT Tryd.prog 1 = true := by kernel_rfl
@[go_sem] theorem ty2_size : sizeT Tryd.prog 2 = some 1 := by kernel_rfl
@[go_sem] theorem ty2_agg : isAggT Tryd.prog 2 = some false := by kernel_rfl
@[go_sem] theorem ty2_known : knownT Tryd.prog 2 = true := by kernel_rfl
@[go_sem] theorem ty2_kind : kindT Tryd.prog 2 = some .i64 := by kernel_rfl
@[go_sem] theorem ty2_bytes : bytesT Tryd.prog 2 = some 8 := by kernel_rfl
@[go_sem] theorem ty2_zero : zeroC Tryd.prog 2 = some [.val (.int .i64 0)] := by kernel_rfl
@[go_sem] theorem ty3_size : sizeT Tryd.prog 3 = some 1 := by kernel_rfl
@[go_sem] theorem ty3_agg : isAggT Tryd.prog 3 = some false := by kernel_rfl
@[go_sem] theorem ty3_known : knownT Tryd.prog 3 = true := by kernel_rfl
@[go_sem] theorem ty3_kind : kindT Tryd.prog 3 = some .i64 := by kernel_rfl
@[go_sem] theorem ty3_bytes : bytesT Tryd.prog 3 = some 8 := by kernel_rfl
@[go_sem] theorem ty3_zero : zeroC Tryd.prog 3 = some [.val (.int .i64 0)] := by kernel_rfl
@[go_sem] theorem ty4_size : sizeT Tryd.prog 4 = some 1 := by kernel_rfl
@[go_sem] theorem ty4_agg : isAggT Tryd.prog 4 = some false := by kernel_rfl
@[go_sem] theorem ty4_known : knownT Tryd.prog 4 = true := by kernel_rfl
@[go_sem] theorem ty4_bool : isBoolT Tryd.prog 4 = true := by kernel_rfl
@[go_sem] theorem ty4_bytes : bytesT Tryd.prog 4 = some 1 := by kernel_rfl
@[go_sem] theorem ty4_zero : zeroC Tryd.prog 4 = some [.val (.bool false)] := by kernel_rfl
@[go_sem] theorem ty5_size : sizeT Tryd.prog 5 = some 1 := by kernel_rfl
@[go_sem] theorem ty5_agg : isAggT Tryd.prog 5 = some false := by kernel_rfl
@[go_sem] theorem ty5_known : knownT Tryd.prog 5 = true := by kernel_rfl
@[go_sem] theorem ty5_kind : kindT Tryd.prog 5 = some .u8 := by kernel_rfl
@[go_sem] theorem ty5_bytes : bytesT Tryd.prog 5 = some 1 := by kernel_rfl
@[go_sem] theorem ty5_zero : zeroC Tryd.prog 5 = some [.val (.int .u8 0)] := by kernel_rfl
@[go_sem] theorem ty7_size : sizeT Tryd.prog 7 = some 4 := by kernel_rfl
@[go_sem] theorem ty7_agg : isAggT Tryd.prog 7 = some true := by kernel_rfl
@[go_sem] theorem ty7_known : knownT Tryd.prog 7 = true := by kernel_rfl
@[go_sem] theorem ty7_f0 : fldT Tryd.prog 7 0 = some (0, 2, 1) := by kernel_rfl
@[go_sem] theorem ty7_f1 : fldT Tryd.prog 7 1 = some (1, 3, 1) := by kernel_rfl
@[go_sem] theorem ty7_f2 : fldT Tryd.prog 7 2 = some (2, 4, 1) := by kernel_rfl
@[go_sem] theorem ty7_f3 : fldT Tryd.prog 7 3 = some (3, 6, 1) := by kernel_rfl
@[go_sem] theorem ty7_lay : layT Tryd.prog 7 = some (.str [(0, 1), (1, 1), (2, 1), (3, 1)]) := by kernel_rfl
@[go_sem] theorem ty7_bytes : bytesT Tryd.prog 7 = some 24 := by kernel_rfl
@[go_sem] theorem ty7_zero : zeroC Tryd.prog 7 = some [.val (.int .i64 0), .val (.int .i64 0), .val (.bool false), .val (.int .u8 0)] := by kernel_rfl
@[go_sem] theorem ty9_size : sizeT Tryd.prog 9 = some 1 := by kernel_rfl
@[go_sem] theorem ty9_agg : isAggT Tryd.prog 9 = some false := by kernel_rfl
@[go_sem] theorem ty9_known : knownT Tryd.prog 9 = true := by kernel_rfl
@[go_sem] theorem ty9_str : isStrT Tryd.prog 9 = true := by kernel_rfl
@[go_sem] theorem ty9_bytes : bytesT Tryd.prog 9 = some 16 := by kernel_rfl
@[go_sem] theorem ty9_zero : zeroC Tryd.prog 9 = some [.val (.string ⟨#[]⟩)] := by kernel_rfl
@[go_sem] theorem ty12_size : sizeT Tryd.prog 12 = some 1 := by kernel_rfl
@[go_sem] theorem ty12_agg : isAggT Tryd.prog 12 = some false := by kernel_rfl
@[go_sem] theorem ty12_known : knownT Tryd.prog 12 = true := by kernel_rfl
@[go_sem] theorem ty12_kind : kindT Tryd.prog 12 = some .u64 := by kernel_rfl
@[go_sem] theorem ty12_bytes : bytesT Tryd.prog 12 = some 8 := by kernel_rfl
@[go_sem] theorem ty12_zero : zeroC Tryd.prog 12 = some [.val (.int .u64 0)] := by kernel_rfl
@[go_sem] theorem ty13_size : sizeT Tryd.prog 13 = some 2 := by kernel_rfl
@[go_sem] theorem ty13_agg : isAggT Tryd.prog 13 = some true := by kernel_rfl
@[go_sem] theorem ty13_known : knownT Tryd.prog 13 = true := by kernel_rfl
@[go_sem] theorem ty13_f0 : fldT Tryd.prog 13 0 = some (0, 9, 1) := by kernel_rfl
@[go_sem] theorem ty13_f1 : fldT Tryd.prog 13 1 = some (1, 12, 1) := by kernel_rfl
@[go_sem] theorem ty13_lay : layT Tryd.prog 13 = some (.str [(0, 1), (1, 1)]) := by kernel_rfl
@[go_sem] theorem ty13_bytes : bytesT Tryd.prog 13 = some 24 := by kernel_rfl
@[go_sem] theorem ty13_zero : zeroC Tryd.prog 13 = some [.val (.string ⟨#[]⟩), .val (.int .u64 0)] := by kernel_rfl
@[go_sem] theorem ty15_size : sizeT Tryd.prog 15 = some 1 := by kernel_rfl
@[go_sem] theorem ty15_agg : isAggT Tryd.prog 15 = some false := by kernel_rfl
@[go_sem] theorem ty15_known : knownT Tryd.prog 15 = true := by kernel_rfl
@[go_sem] theorem ty15_ptr : isPtrT Tryd.prog 15 = true := by kernel_rfl
@[go_sem] theorem ty15_bytes : bytesT Tryd.prog 15 = some 8 := by kernel_rfl
@[go_sem] theorem ty15_zero : zeroC Tryd.prog 15 = some [.val (.pointer none)] := by kernel_rfl
@[go_sem] theorem ty16_size : sizeT Tryd.prog 16 = some 1 := by kernel_rfl
@[go_sem] theorem ty16_agg : isAggT Tryd.prog 16 = some false := by kernel_rfl
@[go_sem] theorem ty16_known : knownT Tryd.prog 16 = true := by kernel_rfl
@[go_sem] theorem ty16_ptr : isPtrT Tryd.prog 16 = true := by kernel_rfl
@[go_sem] theorem ty16_bytes : bytesT Tryd.prog 16 = some 8 := by kernel_rfl
@[go_sem] theorem ty16_zero : zeroC Tryd.prog 16 = some [.val (.pointer none)] := by kernel_rfl
@[go_sem] theorem ty17_size : sizeT Tryd.prog 17 = some 1 := by kernel_rfl
@[go_sem] theorem ty17_agg : isAggT Tryd.prog 17 = some false := by kernel_rfl
@[go_sem] theorem ty17_known : knownT Tryd.prog 17 = true := by kernel_rfl
@[go_sem] theorem ty17_ptr : isPtrT Tryd.prog 17 = true := by kernel_rfl
@[go_sem] theorem ty17_bytes : bytesT Tryd.prog 17 = some 8 := by kernel_rfl
@[go_sem] theorem ty17_zero : zeroC Tryd.prog 17 = some [.val (.pointer none)] := by kernel_rfl
@[go_sem] theorem ty18_size : sizeT Tryd.prog 18 = some 1 := by kernel_rfl
@[go_sem] theorem ty18_agg : isAggT Tryd.prog 18 = some true := by kernel_rfl
@[go_sem] theorem ty18_known : knownT Tryd.prog 18 = true := by kernel_rfl
@[go_sem] theorem ty18_f0 : fldT Tryd.prog 18 0 = some (0, 17, 1) := by kernel_rfl
@[go_sem] theorem ty18_lay : layT Tryd.prog 18 = some (.str [(0, 1)]) := by kernel_rfl
@[go_sem] theorem ty18_bytes : bytesT Tryd.prog 18 = some 8 := by kernel_rfl
@[go_sem] theorem ty18_zero : zeroC Tryd.prog 18 = some [.val (.pointer none)] := by kernel_rfl
@[go_sem] theorem ty19_size : sizeT Tryd.prog 19 = some 1 := by kernel_rfl
@[go_sem] theorem ty19_agg : isAggT Tryd.prog 19 = some true := by kernel_rfl
@[go_sem] theorem ty19_known : knownT Tryd.prog 19 = true := by kernel_rfl
@[go_sem] theorem ty19_f0 : fldT Tryd.prog 19 0 = some (0, 17, 1) := by kernel_rfl
@[go_sem] theorem ty19_lay : layT Tryd.prog 19 = some (.str [(0, 1)]) := by kernel_rfl
@[go_sem] theorem ty19_bytes : bytesT Tryd.prog 19 = some 8 := by kernel_rfl
@[go_sem] theorem ty19_zero : zeroC Tryd.prog 19 = some [.val (.pointer none)] := by kernel_rfl
@[go_sem] theorem ty21_size : sizeT Tryd.prog 21 = some 1 := by kernel_rfl
@[go_sem] theorem ty21_agg : isAggT Tryd.prog 21 = some false := by kernel_rfl
@[go_sem] theorem ty21_known : knownT Tryd.prog 21 = true := by kernel_rfl
@[go_sem] theorem ty21_kind : kindT Tryd.prog 21 = some .i32 := by kernel_rfl
@[go_sem] theorem ty21_bytes : bytesT Tryd.prog 21 = some 4 := by kernel_rfl
@[go_sem] theorem ty21_zero : zeroC Tryd.prog 21 = some [.val (.int .i32 0)] := by kernel_rfl
@[go_sem] theorem ty22_fn : isFnT Tryd.prog 22 = true := by kernel_rfl
@[go_sem] theorem ty23_fn : isFnT Tryd.prog 23 = true := by kernel_rfl
@[go_sem] theorem ty24_fn : isFnT Tryd.prog 24 = true := by kernel_rfl
@[go_sem] theorem ty25_fn : isFnT Tryd.prog 25 = true := by kernel_rfl
@[go_sem] theorem ty26_fn : isFnT Tryd.prog 26 = true := by kernel_rfl
@[go_sem] theorem ty27_fn : isFnT Tryd.prog 27 = true := by kernel_rfl
@[go_sem] theorem ty28_fn : isFnT Tryd.prog 28 = true := by kernel_rfl
@[go_sem] theorem ty29_size : sizeT Tryd.prog 29 = some 1 := by kernel_rfl
@[go_sem] theorem ty29_agg : isAggT Tryd.prog 29 = some false := by kernel_rfl
@[go_sem] theorem ty29_known : knownT Tryd.prog 29 = true := by kernel_rfl
@[go_sem] theorem ty29_kind : kindT Tryd.prog 29 = some .i64 := by kernel_rfl
@[go_sem] theorem ty29_bytes : bytesT Tryd.prog 29 = some 8 := by kernel_rfl
@[go_sem] theorem ty29_zero : zeroC Tryd.prog 29 = some [.val (.int .i64 0)] := by kernel_rfl
@[go_sem] theorem ty31_fn : isFnT Tryd.prog 31 = true := by kernel_rfl
@[go_sem] theorem ty33_fn : isFnT Tryd.prog 33 = true := by kernel_rfl
@[go_sem] theorem ty34_fn : isFnT Tryd.prog 34 = true := by kernel_rfl
@[go_sem] theorem ty35_fn : isFnT Tryd.prog 35 = true := by kernel_rfl
@[go_sem] theorem ty36_size : sizeT Tryd.prog 36 = some 1 := by kernel_rfl
@[go_sem] theorem ty36_agg : isAggT Tryd.prog 36 = some false := by kernel_rfl
@[go_sem] theorem ty36_known : knownT Tryd.prog 36 = true := by kernel_rfl
@[go_sem] theorem ty36_kind : kindT Tryd.prog 36 = some .u64 := by kernel_rfl
@[go_sem] theorem ty36_bytes : bytesT Tryd.prog 36 = some 8 := by kernel_rfl
@[go_sem] theorem ty36_zero : zeroC Tryd.prog 36 = some [.val (.int .u64 0)] := by kernel_rfl
@[go_sem] theorem ty37_fn : isFnT Tryd.prog 37 = true := by kernel_rfl
@[go_sem] theorem ty38_fn : isFnT Tryd.prog 38 = true := by kernel_rfl
@[go_sem] theorem ty40_fn : isFnT Tryd.prog 40 = true := by kernel_rfl
@[go_sem] theorem ty42_fn : isFnT Tryd.prog 42 = true := by kernel_rfl
@[go_sem] theorem ty44_size : sizeT Tryd.prog 44 = some 1 := by kernel_rfl
@[go_sem] theorem ty44_agg : isAggT Tryd.prog 44 = some false := by kernel_rfl
@[go_sem] theorem ty44_known : knownT Tryd.prog 44 = true := by kernel_rfl
@[go_sem] theorem ty44_bytes : bytesT Tryd.prog 44 = some 16 := by kernel_rfl
@[go_sem] theorem ty44_zero : zeroC Tryd.prog 44 = some [.val (.nilIface)] := by kernel_rfl
@[go_sem] theorem ty46_fn : isFnT Tryd.prog 46 = true := by kernel_rfl
@[go_sem] theorem ty47_fn : isFnT Tryd.prog 47 = true := by kernel_rfl
@[go_sem] theorem ty48_size : sizeT Tryd.prog 48 = some 1 := by kernel_rfl
@[go_sem] theorem ty48_agg : isAggT Tryd.prog 48 = some false := by kernel_rfl
@[go_sem] theorem ty48_known : knownT Tryd.prog 48 = true := by kernel_rfl
@[go_sem] theorem ty48_kind : kindT Tryd.prog 48 = some .u64 := by kernel_rfl
@[go_sem] theorem ty48_bytes : bytesT Tryd.prog 48 = some 8 := by kernel_rfl
@[go_sem] theorem ty48_zero : zeroC Tryd.prog 48 = some [.val (.int .u64 0)] := by kernel_rfl
@[go_sem] theorem ty49_size : sizeT Tryd.prog 49 = some 1 := by kernel_rfl
@[go_sem] theorem ty49_agg : isAggT Tryd.prog 49 = some false := by kernel_rfl
@[go_sem] theorem ty49_known : knownT Tryd.prog 49 = true := by kernel_rfl
@[go_sem] theorem ty49_slc : isSlcT Tryd.prog 49 = true := by kernel_rfl
@[go_sem] theorem ty49_idx : idxT Tryd.prog 49 = some (none, 5, 1) := by kernel_rfl
@[go_sem] theorem ty49_bytes : bytesT Tryd.prog 49 = some 24 := by kernel_rfl
@[go_sem] theorem ty49_zero : zeroC Tryd.prog 49 = some [.lst .full (some true) 1 []] := by kernel_rfl
@[go_sem] theorem ty51_fn : isFnT Tryd.prog 51 = true := by kernel_rfl
@[go_sem] theorem ty52_fn : isFnT Tryd.prog 52 = true := by kernel_rfl
@[go_sem] theorem ty53_size : sizeT Tryd.prog 53 = some 1 := by kernel_rfl
@[go_sem] theorem ty53_agg : isAggT Tryd.prog 53 = some false := by kernel_rfl
@[go_sem] theorem ty53_known : knownT Tryd.prog 53 = true := by kernel_rfl
@[go_sem] theorem ty53_ptr : isPtrT Tryd.prog 53 = true := by kernel_rfl
@[go_sem] theorem ty53_bytes : bytesT Tryd.prog 53 = some 8 := by kernel_rfl
@[go_sem] theorem ty53_zero : zeroC Tryd.prog 53 = some [.val (.pointer none)] := by kernel_rfl
@[go_sem] theorem ty54_size : sizeT Tryd.prog 54 = some 2 := by kernel_rfl
@[go_sem] theorem ty54_agg : isAggT Tryd.prog 54 = some true := by kernel_rfl
@[go_sem] theorem ty54_known : knownT Tryd.prog 54 = true := by kernel_rfl
@[go_sem] theorem ty54_f0 : fldT Tryd.prog 54 0 = some (0, 53, 1) := by kernel_rfl
@[go_sem] theorem ty54_f1 : fldT Tryd.prog 54 1 = some (1, 49, 1) := by kernel_rfl
@[go_sem] theorem ty54_lay : layT Tryd.prog 54 = some (.str [(0, 1), (1, 1)]) := by kernel_rfl
@[go_sem] theorem ty54_bytes : bytesT Tryd.prog 54 = some 32 := by kernel_rfl
@[go_sem] theorem ty54_zero : zeroC Tryd.prog 54 = some [.val (.pointer none), .lst .full (some true) 1 []] := by kernel_rfl
@[go_sem] theorem ty55_size : sizeT Tryd.prog 55 = some 2 := by kernel_rfl
@[go_sem] theorem ty55_agg : isAggT Tryd.prog 55 = some true := by kernel_rfl
@[go_sem] theorem ty55_known : knownT Tryd.prog 55 = true := by kernel_rfl
@[go_sem] theorem ty55_f0 : fldT Tryd.prog 55 0 = some (0, 53, 1) := by kernel_rfl
@[go_sem] theorem ty55_f1 : fldT Tryd.prog 55 1 = some (1, 49, 1) := by kernel_rfl
@[go_sem] theorem ty55_lay : layT Tryd.prog 55 = some (.str [(0, 1), (1, 1)]) := by kernel_rfl
@[go_sem] theorem ty55_bytes : bytesT Tryd.prog 55 = some 32 := by kernel_rfl
@[go_sem] theorem ty55_zero : zeroC Tryd.prog 55 = some [.val (.pointer none), .lst .full (some true) 1 []] := by kernel_rfl
@[go_sem] theorem ty56_fn : isFnT Tryd.prog 56 = true := by kernel_rfl
@[go_sem] theorem ty58_fn : isFnT Tryd.prog 58 = true := by kernel_rfl
@[go_sem] theorem ty59_fn : isFnT Tryd.prog 59 = true := by kernel_rfl
@[go_sem] theorem ty60_fn : isFnT Tryd.prog 60 = true := by kernel_rfl
@[go_sem] theorem ty61_fn : isFnT Tryd.prog 61 = true := by kernel_rfl
@[go_sem] theorem ty62_fn : isFnT Tryd.prog 62 = true := by kernel_rfl
@[go_sem] theorem ty63_size : sizeT Tryd.prog 63 = some 24 := by kernel_rfl
@[go_sem] theorem ty63_agg : isAggT Tryd.prog 63 = some true := by kernel_rfl
@[go_sem] theorem ty63_known : knownT Tryd.prog 63 = true := by kernel_rfl
@[go_sem] theorem ty63_idx : idxT Tryd.prog 63 = some (some 24, 5, 1) := by kernel_rfl
@[go_sem] theorem ty63_lay : layT Tryd.prog 63 = some (.arr 1) := by kernel_rfl
@[go_sem] theorem ty63_bytes : bytesT Tryd.prog 63 = some 24 := by kernel_rfl
@[go_sem] theorem ty63_zero : zeroC Tryd.prog 63 = some [.val (.int .u8 0), .val (.int .u8 0), .val (.int .u8 0), .val (.int .u8 0), .val (.int .u8 0), .val (.int .u8 0), .val (.int .u8 0), .val (.int .u8 0), .val (.int .u8 0), .val (.int .u8 0), .val (.int .u8 0), .val (.int .u8 0), .val (.int .u8 0), .val (.int .u8 0), .val (.int .u8 0), .val (.int .u8 0), .val (.int .u8 0), .val (.int .u8 0), .val (.int .u8 0), .val (.int .u8 0), .val (.int .u8 0), .val (.int .u8 0), .val (.int .u8 0), .val (.int .u8 0)] := by kernel_rfl
theorem ty63_und : ∃ q, Tryd.prog.underlying 63 = some (.array q.1 q.2) ∧ q = (24, 5) := ⟨(24, 5), by kernel_rfl, rfl⟩
@[go_sem] theorem ty64_fn : isFnT Tryd.prog 64 = true := by kernel_rfl
@[go_sem] theorem ty65_fn : isFnT Tryd.prog 65 = true := by kernel_rfl
@[go_sem] theorem ty67_fn : isFnT Tryd.prog 67 = true := by kernel_rfl
@[go_sem] theorem ty68_size : sizeT Tryd.prog 68 = some 1 := by kernel_rfl
@[go_sem] theorem ty68_agg : isAggT Tryd.prog 68 = some false := by kernel_rfl
@[go_sem] theorem ty68_known : knownT Tryd.prog 68 = true := by kernel_rfl
@[go_sem] theorem ty68_kind : kindT Tryd.prog 68 = some .u32 := by kernel_rfl
@[go_sem] theorem ty68_bytes : bytesT Tryd.prog 68 = some 4 := by kernel_rfl
@[go_sem] theorem ty68_zero : zeroC Tryd.prog 68 = some [.val (.int .u32 0)] := by kernel_rfl
@[go_sem] theorem ty70_fn : isFnT Tryd.prog 70 = true := by kernel_rfl
@[go_sem] theorem ty72_fn : isFnT Tryd.prog 72 = true := by kernel_rfl
@[go_sem] theorem ty73_size : sizeT Tryd.prog 73 = some 1 := by kernel_rfl
@[go_sem] theorem ty73_agg : isAggT Tryd.prog 73 = some false := by kernel_rfl
@[go_sem] theorem ty73_known : knownT Tryd.prog 73 = true := by kernel_rfl
@[go_sem] theorem ty73_ptr : isPtrT Tryd.prog 73 = true := by kernel_rfl
@[go_sem] theorem ty73_bytes : bytesT Tryd.prog 73 = some 8 := by kernel_rfl
@[go_sem] theorem ty73_zero : zeroC Tryd.prog 73 = some [.val (.pointer none)] := by kernel_rfl
@[go_sem] theorem ty74_fn : isFnT Tryd.prog 74 = true := by kernel_rfl
@[go_sem] theorem ty75_size : sizeT Tryd.prog 75 = some 1 := by kernel_rfl
@[go_sem] theorem ty75_agg : isAggT Tryd.prog 75 = some false := by kernel_rfl
@[go_sem] theorem ty75_known : knownT Tryd.prog 75 = true := by kernel_rfl
@[go_sem] theorem ty75_kind : kindT Tryd.prog 75 = some .i64 := by kernel_rfl
@[go_sem] theorem ty75_bytes : bytesT Tryd.prog 75 = some 8 := by kernel_rfl
@[go_sem] theorem ty75_zero : zeroC Tryd.prog 75 = some [.val (.int .i64 0)] := by kernel_rfl
@[go_sem] theorem ty77_fn : isFnT Tryd.prog 77 = true := by kernel_rfl
@[go_sem] theorem ty78_size : sizeT Tryd.prog 78 = some 1 := by kernel_rfl
@[go_sem] theorem ty78_agg : isAggT Tryd.prog 78 = some false := by kernel_rfl
@[go_sem] theorem ty78_known : knownT Tryd.prog 78 = true := by kernel_rfl
@[go_sem] theorem ty78_ptr : isPtrT Tryd.prog 78 = true := by kernel_rfl
@[go_sem] theorem ty78_bytes : bytesT Tryd.prog 78 = some 8 := by kernel_rfl
@[go_sem] theorem ty78_zero : zeroC Tryd.prog 78 = some [.val (.pointer none)] := by kernel_rfl
@[go_sem] theorem ty79_fn : isFnT Tryd.prog 79 = true := by kernel_rfl
@[go_sem] theorem ty80_fn : isFnT Tryd.prog 80 = true := by kernel_rfl
@[go_sem] theorem ty81_fn : isFnT Tryd.prog 81 = true := by kernel_rfl
@[go_sem] theorem ty82_fn : isFnT Tryd.prog 82 = true := by kernel_rfl
@[go_sem] theorem ty83_size : sizeT Tryd.prog 83 = some 20 := by kernel_rfl
@[go_sem] theorem ty83_agg : isAggT Tryd.prog 83 = some true := by kernel_rfl
@[go_sem] theorem ty83_known : knownT Tryd.prog 83 = true := by kernel_rfl
@[go_sem] theorem ty83_idx : idxT Tryd.prog 83 = some (some 20, 48, 1) := by kernel_rfl
@[go_sem] theorem ty83_lay : layT Tryd.prog 83 = some (.arr 1) := by kernel_rfl
@[go_sem] theorem ty83_bytes : bytesT Tryd.prog 83 = some 160 := by kernel_rfl
@[go_sem] theorem ty83_zero : zeroC Tryd.prog 83 = some [.val (.int .u64 0), .val (.int .u64 0), .val (.int .u64 0), .val (.int .u64 0), .val (.int .u64 0), .val (.int .u64 0), .val (.int .u64 0), .val (.int .u64 0), .val (.int .u64 0), .val (.int .u64 0), .val (.int .u64 0), .val (.int .u64 0), .val (.int .u64 0), .val (.int .u64 0), .val (.int .u64 0), .val (.int .u64 0), .val (.int .u64 0), .val (.int .u64 0), .val (.int .u64 0), .val (.int .u64 0)] := by kernel_rfl
theorem ty83_und : ∃ q, Tryd.prog.underlying 83 = some (.array q.1 q.2) ∧ q = (20, 48) := ⟨(20, 48), by kernel_rfl, rfl⟩
@[go_sem] theorem ty84_size : sizeT Tryd.prog 84 = some 65 := by kernel_rfl
@[go_sem] theorem ty84_agg : isAggT Tryd.prog 84 = some true := by kernel_rfl
@[go_sem] theorem ty84_known : knownT Tryd.prog 84 = true := by kernel_rfl
@[go_sem] theorem ty84_idx : idxT Tryd.prog 84 = some (some 65, 5, 1) := by kernel_rfl
@[go_sem] theorem ty84_lay : layT Tryd.prog 84 = some (.arr 1) := by kernel_rfl
@[go_sem] theorem ty84_bytes : bytesT Tryd.prog 84 = some 65 := by kernel_rfl
@[go_sem] theorem ty84_zero : zeroC Tryd.prog 84 = some (List.replicate 65 (.val (.int .u8 0))) := by kernel_rfl
theorem ty84_und : ∃ q, Tryd.prog.underlying 84 = some (.array q.1 q.2) ∧ q = (65, 5) := ⟨(65, 5), by kernel_rfl, rfl⟩
@[go_sem] theorem ty85_fn : isFnT Tryd.prog 85 = true := by kernel_rfl
@[go_sem] theorem ty86_fn : isFnT Tryd.prog 86 = true := by kernel_rfl
@[go_sem] theorem ty87_size : sizeT Tryd.prog 87 = some 1 := by kernel_rfl
@[go_sem] theorem ty87_agg : isAggT Tryd.prog 87 = some false := by kernel_rfl
@[go_sem] theorem ty87_known : knownT Tryd.prog 87 = true := by kernel_rfl
@[go_sem] theorem ty87_bytes : bytesT Tryd.prog 87 = some 8 := by kernel_rfl
@[go_sem] theorem ty87_zero : zeroC Tryd.prog 87 = some [.val (.pointer none)] := by kernel_rfl
@[go_sem] theorem ty88_fn : isFnT Tryd.prog 88 = true := by kernel_rfl
@[go_sem] theorem ty89_fn : isFnT Tryd.prog 89 = true := by kernel_rfl
@[go_sem] theorem ty90_fn : isFnT Tryd.prog 90 = true := by kernel_rfl
@[go_sem] theorem ty91_fn : isFnT Tryd.prog 91 = true := by kernel_rfl
@[go_sem] theorem ty92_fn : isFnT Tryd.prog 92 = true := by kernel_rfl
@[go_sem] theorem ty93_fn : isFnT Tryd.prog 93 = true := by kernel_rfl
@[go_sem] theorem ty94_size : sizeT Tryd.prog 94 = some 3 := by kernel_rfl
@[go_sem] theorem ty94_agg : isAggT Tryd.prog 94 = some true := by kernel_rfl
@[go_sem] theorem ty94_known : knownT Tryd.prog 94 = true := by kernel_rfl
@[go_sem] theorem ty94_f0 : fldT Tryd.prog 94 0 = some (0, 9, 1) := by kernel_rfl
@[go_sem] theorem ty94_f1 : fldT Tryd.prog 94 1 = some (1, 9, 1) := by kernel_rfl
@[go_sem] theorem ty94_f2 : fldT Tryd.prog 94 2 = some (2, 44, 1) := by kernel_rfl
@[go_sem] theorem ty94_lay : layT Tryd.prog 94 = some (.str [(0, 1), (1, 1), (2, 1)]) := by kernel_rfl
@[go_sem] theorem ty94_bytes : bytesT Tryd.prog 94 = some 48 := by kernel_rfl
@[go_sem] theorem ty94_zero : zeroC Tryd.prog 94 = some [.val (.string ⟨#[]⟩), .val (.string ⟨#[]⟩), .val (.nilIface)] := by kernel_rfl
@[go_sem] theorem ty95_size : sizeT Tryd.prog 95 = some 3 := by kernel_rfl
@[go_sem] theorem ty95_agg : isAggT Tryd.prog 95 = some true := by kernel_rfl
@[go_sem] theorem ty95_known : knownT Tryd.prog 95 = true := by kernel_rfl
@[go_sem] theorem ty95_f0 : fldT Tryd.prog 95 0 = some (0, 9, 1) := by kernel_rfl
@[go_sem] theorem ty95_f1 : fldT Tryd.prog 95 1 = some (1, 9, 1) := by kernel_rfl
@[go_sem] theorem ty95_f2 : fldT Tryd.prog 95 2 = some (2, 44, 1) := by kernel_rfl
@[go_sem] theorem ty95_lay : layT Tryd.prog 95 = some (.str [(0, 1), (1, 1), (2, 1)]) := by kernel_rfl
@[go_sem] theorem ty95_bytes : bytesT Tryd.prog 95 = some 48 := by kernel_rfl
@[go_sem] theorem ty95_zero : zeroC Tryd.prog 95 = some [.val (.string ⟨#[]⟩), .val (.string ⟨#[]⟩), .val (.nilIface)] := by kernel_rfl
@[go_sem] theorem ty96_fn : isFnT Tryd.prog 96 = true := by kernel_rfl
@[go_sem] theorem ty97_fn : isFnT Tryd.prog 97 = true := by kernel_rfl
@[go_sem] theorem ty98_fn : isFnT Tryd.prog 98 = true := by kernel_rfl
@[go_sem] theorem ty99_size : sizeT Tryd.prog 99 = some 1 := by kernel_rfl
@[go_sem] theorem ty99_agg : isAggT Tryd.prog 99 = some false := by kernel_rfl
@[go_sem] theorem ty99_known : knownT Tryd.prog 99 = true := by kernel_rfl
@[go_sem] theorem ty99_ptr : isPtrT Tryd.prog 99 = true := by kernel_rfl
@[go_sem] theorem ty99_bytes : bytesT Tryd.prog 99 = some 8 := by kernel_rfl
@[go_sem] theorem ty99_zero : zeroC Tryd.prog 99 = some [.val (.pointer none)] := by kernel_rfl
@[go_sem] theorem ty100_size : sizeT Tryd.prog 100 = some 1 := by kernel_rfl
@[go_sem] theorem ty100_agg : isAggT Tryd.prog 100 = some true := by kernel_rfl
@[go_sem] theorem ty100_known : knownT Tryd.prog 100 = true := by kernel_rfl
@[go_sem] theorem ty100_f0 : fldT Tryd.prog 100 0 = some (0, 9, 1) := by kernel_rfl
@[go_sem] theorem ty100_lay : layT Tryd.prog 100 = some (.str [(0, 1)]) := by kernel_rfl
@[go_sem] theorem ty100_bytes : bytesT Tryd.prog 100 = some 16 := by kernel_rfl
@[go_sem] theorem ty100_zero : zeroC Tryd.prog 100 = some [.val (.string ⟨#[]⟩)] := by kernel_rfl
@[go_sem] theorem ty101_size : sizeT Tryd.prog 101 = some 1 := by kernel_rfl
@[go_sem] theorem ty101_agg : isAggT Tryd.prog 101 = some true := by kernel_rfl
@[go_sem] theorem ty101_known : knownT Tryd.prog 101 = true := by kernel_rfl
@[go_sem] theorem ty101_f0 : fldT Tryd.prog 101 0 = some (0, 9, 1) := by kernel_rfl
@[go_sem] theorem ty101_lay : layT Tryd.prog 101 = some (.str [(0, 1)]) := by kernel_rfl
@[go_sem] theorem ty101_bytes : bytesT Tryd.prog 101 = some 16 := by kernel_rfl
@[go_sem] theorem ty101_zero : zeroC Tryd.prog 101 = some [.val (.string ⟨#[]⟩)] := by kernel_rfl
@[go_sem] theorem ty102_size : sizeT Tryd.prog 102 = some 32 := by kernel_rfl
@[go_sem] theorem ty102_agg : isAggT Tryd.prog 102 = some true := by kernel_rfl
@[go_sem] theorem ty102_known : knownT Tryd.prog 102 = true := by kernel_rfl
@[go_sem] theorem ty102_idx : idxT Tryd.prog 102 = some (some 32, 5, 1) := by kernel_rfl
@[go_sem] theorem ty102_lay : layT Tryd.prog 102 = some (.arr 1) := by kernel_rfl
@[go_sem] theorem ty102_bytes : bytesT Tryd.prog 102 = some 32 := by kernel_rfl
@[go_sem] theorem ty102_zero : zeroC Tryd.prog 102 = some [.val (.int .u8 0), .val (.int .u8 0), .val (.int .u8 0), .val (.int .u8 0), .val (.int .u8 0), .val (.int .u8 0), .val (.int .u8 0), .val (.int .u8 0), .val (.int .u8 0), .val (.int .u8 0), .val (.int .u8 0), .val (.int .u8 0), .val (.int .u8 0), .val (.int .u8 0), .val (.int .u8 0), .val (.int .u8 0), .val (.int .u8 0), .val (.int .u8 0), .val (.int .u8 0), .val (.int .u8 0), .val (.int .u8 0), .val (.int .u8 0), .val (.int .u8 0), .val (.int .u8 0), .val (.int .u8 0), .val (.int .u8 0), .val (.int .u8 0), .val (.int .u8 0), .val (.int .u8 0), .val (.int .u8 0), .val (.int .u8 0), .val (.int .u8 0)] := by kernel_rfl
theorem ty102_und : ∃ q, Tryd.prog.underlying 102 = some (.array q.1 q.2) ∧ q = (32, 5) := ⟨(32, 5), by kernel_rfl, rfl⟩
@[go_sem] theorem ty103_size : sizeT Tryd.prog 103 = some 64 := by kernel_rfl
@[go_sem] theorem ty103_agg : isAggT Tryd.prog 103 = some true := by kernel_rfl
@[go_sem] theorem ty103_known : knownT Tryd.prog 103 = true := by kernel_rfl
@[go_sem] theorem ty103_idx : idxT Tryd.prog 103 = some (some 64, 5, 1) := by kernel_rfl
@[go_sem] theorem ty103_lay : layT Tryd.prog 103 = some (.arr 1) := by kernel_rfl
@[go_sem] theorem ty103_bytes : bytesT Tryd.prog 103 = some 64 := by kernel_rfl
@[go_sem] theorem ty103_zero : zeroC Tryd.prog 103 = some (List.replicate 64 (.val (.int .u8 0))) := by kernel_rfl
theorem ty103_und : ∃ q, Tryd.prog.underlying 103 = some (.array q.1 q.2) ∧ q = (64, 5) := ⟨(64, 5), by kernel_rfl, rfl⟩
@[go_sem] theorem ty104_size : sizeT Tryd.prog 104 = some 4 := by kernel_rfl
@[go_sem] theorem ty104_agg : isAggT Tryd.prog 104 = some true := by kernel_rfl
@[go_sem] theorem ty104_known : knownT Tryd.prog 104 = true := by kernel_rfl
@[go_sem] theorem ty104_f0 : fldT Tryd.prog 104 0 = some (0, 17, 1) := by kernel_rfl
@[go_sem] theorem ty104_f1 : fldT Tryd.prog 104 1 = some (1, 17, 1) := by kernel_rfl
@[go_sem] theorem ty104_f2 : fldT Tryd.prog 104 2 = some (2, 17, 1) := by kernel_rfl
@[go_sem] theorem ty104_f3 : fldT Tryd.prog 104 3 = some (3, 9, 1) := by kernel_rfl
@[go_sem] theorem ty104_lay : layT Tryd.prog 104 = some (.str [(0, 1), (1, 1), (2, 1), (3, 1)]) := by kernel_rfl
@[go_sem] theorem ty104_bytes : bytesT Tryd.prog 104 = some 40 := by kernel_rfl
@[go_sem] theorem ty104_zero : zeroC Tryd.prog 104 = some [.val (.pointer none), .val (.pointer none), .val (.pointer none), .val (.string ⟨#[]⟩)] := by kernel_rfl
@[go_sem] theorem ty106_size : sizeT Tryd.prog 106 = some 0 := by kernel_rfl
@[go_sem] theorem ty106_agg : isAggT Tryd.prog 106 = some true := by kernel_rfl
@[go_sem] theorem ty106_known : knownT Tryd.prog 106 = true := by kernel_rfl
@[go_sem] theorem ty106_idx : idxT Tryd.prog 106 = some (some 0, 16, 1) := by kernel_rfl
@[go_sem] theorem ty106_lay : layT Tryd.prog 106 = some (.arr 1) := by kernel_rfl
@[go_sem] theorem ty106_bytes : bytesT Tryd.prog 106 = some 0 := by kernel_rfl
@[go_sem] theorem ty106_zero : zeroC Tryd.prog 106 = some [] := by kernel_rfl
theorem ty106_und : ∃ q, Tryd.prog.underlying 106 = some (.array q.1 q.2) ∧ q = (0, 16) := ⟨(0, 16), by kernel_rfl, rfl⟩
@[go_sem] theorem ty107_size : sizeT Tryd.prog 107 = some 0 := by kernel_rfl
@[go_sem] theorem ty107_agg : isAggT Tryd.prog 107 = some true := by kernel_rfl
@[go_sem] theorem ty107_known : knownT Tryd.prog 107 = true := by kernel_rfl
@[go_sem] theorem ty107_f0 : fldT Tryd.prog 107 0 = some (0, 106, 0) := by kernel_rfl
@[go_sem] theorem ty107_lay : layT Tryd.prog 107 = some (.str [(0, 0)]) := by kernel_rfl
@[go_sem] theorem ty107_bytes : bytesT Tryd.prog 107 = some 0 := by kernel_rfl
@[go_sem] theorem ty107_zero : zeroC Tryd.prog 107 = some [] := by kernel_rfl
@[go_sem] theorem ty111_fn : isFnT Tryd.prog 111 = true := by kernel_rfl
@[go_sem] theorem ty114_size : sizeT Tryd.prog 114 = some 11 := by kernel_rfl
@[go_sem] theorem ty114_agg : isAggT Tryd.prog 114 = some true := by kernel_rfl
@[go_sem] theorem ty114_known : knownT Tryd.prog 114 = true := by kernel_rfl
@[go_sem] theorem ty114_f0 : fldT Tryd.prog 114 0 = some (0, 12, 1) := by kernel_rfl
@[go_sem] theorem ty114_f1 : fldT Tryd.prog 114 1 = some (1, 12, 1) := by kernel_rfl
@[go_sem] theorem ty114_f2 : fldT Tryd.prog 114 2 = some (2, 68, 1) := by kernel_rfl
@[go_sem] theorem ty114_f3 : fldT Tryd.prog 114 3 = some (3, 109, 1) := by kernel_rfl
@[go_sem] theorem ty114_f4 : fldT Tryd.prog 114 4 = some (4, 5, 1) := by kernel_rfl
@[go_sem] theorem ty114_f5 : fldT Tryd.prog 114 5 = some (5, 5, 1) := by kernel_rfl
@[go_sem] theorem ty114_f6 : fldT Tryd.prog 114 6 = some (6, 110, 1) := by kernel_rfl
@[go_sem] theorem ty114_f7 : fldT Tryd.prog 114 7 = some (7, 111, 1) := by kernel_rfl
@[go_sem] theorem ty114_f8 : fldT Tryd.prog 114 8 = some (8, 73, 1) := by kernel_rfl
@[go_sem] theorem ty114_f9 : fldT Tryd.prog 114 9 = some (9, 112, 1) := by kernel_rfl
@[go_sem] theorem ty114_f10 : fldT Tryd.prog 114 10 = some (10, 113, 1) := by kernel_rfl
@[go_sem] theorem ty114_lay : layT Tryd.prog 114 = some (.str [(0, 1), (1, 1), (2, 1), (3, 1), (4, 1), (5, 1), (6, 1), (7, 1), (8, 1), (9, 1), (10, 1)]) := by kernel_rfl
@[go_sem] theorem ty114_bytes : bytesT Tryd.prog 114 = some 48 := by kernel_rfl
@[go_sem] theorem ty114_zero : zeroC Tryd.prog 114 = some [.val (.int .u64 0), .val (.int .u64 0), .val (.int .u32 0), .val (.int .u8 0), .val (.int .u8 0), .val (.int .u8 0), .val (.int .u8 0), .val (.nilFunc), .val (.pointer none), .val (.int .i32 0), .val (.int .i32 0)] := by kernel_rfl
end Go.Proofs.YtlanmghaflompaaDoor
