/- The logic: cells laid over rows that are joined of parts; cells of a state. -/
import Derived.Test.YtamcjecgkfmjkaaSt
import Derived.Test.YtamcjecgkfmjkaaIn
open Go Go.RowKit
namespace Go.Proofs.Ytamcjecgkfmjkaa
set_option linter.unusedSimpArgs false
set_option linter.unusedVariables false
def aFld (P : Program) (q : Option (Nat × TypeId × Nat)) (cs : List C) (K : V → Prop) : Prop :=
  match q with
  | some (off, ft, sz) => aPart P ft sz cs off K
  | none => False
@[go_sem ↓] theorem e_fldA {P : Program} {t : TypeId} {cs : List C} {i : Nat} {K : V → Prop} : aField P t (.w (.agg cs)) i K = aFld P (fldT P t i) cs K := by
  unfold aField aFld
  refine propext ⟨?_, ?_⟩
  · rintro ⟨off, ft, sz, h, hk⟩
    rw [h]; exact hk
  · intro h
    split at h
    · rename_i off ft sz hq
      exact ⟨off, ft, sz, hq, h⟩
    · cases h
@[congr] theorem cg_aFld {P : Program} {q q' : Option (Nat × TypeId × Nat)} {cs : List C} {K : V → Prop} (h0 : q = q') : aFld P q cs K = aFld P q' cs K := by subst h0; rfl
@[go_sem ↓] theorem e_fldS {P : Program} {off ft sz : Nat} {cs : List C} {K : V → Prop} : aFld P (some (off, ft, sz)) cs K = aPart P ft sz cs off K := nr rfl
theorem c_b {P : Program} {Q : AExit → St → Prop} {s : St} {b : Bool} {x y : Code} (h1 : b = true → awp P x Q s) (h2 : b = false → awp P y Q s) : aCondC P (V.bool b) x y Q s := by
  cases b
  · exact ⟨fun h => (by cases h), fun _ => h2 rfl⟩
  · exact ⟨fun _ => h1 rfl, fun h => (by cases h)⟩
theorem spl_appR {α : Type} {a b vs : List α} {o : Nat} (h : o + vs.length ≤ b.length) : spl (a ++ b) (a.length + o) vs = a ++ spl b o vs := by
  rw [spl_eq (by rw [List.length_append]; omega), spl_eq h, List.take_append, List.take_of_length_le (by omega), Nat.add_sub_cancel_left, show a.length + o + vs.length = a.length + (o + vs.length) by omega, List.drop_append, List.drop_eq_nil_of_le (by omega), Nat.add_sub_cancel_left]
  simp
theorem spl_appL {α : Type} {a b vs : List α} {o : Nat} (h : o + vs.length ≤ a.length) : spl (a ++ b) o vs = spl a o vs ++ b := by
  rw [spl_eq (by rw [List.length_append]; omega), spl_eq h, List.take_append_of_le_length (by omega), List.drop_append_of_le_length (by omega)]
  simp
theorem spl_all {x y : List C} (h : x.length = y.length) : spl x 0 y = y := by
  rw [spl_eq (by omega), List.take_zero, List.nil_append, List.drop_eq_nil_of_le (by omega), List.append_nil]
theorem stow_big {s : St} {i : Id} {off : Nat} {cs vs : List C} (h : 2 ≤ vs.length) : St.stow s i off cs vs = ⟨s.slots, hset s.heap i (spl cs off (vs.map (C.clean (fun _ => false) fun _ => true)))⟩ := by
  unfold St.stow
  split
  · simp at h
  · rfl
/-! ### a state's cells, one by one -/
def Sta.wFrame (s : Sta) (x : Int) : Sta := ⟨x, s.cells, s.seed, s.over, s.win, s.len⟩
def Sta.wCells (s : Sta) (k : Nat) (x : Int) : Sta := ⟨s.frame, s.cells.set k x, s.seed, s.over, s.win, by rw [List.length_set, s.len]⟩
def Sta.wSeed (s : Sta) (x : UInt32) : Sta := ⟨s.frame, s.cells, x, s.over, s.win, s.len⟩
def Sta.wOver (s : Sta) (x : Bool) : Sta := ⟨s.frame, s.cells, s.seed, x, s.win, s.len⟩
def Sta.wWin (s : Sta) (x : Int) : Sta := ⟨s.frame, s.cells, s.seed, s.over, x, s.len⟩
theorem spl1 {l : List C} {k : Nat} {x : C} : spl l k [x] = l.set k x := rfl
theorem sdC_len {s : Sta} : ((sd s).map D.toC).length = 20 := by rw [List.length_map, sd_len]
section
variable {s : Sta}
theorem spl_frame {x : Int} : spl ((sd s).map D.toC) 0 [.val (.int .i64 x)] = (sd (s.wFrame x)).map D.toC := rfl
theorem spl_cells {k : Nat} {x : Int} (h : k < 16) : spl ((sd s).map D.toC) (k + 1) [.val (.int .i32 x)] = (sd (s.wCells k x)).map D.toC := by
  rw [spl1, show (C.val (.int .i32 x)) = D.toC (.val (.int .i32 x)) from rfl, ← List.map_set]
  congr 1
  show List.set (_ :: (c32 s.cells ++ _)) (k + 1) _ = _
  rw [List.set_cons_succ, List.set_append, if_pos (by rw [c32_len, s.len]; omega)]
  unfold sd Sta.wCells c32
  rw [List.map_set]
theorem spl_tail {k : Nat} {x : D} (h : 17 ≤ k) : spl ((sd s).map D.toC) k [x.toC] = ((.val (.int .i64 s.frame) :: (c32 s.cells ++ ([.val (.int .u32 (U32 s.seed)), .val (.bool s.over), .val (.int .i64 s.win)] : List D).set (k - 17) x))).map D.toC := by
  rw [spl1, ← List.map_set]
  congr 1
  obtain ⟨k, rfl⟩ := Nat.exists_eq_add_of_le h
  show List.set (_ :: (c32 s.cells ++ _)) (17 + k) _ = _
  rw [show 17 + k = (16 + k) + 1 by omega, List.set_cons_succ, List.set_append, if_neg (by rw [c32_len, s.len]; omega), c32_len, s.len]
  congr 3
theorem spl_seed {x : UInt32} : spl ((sd s).map D.toC) 17 [.val (.int .u32 (U32 x))] = (sd (s.wSeed x)).map D.toC := spl_tail (x := .val (.int .u32 (U32 x))) (Nat.le_refl _)
theorem spl_over {x : Bool} : spl ((sd s).map D.toC) 18 [.val (.bool x)] = (sd (s.wOver x)).map D.toC := spl_tail (x := .val (.bool x)) (by omega)
theorem spl_win {x : Int} : spl ((sd s).map D.toC) 19 [.val (.int .i64 x)] = (sd (s.wWin x)).map D.toC := spl_tail (x := .val (.int .i64 x)) (by omega)
theorem get_frame : ((sd s).map D.toC)[0]? = some (.val (.int .i64 s.frame)) := rfl
theorem get_cells {k : Nat} (h : k < 16) : ((sd s).map D.toC)[k + 1]? = some (.val (.int .i32 (s.cells.getD k 0))) := by
  rw [List.getElem?_map]
  show Option.map D.toC ((_ :: (c32 s.cells ++ _) : List D)[k + 1]?) = _
  rw [List.getElem?_cons_succ, List.getElem?_append_left (by rw [c32_len, s.len]; omega)]
  have : k < s.cells.length := by rw [s.len]; omega
  simp [c32, this, D.toC]
theorem get_seed : ((sd s).map D.toC)[17]? = some (.val (.int .u32 (U32 s.seed))) := by rw [List.getElem?_map, sd17]; rfl
theorem get_over : ((sd s).map D.toC)[18]? = some (.val (.bool s.over)) := by rw [List.getElem?_map, sd18]; rfl
theorem get_win : ((sd s).map D.toC)[19]? = some (.val (.int .i64 s.win)) := by rw [List.getElem?_map, sd19]; rfl
/-- all of them -/
theorem sub_cells : (((sd s).map D.toC).drop 1).take 16 = (c32 s.cells).map D.toC := t_sc
/-! ### what a state holds -/
@[go_sem] theorem wf_frame {x : Int} : (s.wFrame x).frame = x := nr rfl
@[go_sem] theorem wf_cells {x : Int} : (s.wFrame x).cells = s.cells := nr rfl
@[go_sem] theorem wf_seed {x : Int} : (s.wFrame x).seed = s.seed := nr rfl
@[go_sem] theorem wf_over {x : Int} : (s.wFrame x).over = s.over := nr rfl
@[go_sem] theorem wf_win {x : Int} : (s.wFrame x).win = s.win := nr rfl
@[go_sem] theorem wc_frame {k : Nat} {x : Int} : (s.wCells k x).frame = s.frame := nr rfl
@[go_sem] theorem wc_cells {k : Nat} {x : Int} : (s.wCells k x).cells = s.cells.set k x := nr rfl
@[go_sem] theorem wc_seed {k : Nat} {x : Int} : (s.wCells k x).seed = s.seed := nr rfl
@[go_sem] theorem wc_over {k : Nat} {x : Int} : (s.wCells k x).over = s.over := nr rfl
@[go_sem] theorem wc_win {k : Nat} {x : Int} : (s.wCells k x).win = s.win := nr rfl
@[go_sem] theorem ws_frame {x : UInt32} : (s.wSeed x).frame = s.frame := nr rfl
@[go_sem] theorem ws_cells {x : UInt32} : (s.wSeed x).cells = s.cells := nr rfl
@[go_sem] theorem ws_seed {x : UInt32} : (s.wSeed x).seed = x := nr rfl
@[go_sem] theorem ws_over {x : UInt32} : (s.wSeed x).over = s.over := nr rfl
@[go_sem] theorem ws_win {x : UInt32} : (s.wSeed x).win = s.win := nr rfl
@[go_sem] theorem wo_frame {x : Bool} : (s.wOver x).frame = s.frame := nr rfl
@[go_sem] theorem wo_cells {x : Bool} : (s.wOver x).cells = s.cells := nr rfl
@[go_sem] theorem wo_seed {x : Bool} : (s.wOver x).seed = s.seed := nr rfl
@[go_sem] theorem wo_over {x : Bool} : (s.wOver x).over = x := nr rfl
@[go_sem] theorem wo_win {x : Bool} : (s.wOver x).win = s.win := nr rfl
@[go_sem] theorem ww_frame {x : Int} : (s.wWin x).frame = s.frame := nr rfl
@[go_sem] theorem ww_cells {x : Int} : (s.wWin x).cells = s.cells := nr rfl
@[go_sem] theorem ww_seed {x : Int} : (s.wWin x).seed = s.seed := nr rfl
@[go_sem] theorem ww_over {x : Int} : (s.wWin x).over = s.over := nr rfl
@[go_sem] theorem ww_win {x : Int} : (s.wWin x).win = x := nr rfl
end
@[go_sem 1200] theorem t_lit3 {x0 x1 x2 : C} : List.take 3 (List.drop 0 [x0, x1, x2]) = [x0, x1, x2] := nr rfl
@[go_sem 1200] theorem t_lit4 {x0 x1 x2 x3 : C} : List.take 4 (List.drop 0 [x0, x1, x2, x3]) = [x0, x1, x2, x3] := nr rfl
@[go_sem 1200] theorem t_lit5 {x0 x1 x2 x3 x4 : C} : List.take 5 (List.drop 0 [x0, x1, x2, x3, x4]) = [x0, x1, x2, x3, x4] := nr rfl
@[go_sem 1200] theorem t_lit6 {x0 x1 x2 x3 x4 x5 : C} : List.take 6 (List.drop 0 [x0, x1, x2, x3, x4, x5]) = [x0, x1, x2, x3, x4, x5] := nr rfl
@[go_sem 1200] theorem t_lit8 {x0 x1 x2 x3 x4 x5 x6 x7 : C} : List.take 8 (List.drop 0 [x0, x1, x2, x3, x4, x5, x6, x7]) = [x0, x1, x2, x3, x4, x5, x6, x7] := nr rfl
@[go_sem 1200] theorem t_lit11 {x0 x1 x2 x3 x4 x5 x6 x7 x8 x9 x10 : C} : List.take 11 (List.drop 0 [x0, x1, x2, x3, x4, x5, x6, x7, x8, x9, x10]) = [x0, x1, x2, x3, x4, x5, x6, x7, x8, x9, x10] := nr rfl
end Go.Proofs.Ytamcjecgkfmjkaa
