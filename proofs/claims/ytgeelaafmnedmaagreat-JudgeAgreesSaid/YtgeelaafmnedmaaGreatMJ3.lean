/- Parts of a proof: The logic: cells laid over rows that are joined of parts; cells of a state, Chapter 18: the cells of a Contest (written by genbox.py), Chapter 18: a match, in plain words; who sits where, what may be, From the logic to the rows of the laws: an event, Chapter 18: what an event does, The logic: rows whose items take several cells grow, Chapter 18: copies; what a match tells, Chapter 9: whether instructions are a program, Chapter 9: the table of the ops. (written by gentbl.py), Chapter 9: Check, in both, Chapters 10 and 18: games, the state at first, a new match, From the logic to the rows of the laws: games, rows of numbers, Chapter 10: the cells of a machine (written by genbox.py), Chapter 10: the table of the doers. (written by gentbl.py), Chapter 10: a frame of a game without instructions, Chapter 8 in the logic: sums, products, quotients, Chapter 10: the machine: its numbers taken and laid, its doers, Chapter 10: an instruction, and a frame's run, Chapter 10: the run of a frame, in the code. -/
import Derived.Test.YtgeelaafmnedmaaGreatMJ2
import Derived.Deep.Slices
set_option linter.unusedSimpArgs false
set_option linter.unusedVariables false
open Go Go.RowKit
namespace Go.Proofs.YtgeelaafmnedmaaGreat
section
def aFld (P : Program) (q : Option (Nat × TypeId × Nat)) (cs : List C) (K : V → Prop) : Prop :=
  match q with
  | some (off, ft, sz) => aPart P ft sz cs off K
  | none => False
@[go_sem ↓] theorem e_fldA {P : Program} {t : TypeId} {cs : List C} {i : Nat} {K : V → Prop} : aField P t (.w (.agg cs)) i K = aFld P (fldT P t i) cs K := by
  unfold aField aFld
  refine propext ⟨?_, ?_⟩
  · rintro ⟨off, ft, sz, h, hk⟩
    rw [h]; exact hk
  intro h
  split at h
  · rename_i off ft sz hq
    exact ⟨off, ft, sz, hq, h⟩
  cases h
@[congr] theorem cg_aFld {P : Program} {q q' : Option (Nat × TypeId × Nat)} {cs : List C} {K : V → Prop} (h0 : q = q') : aFld P q cs K = aFld P q' cs K := by subst h0; rfl
@[go_sem ↓] theorem e_fldS {P : Program} {off ft sz : Nat} {cs : List C} {K : V → Prop} : aFld P (some (off, ft, sz)) cs K = aPart P ft sz cs off K := nr rfl
theorem c_b {P : Program} {Q : AExit → St → Prop} {s : St} {b : Bool} {x y : Code} (h1 : b = true → awp P x Q s) (h2 : b = false → awp P y Q s) : aCondC P (V.bool b) x y Q s := by
  cases b
  · exact ⟨fun h => (by cases h), fun _ => h2 rfl⟩
  exact ⟨fun _ => h1 rfl, fun h => (by cases h)⟩
theorem spl_appR {α : Type} {a b vs : List α} {o : Nat} (h : o + vs.length ≤ b.length) : spl (a ++ b) (a.length + o) vs = a ++ spl b o vs := by
  rw [spl_eq (by rw [List.length_append]; omega), spl_eq h, List.take_append, List.take_of_length_le (by omega), Nat.add_sub_cancel_left, show a.length + o + vs.length = a.length + (o + vs.length) by omega, List.drop_append, List.drop_eq_nil_of_le (by omega), Nat.add_sub_cancel_left]
  simp
theorem spl_appL {α : Type} {a b vs : List α} {o : Nat} (h : o + vs.length ≤ a.length) : spl (a ++ b) o vs = spl a o vs ++ b := by
  rw [spl_eq (by rw [List.length_append]; omega), spl_eq h, List.take_append_of_le_length (by omega), List.drop_append_of_le_length (by omega)]
  simp
theorem spl_all {x y : List C} (h : x.length = y.length) : spl x 0 y = y := by
  rw [spl_eq (by omega), List.take_zero, List.nil_append, List.drop_eq_nil_of_le (by omega), List.append_nil]
theorem stow_big {s : St} {i : Id} {off : Nat} {cs vs : List C} (h : 2 ≤ vs.length) : St.stow s i off cs vs = ⟨s.slots, hset s.heap i (spl cs off (vs.map (C.clean (fun _ => false) fun _ => true)))⟩ := by
  unfold St.stow
  split
  · simp at h
  · simp at h
  rfl
/-! ### a state's cells, one by one -/
def Sta.wFrame (s : Sta) (x : Int) : Sta := ⟨x, s.cells, s.seed, s.over, s.win, s.len⟩
def Sta.wCells (s : Sta) (k : Nat) (x : Int) : Sta := ⟨s.frame, s.cells.set k x, s.seed, s.over, s.win, by rw [List.length_set, s.len]⟩
def Sta.wSeed (s : Sta) (x : UInt32) : Sta := ⟨s.frame, s.cells, x, s.over, s.win, s.len⟩
def Sta.wOver (s : Sta) (x : Bool) : Sta := ⟨s.frame, s.cells, s.seed, x, s.win, s.len⟩
def Sta.wWin (s : Sta) (x : Int) : Sta := ⟨s.frame, s.cells, s.seed, s.over, x, s.len⟩
theorem spl1 {l : List C} {k : Nat} {x : C} : spl l k [x] = l.set k x := rfl
theorem sdC_len {s : Sta} : ((sd s).map D.toC).length = 20 := by rw [List.length_map, sd_len]
section
variable {s : Sta}
theorem spl_frame {x : Int} : spl ((sd s).map D.toC) 0 [.val (.int .i64 x)] = (sd (s.wFrame x)).map D.toC := rfl
theorem spl_cells {k : Nat} {x : Int} (h : k < 16) : spl ((sd s).map D.toC) (k + 1) [.val (.int .i32 x)] = (sd (s.wCells k x)).map D.toC := by
  rw [spl1, show (C.val (.int .i32 x)) = D.toC (.val (.int .i32 x)) from rfl, ← List.map_set]
  congr 1
  show List.set (_ :: (c32 s.cells ++ _)) (k + 1) _ = _
  rw [List.set_cons_succ, List.set_append, if_pos (by rw [c32_len, s.len]; omega)]
  unfold sd Sta.wCells c32
  rw [List.map_set]
theorem spl_tail {k : Nat} {x : D} (h : 17 ≤ k) : spl ((sd s).map D.toC) k [x.toC] = ((.val (.int .i64 s.frame) :: (c32 s.cells ++ ([.val (.int .u32 (U32 s.seed)), .val (.bool s.over), .val (.int .i64 s.win)] : List D).set (k - 17) x))).map D.toC := by
  rw [spl1, ← List.map_set]
  congr 1
  obtain ⟨k, rfl⟩ := Nat.exists_eq_add_of_le h
  show List.set (_ :: (c32 s.cells ++ _)) (17 + k) _ = _
  rw [show 17 + k = (16 + k) + 1 by omega, List.set_cons_succ, List.set_append, if_neg (by rw [c32_len, s.len]; omega), c32_len, s.len]
  congr 3
theorem spl_seed {x : UInt32} : spl ((sd s).map D.toC) 17 [.val (.int .u32 (U32 x))] = (sd (s.wSeed x)).map D.toC := spl_tail (x := .val (.int .u32 (U32 x))) (Nat.le_refl _)
theorem spl_over {x : Bool} : spl ((sd s).map D.toC) 18 [.val (.bool x)] = (sd (s.wOver x)).map D.toC := spl_tail (x := .val (.bool x)) (by omega)
theorem spl_win {x : Int} : spl ((sd s).map D.toC) 19 [.val (.int .i64 x)] = (sd (s.wWin x)).map D.toC := spl_tail (x := .val (.int .i64 x)) (by omega)
theorem get_frame : ((sd s).map D.toC)[0]? = some (.val (.int .i64 s.frame)) := rfl
theorem get_cells {k : Nat} (h : k < 16) : ((sd s).map D.toC)[k + 1]? = some (.val (.int .i32 (s.cells.getD k 0))) := by
  rw [List.getElem?_map]
  show Option.map D.toC ((_ :: (c32 s.cells ++ _) : List D)[k + 1]?) = _
  rw [List.getElem?_cons_succ, List.getElem?_append_left (by rw [c32_len, s.len]; omega)]
  have : k < s.cells.length := by rw [s.len]; omega
  simp [c32, this, D.toC]
theorem get_seed : ((sd s).map D.toC)[17]? = some (.val (.int .u32 (U32 s.seed))) := by rw [List.getElem?_map, sd17]; rfl
theorem get_over : ((sd s).map D.toC)[18]? = some (.val (.bool s.over)) := by rw [List.getElem?_map, sd18]; rfl
/-! ### what a state holds -/
@[go_sem] theorem wf_frame {x : Int} : (s.wFrame x).frame = x := nr rfl
@[go_sem] theorem wf_cells {x : Int} : (s.wFrame x).cells = s.cells := nr rfl
@[go_sem] theorem wf_over {x : Int} : (s.wFrame x).over = s.over := nr rfl
@[go_sem] theorem wo_cells {x : Bool} : (s.wOver x).cells = s.cells := nr rfl
end
@[go_sem 1200] theorem t_lit3 {x0 x1 x2 : C} : List.take 3 (List.drop 0 [x0, x1, x2]) = [x0, x1, x2] := nr rfl
@[go_sem 1200] theorem t_lit6 {x0 x1 x2 x3 x4 x5 : C} : List.take 6 (List.drop 0 [x0, x1, x2, x3, x4, x5]) = [x0, x1, x2, x3, x4, x5] := nr rfl
@[go_sem 1200] theorem t_lit11 {x0 x1 x2 x3 x4 x5 x6 x7 x8 x9 x10 : C} : List.take 11 (List.drop 0 [x0, x1, x2, x3, x4, x5, x6, x7, x8, x9, x10]) = [x0, x1, x2, x3, x4, x5, x6, x7, x8, x9, x10] := nr rfl
end
section
set_option maxRecDepth 20000
theorem leCs_app {a b c d : List C} (h1 : leCs a b) (h2 : leCs c d) : leCs (a ++ c) (b ++ d) := by
  induction a generalizing b with
  | nil => cases b with
    | nil => exact h2
    | cons y b => cases h1
  | cons x a ih => cases b with
    | nil => cases h1
    | cons y b => exact ⟨h1.1, ih h1.2⟩
def ctC (rc : C) (cap : Int) (fuel : Int) (p0 : Int) (p1 : Int) (seed : UInt32) (l0 : Int) (l1 : Int) (c0 : Int) (c1 : Int) (over : Bool) (winner : Int) (why : Int) (opn : Bool) (r0 : C) (r1 : C) (rp : C) (s : Sta) (re : C) : List C := [rc, .val (.int .i64 cap), .val (.int .i64 fuel), .val (.int .i64 p0), .val (.int .i64 p1), .val (.int .u32 (U32 seed)), .val (.int .i64 l0), .val (.int .i64 l1), .val (.int .i64 c0), .val (.int .i64 c1), .val (.bool over), .val (.int .i64 winner), .val (.int .i64 why), .val (.bool opn), r0, r1, rp] ++ ((sd s).map D.toC ++ [re])
section
variable {rc : C} {cap : Int} {fuel : Int} {p0 : Int} {p1 : Int} {seed : UInt32} {l0 : Int} {l1 : Int} {c0 : Int} {c1 : Int} {over : Bool} {winner : Int} {why : Int} {opn : Bool} {r0 : C} {r1 : C} {rp : C} {s : Sta} {re : C} {V' : V → Prop} {K : C → Prop} {ks : List Id} {m : Nat}
@[go_sem] theorem ct_l : (ctC rc cap fuel p0 p1 seed l0 l1 c0 c1 over winner why opn r0 r1 rp s re).length = 38 := by
  unfold ctC
  simp only [List.length_append, List.length_map, sd_len, List.length_cons, List.length_nil]
@[go_sem] theorem ct_k {bi : Id → Bool} {bt : Tag → Bool} : (ctC rc cap fuel p0 p1 seed l0 l1 c0 c1 over winner why opn r0 r1 rp s re).map (C.clean bi bt) = (ctC (C.clean bi bt rc) cap fuel p0 p1 seed l0 l1 c0 c1 over winner why opn (C.clean bi bt r0) (C.clean bi bt r1) (C.clean bi bt rp) s (C.clean bi bt re)) := by
  unfold ctC
  simp only [List.map_append, List.map_cons, List.map_nil, go_sem]
@[go_sem] theorem ct_r  : (ctC rc cap fuel p0 p1 seed l0 l1 c0 c1 over winner why opn r0 r1 rp s re).map (C.ren ks m) = (ctC (C.ren ks m rc) cap fuel p0 p1 seed l0 l1 c0 c1 over winner why opn (C.ren ks m r0) (C.ren ks m r1) (C.ren ks m rp) s (C.ren ks m re)) := by
  unfold ctC
  simp only [List.map_append, List.map_cons, List.map_nil, go_sem]
@[go_sem ↓ 1300] theorem ct_m_cap : (∃ c, (ctC rc cap fuel p0 p1 seed l0 l1 c0 c1 over winner why opn r0 r1 rp s re)[1]? = some c ∧ K c) = K (.val (.int .i64 cap)) := ex_some (by
  unfold ctC
  first | rfl | (rw [List.getElem?_append_left (by simp)]; rfl))
@[go_sem ↓ 1300] theorem ct_m_p0 : (∃ c, (ctC rc cap fuel p0 p1 seed l0 l1 c0 c1 over winner why opn r0 r1 rp s re)[3]? = some c ∧ K c) = K (.val (.int .i64 p0)) := ex_some (by
  unfold ctC
  first | rfl | (rw [List.getElem?_append_left (by simp)]; rfl))
@[go_sem ↓ 1300] theorem ct_m_p1 : (∃ c, (ctC rc cap fuel p0 p1 seed l0 l1 c0 c1 over winner why opn r0 r1 rp s re)[4]? = some c ∧ K c) = K (.val (.int .i64 p1)) := ex_some (by
  unfold ctC
  first | rfl | (rw [List.getElem?_append_left (by simp)]; rfl))
@[go_sem ↓ 1300] theorem ct_m_seed : (∃ c, (ctC rc cap fuel p0 p1 seed l0 l1 c0 c1 over winner why opn r0 r1 rp s re)[5]? = some c ∧ K c) = K (.val (.int .u32 (U32 seed))) := ex_some (by
  unfold ctC
  first | rfl | (rw [List.getElem?_append_left (by simp)]; rfl))
@[go_sem ↓ 1300] theorem ct_m_l0 : (∃ c, (ctC rc cap fuel p0 p1 seed l0 l1 c0 c1 over winner why opn r0 r1 rp s re)[6]? = some c ∧ K c) = K (.val (.int .i64 l0)) := ex_some (by
  unfold ctC
  first | rfl | (rw [List.getElem?_append_left (by simp)]; rfl))
@[go_sem ↓ 1300] theorem ct_m_l1 : (∃ c, (ctC rc cap fuel p0 p1 seed l0 l1 c0 c1 over winner why opn r0 r1 rp s re)[7]? = some c ∧ K c) = K (.val (.int .i64 l1)) := ex_some (by
  unfold ctC
  first | rfl | (rw [List.getElem?_append_left (by simp)]; rfl))
@[go_sem ↓ 1300] theorem ct_m_c0 : (∃ c, (ctC rc cap fuel p0 p1 seed l0 l1 c0 c1 over winner why opn r0 r1 rp s re)[8]? = some c ∧ K c) = K (.val (.int .i64 c0)) := ex_some (by
  unfold ctC
  first | rfl | (rw [List.getElem?_append_left (by simp)]; rfl))
@[go_sem ↓ 1300] theorem ct_m_c1 : (∃ c, (ctC rc cap fuel p0 p1 seed l0 l1 c0 c1 over winner why opn r0 r1 rp s re)[9]? = some c ∧ K c) = K (.val (.int .i64 c1)) := ex_some (by
  unfold ctC
  first | rfl | (rw [List.getElem?_append_left (by simp)]; rfl))
@[go_sem ↓ 1300] theorem ct_m_over : (∃ c, (ctC rc cap fuel p0 p1 seed l0 l1 c0 c1 over winner why opn r0 r1 rp s re)[10]? = some c ∧ K c) = K (.val (.bool over)) := ex_some (by
  unfold ctC
  first | rfl | (rw [List.getElem?_append_left (by simp)]; rfl))
@[go_sem ↓ 1300] theorem ct_m_opn : (∃ c, (ctC rc cap fuel p0 p1 seed l0 l1 c0 c1 over winner why opn r0 r1 rp s re)[13]? = some c ∧ K c) = K (.val (.bool opn)) := ex_some (by
  unfold ctC
  first | rfl | (rw [List.getElem?_append_left (by simp)]; rfl))
@[go_sem ↓ 1300] theorem ct_m_r0 : (∃ c, (ctC rc cap fuel p0 p1 seed l0 l1 c0 c1 over winner why opn r0 r1 rp s re)[14]? = some c ∧ K c) = K (r0) := ex_some (by
  unfold ctC
  first | rfl | (rw [List.getElem?_append_left (by simp)]; rfl))
@[go_sem ↓ 1300] theorem ct_m_r1 : (∃ c, (ctC rc cap fuel p0 p1 seed l0 l1 c0 c1 over winner why opn r0 r1 rp s re)[15]? = some c ∧ K c) = K (r1) := ex_some (by
  unfold ctC
  first | rfl | (rw [List.getElem?_append_left (by simp)]; rfl))
@[go_sem ↓ 1300] theorem ct_m_rp : (∃ c, (ctC rc cap fuel p0 p1 seed l0 l1 c0 c1 over winner why opn r0 r1 rp s re)[16]? = some c ∧ K c) = K (rp) := ex_some (by
  unfold ctC
  first | rfl | (rw [List.getElem?_append_left (by simp)]; rfl))
theorem ct_gs_over : (ctC rc cap fuel p0 p1 seed l0 l1 c0 c1 over winner why opn r0 r1 rp s re)[35]? = some (.val (.bool s.over)) := by
  unfold ctC
  rw [List.getElem?_append_right (by first | simp only [List.length_cons, List.length_nil, List.length_map, sd_len]; omega | simp [sd_len])]
  simp only [List.length_cons, List.length_nil, List.length_map, sd_len, Nat.reduceAdd, Nat.reduceSub]
  first | exact get_over | (rw [List.getElem?_append_left (by rw [sdC_len]; omega)]; exact get_over)
@[go_sem ↓ 1300] theorem ct_ms_over : (∃ c, (ctC rc cap fuel p0 p1 seed l0 l1 c0 c1 over winner why opn r0 r1 rp s re)[35]? = some c ∧ K c) = K (.val (.bool s.over)) := ex_some ct_gs_over
@[go_sem 1300] theorem ct_as : ((ctC rc cap fuel p0 p1 seed l0 l1 c0 c1 over winner why opn r0 r1 rp s re).drop 17).take 20 = (sd s).map D.toC := by
  unfold ctC
  show List.take 20 ((sd s).map D.toC ++ _) = _
  rw [List.take_left' sdC_len]
@[go_sem ↓ 1300] theorem ct_ps : aPt (some true) 20 (ctC rc cap fuel p0 p1 seed l0 l1 c0 c1 over winner why opn r0 r1 rp s re) 17 V' = V' (.w (.agg ((sd s).map D.toC))) := by
  simp only [aPt, ct_l, ct_as, Nat.reduceAdd, Nat.reduceLeDiff, true_and]
@[go_sem ↓ 1300] theorem ct_m_re : (∃ c, (ctC rc cap fuel p0 p1 seed l0 l1 c0 c1 over winner why opn r0 r1 rp s re)[37]? = some c ∧ K c) = K (re) := ex_some (by
  unfold ctC
  rw [List.getElem?_append_right (by first | simp only [List.length_cons, List.length_nil, List.length_map, sd_len]; omega | simp [sd_len])]
  simp only [List.length_cons, List.length_nil, List.length_map, sd_len, Nat.reduceAdd, Nat.reduceSub]
  rw [List.getElem?_append_right (by first | simp only [List.length_cons, List.length_nil, List.length_map, sd_len]; omega | simp [sd_len])]
  simp only [List.length_cons, List.length_nil, List.length_map, sd_len, Nat.reduceAdd, Nat.reduceSub]
  first | rfl | (rw [List.getElem?_append_left (by simp)]; rfl))
@[go_sem 1300] theorem ct_d0_3 : ((ctC rc cap fuel p0 p1 seed l0 l1 c0 c1 over winner why opn r0 r1 rp s re).drop 0).take 3 = [rc, .val (.int .i64 cap), .val (.int .i64 fuel)] := by
    first
      | rfl
      | (unfold ctC
         rw [show (0 : Nat) = ((sd s).map D.toC).length + 0 from by rw [sdC_len], List.drop_append, List.drop_eq_nil_of_le (by omega), Nat.add_sub_cancel_left]
         rfl)
@[go_sem ↓ 1300] theorem ct_p0_3 : aPt (some true) 3 (ctC rc cap fuel p0 p1 seed l0 l1 c0 c1 over winner why opn r0 r1 rp s re) 0 V' = V' (.w (.agg [rc, .val (.int .i64 cap), .val (.int .i64 fuel)])) := by
  simp only [aPt, ct_l, ct_d0_3, Nat.reduceAdd, Nat.reduceLeDiff, true_and]
@[go_sem 1300] theorem ct_d3_11 : ((ctC rc cap fuel p0 p1 seed l0 l1 c0 c1 over winner why opn r0 r1 rp s re).drop 3).take 11 = [.val (.int .i64 p0), .val (.int .i64 p1), .val (.int .u32 (U32 seed)), .val (.int .i64 l0), .val (.int .i64 l1), .val (.int .i64 c0), .val (.int .i64 c1), .val (.bool over), .val (.int .i64 winner), .val (.int .i64 why), .val (.bool opn)] := by
    first
      | rfl
      | (unfold ctC
         rw [show (3 : Nat) = ((sd s).map D.toC).length + 0 from by rw [sdC_len], List.drop_append, List.drop_eq_nil_of_le (by omega), Nat.add_sub_cancel_left]
         rfl)
@[go_sem ↓ 1300] theorem ct_p3_11 : aPt (some true) 11 (ctC rc cap fuel p0 p1 seed l0 l1 c0 c1 over winner why opn r0 r1 rp s re) 3 V' = V' (.w (.agg [.val (.int .i64 p0), .val (.int .i64 p1), .val (.int .u32 (U32 seed)), .val (.int .i64 l0), .val (.int .i64 l1), .val (.int .i64 c0), .val (.int .i64 c1), .val (.bool over), .val (.int .i64 winner), .val (.int .i64 why), .val (.bool opn)])) := by
  simp only [aPt, ct_l, ct_d3_11, Nat.reduceAdd, Nat.reduceLeDiff, true_and]
@[go_sem 1300] theorem ct_s_rc {x : C} : spl (ctC rc cap fuel p0 p1 seed l0 l1 c0 c1 over winner why opn r0 r1 rp s re) 0 [x] = (ctC (x) cap fuel p0 p1 seed l0 l1 c0 c1 over winner why opn r0 r1 rp s re) := rfl
@[go_sem 1300] theorem ct_u_rc {x : C} : (ctC rc cap fuel p0 p1 seed l0 l1 c0 c1 over winner why opn r0 r1 rp s re).set 0 (x) = (ctC (x) cap fuel p0 p1 seed l0 l1 c0 c1 over winner why opn r0 r1 rp s re) := show spl (ctC rc cap fuel p0 p1 seed l0 l1 c0 c1 over winner why opn r0 r1 rp s re) 0 [x] = _ from ct_s_rc
@[go_sem 1300] theorem ct_s_cap {x : Int} : spl (ctC rc cap fuel p0 p1 seed l0 l1 c0 c1 over winner why opn r0 r1 rp s re) 1 [.val (.int .i64 x)] = (ctC rc (x) fuel p0 p1 seed l0 l1 c0 c1 over winner why opn r0 r1 rp s re) := rfl
@[go_sem 1300] theorem ct_s_fuel {x : Int} : spl (ctC rc cap fuel p0 p1 seed l0 l1 c0 c1 over winner why opn r0 r1 rp s re) 2 [.val (.int .i64 x)] = (ctC rc cap (x) p0 p1 seed l0 l1 c0 c1 over winner why opn r0 r1 rp s re) := rfl
@[go_sem 1300] theorem ct_s_p0 {x : Int} : spl (ctC rc cap fuel p0 p1 seed l0 l1 c0 c1 over winner why opn r0 r1 rp s re) 3 [.val (.int .i64 x)] = (ctC rc cap fuel (x) p1 seed l0 l1 c0 c1 over winner why opn r0 r1 rp s re) := rfl
@[go_sem 1300] theorem ct_s_p1 {x : Int} : spl (ctC rc cap fuel p0 p1 seed l0 l1 c0 c1 over winner why opn r0 r1 rp s re) 4 [.val (.int .i64 x)] = (ctC rc cap fuel p0 (x) seed l0 l1 c0 c1 over winner why opn r0 r1 rp s re) := rfl
@[go_sem 1300] theorem ct_s_seed {x : UInt32} : spl (ctC rc cap fuel p0 p1 seed l0 l1 c0 c1 over winner why opn r0 r1 rp s re) 5 [.val (.int .u32 (U32 x))] = (ctC rc cap fuel p0 p1 (x) l0 l1 c0 c1 over winner why opn r0 r1 rp s re) := rfl
@[go_sem 1300] theorem ct_u_seed {x : UInt32} : (ctC rc cap fuel p0 p1 seed l0 l1 c0 c1 over winner why opn r0 r1 rp s re).set 5 (.val (.int .u32 (U32 x))) = (ctC rc cap fuel p0 p1 (x) l0 l1 c0 c1 over winner why opn r0 r1 rp s re) := show spl (ctC rc cap fuel p0 p1 seed l0 l1 c0 c1 over winner why opn r0 r1 rp s re) 5 [.val (.int .u32 (U32 x))] = _ from ct_s_seed
@[go_sem 1300] theorem ct_s_l0 {x : Int} : spl (ctC rc cap fuel p0 p1 seed l0 l1 c0 c1 over winner why opn r0 r1 rp s re) 6 [.val (.int .i64 x)] = (ctC rc cap fuel p0 p1 seed (x) l1 c0 c1 over winner why opn r0 r1 rp s re) := rfl
@[go_sem 1300] theorem ct_u_l0 {x : Int} : (ctC rc cap fuel p0 p1 seed l0 l1 c0 c1 over winner why opn r0 r1 rp s re).set 6 (.val (.int .i64 x)) = (ctC rc cap fuel p0 p1 seed (x) l1 c0 c1 over winner why opn r0 r1 rp s re) := show spl (ctC rc cap fuel p0 p1 seed l0 l1 c0 c1 over winner why opn r0 r1 rp s re) 6 [.val (.int .i64 x)] = _ from ct_s_l0
@[go_sem 1300] theorem ct_s_l1 {x : Int} : spl (ctC rc cap fuel p0 p1 seed l0 l1 c0 c1 over winner why opn r0 r1 rp s re) 7 [.val (.int .i64 x)] = (ctC rc cap fuel p0 p1 seed l0 (x) c0 c1 over winner why opn r0 r1 rp s re) := rfl
@[go_sem 1300] theorem ct_u_l1 {x : Int} : (ctC rc cap fuel p0 p1 seed l0 l1 c0 c1 over winner why opn r0 r1 rp s re).set 7 (.val (.int .i64 x)) = (ctC rc cap fuel p0 p1 seed l0 (x) c0 c1 over winner why opn r0 r1 rp s re) := show spl (ctC rc cap fuel p0 p1 seed l0 l1 c0 c1 over winner why opn r0 r1 rp s re) 7 [.val (.int .i64 x)] = _ from ct_s_l1
@[go_sem 1300] theorem ct_s_c0 {x : Int} : spl (ctC rc cap fuel p0 p1 seed l0 l1 c0 c1 over winner why opn r0 r1 rp s re) 8 [.val (.int .i64 x)] = (ctC rc cap fuel p0 p1 seed l0 l1 (x) c1 over winner why opn r0 r1 rp s re) := rfl
@[go_sem 1300] theorem ct_u_c0 {x : Int} : (ctC rc cap fuel p0 p1 seed l0 l1 c0 c1 over winner why opn r0 r1 rp s re).set 8 (.val (.int .i64 x)) = (ctC rc cap fuel p0 p1 seed l0 l1 (x) c1 over winner why opn r0 r1 rp s re) := show spl (ctC rc cap fuel p0 p1 seed l0 l1 c0 c1 over winner why opn r0 r1 rp s re) 8 [.val (.int .i64 x)] = _ from ct_s_c0
@[go_sem 1300] theorem ct_s_c1 {x : Int} : spl (ctC rc cap fuel p0 p1 seed l0 l1 c0 c1 over winner why opn r0 r1 rp s re) 9 [.val (.int .i64 x)] = (ctC rc cap fuel p0 p1 seed l0 l1 c0 (x) over winner why opn r0 r1 rp s re) := rfl
@[go_sem 1300] theorem ct_u_c1 {x : Int} : (ctC rc cap fuel p0 p1 seed l0 l1 c0 c1 over winner why opn r0 r1 rp s re).set 9 (.val (.int .i64 x)) = (ctC rc cap fuel p0 p1 seed l0 l1 c0 (x) over winner why opn r0 r1 rp s re) := show spl (ctC rc cap fuel p0 p1 seed l0 l1 c0 c1 over winner why opn r0 r1 rp s re) 9 [.val (.int .i64 x)] = _ from ct_s_c1
@[go_sem 1300] theorem ct_s_over {x : Bool} : spl (ctC rc cap fuel p0 p1 seed l0 l1 c0 c1 over winner why opn r0 r1 rp s re) 10 [.val (.bool x)] = (ctC rc cap fuel p0 p1 seed l0 l1 c0 c1 (x) winner why opn r0 r1 rp s re) := rfl
@[go_sem 1300] theorem ct_u_over {x : Bool} : (ctC rc cap fuel p0 p1 seed l0 l1 c0 c1 over winner why opn r0 r1 rp s re).set 10 (.val (.bool x)) = (ctC rc cap fuel p0 p1 seed l0 l1 c0 c1 (x) winner why opn r0 r1 rp s re) := show spl (ctC rc cap fuel p0 p1 seed l0 l1 c0 c1 over winner why opn r0 r1 rp s re) 10 [.val (.bool x)] = _ from ct_s_over
@[go_sem 1300] theorem ct_s_winner {x : Int} : spl (ctC rc cap fuel p0 p1 seed l0 l1 c0 c1 over winner why opn r0 r1 rp s re) 11 [.val (.int .i64 x)] = (ctC rc cap fuel p0 p1 seed l0 l1 c0 c1 over (x) why opn r0 r1 rp s re) := rfl
@[go_sem 1300] theorem ct_u_winner {x : Int} : (ctC rc cap fuel p0 p1 seed l0 l1 c0 c1 over winner why opn r0 r1 rp s re).set 11 (.val (.int .i64 x)) = (ctC rc cap fuel p0 p1 seed l0 l1 c0 c1 over (x) why opn r0 r1 rp s re) := show spl (ctC rc cap fuel p0 p1 seed l0 l1 c0 c1 over winner why opn r0 r1 rp s re) 11 [.val (.int .i64 x)] = _ from ct_s_winner
@[go_sem 1300] theorem ct_s_why {x : Int} : spl (ctC rc cap fuel p0 p1 seed l0 l1 c0 c1 over winner why opn r0 r1 rp s re) 12 [.val (.int .i64 x)] = (ctC rc cap fuel p0 p1 seed l0 l1 c0 c1 over winner (x) opn r0 r1 rp s re) := rfl
@[go_sem 1300] theorem ct_u_why {x : Int} : (ctC rc cap fuel p0 p1 seed l0 l1 c0 c1 over winner why opn r0 r1 rp s re).set 12 (.val (.int .i64 x)) = (ctC rc cap fuel p0 p1 seed l0 l1 c0 c1 over winner (x) opn r0 r1 rp s re) := show spl (ctC rc cap fuel p0 p1 seed l0 l1 c0 c1 over winner why opn r0 r1 rp s re) 12 [.val (.int .i64 x)] = _ from ct_s_why
@[go_sem 1300] theorem ct_s_opn {x : Bool} : spl (ctC rc cap fuel p0 p1 seed l0 l1 c0 c1 over winner why opn r0 r1 rp s re) 13 [.val (.bool x)] = (ctC rc cap fuel p0 p1 seed l0 l1 c0 c1 over winner why (x) r0 r1 rp s re) := rfl
@[go_sem 1300] theorem ct_u_opn {x : Bool} : (ctC rc cap fuel p0 p1 seed l0 l1 c0 c1 over winner why opn r0 r1 rp s re).set 13 (.val (.bool x)) = (ctC rc cap fuel p0 p1 seed l0 l1 c0 c1 over winner why (x) r0 r1 rp s re) := show spl (ctC rc cap fuel p0 p1 seed l0 l1 c0 c1 over winner why opn r0 r1 rp s re) 13 [.val (.bool x)] = _ from ct_s_opn
@[go_sem 1300] theorem ct_s_r0 {x : C} : spl (ctC rc cap fuel p0 p1 seed l0 l1 c0 c1 over winner why opn r0 r1 rp s re) 14 [x] = (ctC rc cap fuel p0 p1 seed l0 l1 c0 c1 over winner why opn (x) r1 rp s re) := rfl
@[go_sem 1300] theorem ct_u_r0 {x : C} : (ctC rc cap fuel p0 p1 seed l0 l1 c0 c1 over winner why opn r0 r1 rp s re).set 14 (x) = (ctC rc cap fuel p0 p1 seed l0 l1 c0 c1 over winner why opn (x) r1 rp s re) := show spl (ctC rc cap fuel p0 p1 seed l0 l1 c0 c1 over winner why opn r0 r1 rp s re) 14 [x] = _ from ct_s_r0
@[go_sem 1300] theorem ct_s_r1 {x : C} : spl (ctC rc cap fuel p0 p1 seed l0 l1 c0 c1 over winner why opn r0 r1 rp s re) 15 [x] = (ctC rc cap fuel p0 p1 seed l0 l1 c0 c1 over winner why opn r0 (x) rp s re) := rfl
@[go_sem 1300] theorem ct_u_r1 {x : C} : (ctC rc cap fuel p0 p1 seed l0 l1 c0 c1 over winner why opn r0 r1 rp s re).set 15 (x) = (ctC rc cap fuel p0 p1 seed l0 l1 c0 c1 over winner why opn r0 (x) rp s re) := show spl (ctC rc cap fuel p0 p1 seed l0 l1 c0 c1 over winner why opn r0 r1 rp s re) 15 [x] = _ from ct_s_r1
@[go_sem 1300] theorem ct_s_rp {x : C} : spl (ctC rc cap fuel p0 p1 seed l0 l1 c0 c1 over winner why opn r0 r1 rp s re) 16 [x] = (ctC rc cap fuel p0 p1 seed l0 l1 c0 c1 over winner why opn r0 r1 (x) s re) := rfl
@[go_sem 1300] theorem ct_u_rp {x : C} : (ctC rc cap fuel p0 p1 seed l0 l1 c0 c1 over winner why opn r0 r1 rp s re).set 16 (x) = (ctC rc cap fuel p0 p1 seed l0 l1 c0 c1 over winner why opn r0 r1 (x) s re) := show spl (ctC rc cap fuel p0 p1 seed l0 l1 c0 c1 over winner why opn r0 r1 rp s re) 16 [x] = _ from ct_s_rp
@[go_sem 1300] theorem ct_ss {x : Sta} : spl (ctC rc cap fuel p0 p1 seed l0 l1 c0 c1 over winner why opn r0 r1 rp s re) 17 ((sd x).map D.toC) = (ctC rc cap fuel p0 p1 seed l0 l1 c0 c1 over winner why opn r0 r1 rp (x) re) := by
  unfold ctC
  rw [show (17 : Nat) = ([rc, .val (.int .i64 cap), .val (.int .i64 fuel), .val (.int .i64 p0), .val (.int .i64 p1), .val (.int .u32 (U32 seed)), .val (.int .i64 l0), .val (.int .i64 l1), .val (.int .i64 c0), .val (.int .i64 c1), .val (.bool over), .val (.int .i64 winner), .val (.int .i64 why), .val (.bool opn), r0, r1, rp] : List C).length + 0 from rfl, spl_appR (by simp only [List.length_append, List.length_cons, List.length_nil, sdC_len]; omega)]
  rw [spl_appL (by simp only [sdC_len]; omega), spl_all (by simp only [sdC_len])]
@[go_sem 1300] theorem ct_s_re {x : C} : spl (ctC rc cap fuel p0 p1 seed l0 l1 c0 c1 over winner why opn r0 r1 rp s re) 37 [x] = (ctC rc cap fuel p0 p1 seed l0 l1 c0 c1 over winner why opn r0 r1 rp s (x)) := by
  unfold ctC
  rw [show (37 : Nat) = ([rc, .val (.int .i64 cap), .val (.int .i64 fuel), .val (.int .i64 p0), .val (.int .i64 p1), .val (.int .u32 (U32 seed)), .val (.int .i64 l0), .val (.int .i64 l1), .val (.int .i64 c0), .val (.int .i64 c1), .val (.bool over), .val (.int .i64 winner), .val (.int .i64 why), .val (.bool opn), r0, r1, rp] : List C).length + 20 from by first | rfl | rw [sdC_len], spl_appR (by simp only [List.length_append, List.length_cons, List.length_nil, sdC_len]; omega)]
  rw [show (20 : Nat) = ((sd s).map D.toC).length + 0 from by first | rfl | rw [sdC_len], spl_appR (by simp only [List.length_append, List.length_cons, List.length_nil, sdC_len]; omega)]
  rfl
@[go_sem 1300] theorem ct_u_re {x : C} : (ctC rc cap fuel p0 p1 seed l0 l1 c0 c1 over winner why opn r0 r1 rp s re).set 37 (x) = (ctC rc cap fuel p0 p1 seed l0 l1 c0 c1 over winner why opn r0 r1 rp s (x)) := show spl (ctC rc cap fuel p0 p1 seed l0 l1 c0 c1 over winner why opn r0 r1 rp s re) 37 [x] = _ from ct_s_re
@[go_sem 1300] theorem ct_w3_2 {y0 : Int} {y1 : Int} : spl (ctC rc cap fuel p0 p1 seed l0 l1 c0 c1 over winner why opn r0 r1 rp s re) 3 [.val (.int .i64 y0), .val (.int .i64 y1)] = (ctC rc cap fuel y0 y1 seed l0 l1 c0 c1 over winner why opn r0 r1 rp s re) := by
  first
    | rfl
    | (unfold ctC
       rw [show (3 : Nat) = ((sd s).map D.toC).length + 0 from by rw [sdC_len], spl_appR (by simp only [List.length_cons, List.length_nil]; omega)]
       rfl)
theorem ct_le {rc' : C} {cap' : Int} {fuel' : Int} {p0' : Int} {p1' : Int} {seed' : UInt32} {l0' : Int} {l1' : Int} {c0' : Int} {c1' : Int} {over' : Bool} {winner' : Int} {why' : Int} {opn' : Bool} {r0' : C} {r1' : C} {rp' : C} {s' : Sta} {re' : C} (h : leC rc rc' ∧ cap = cap' ∧ fuel = fuel' ∧ p0 = p0' ∧ p1 = p1' ∧ seed = seed' ∧ l0 = l0' ∧ l1 = l1' ∧ c0 = c0' ∧ c1 = c1' ∧ over = over' ∧ winner = winner' ∧ why = why' ∧ opn = opn' ∧ leC r0 r0' ∧ leC r1 r1' ∧ leC rp rp' ∧ s = s' ∧ leC re re') : leCs (ctC rc cap fuel p0 p1 seed l0 l1 c0 c1 over winner why opn r0 r1 rp s re) (ctC rc' cap' fuel' p0' p1' seed' l0' l1' c0' c1' over' winner' why' opn' r0' r1' rp' s' re') := by
  obtain ⟨h0, h1, h2, h3, h4, h5, h6, h7, h8, h9, h10, h11, h12, h13, h14, h15, h16, h17, h18⟩ := h
  subst h1
  subst h2
  subst h3
  subst h4
  subst h5
  subst h6
  subst h7
  subst h8
  subst h9
  subst h10
  subst h11
  subst h12
  subst h13
  subst h17
  unfold ctC
  try simp only [List.cons_append, List.nil_append, List.append_assoc]
  exact ⟨h0, ⟨leC_refl _, ⟨leC_refl _, ⟨leC_refl _, ⟨leC_refl _, ⟨leC_refl _, ⟨leC_refl _, ⟨leC_refl _, ⟨leC_refl _, ⟨leC_refl _, ⟨leC_refl _, ⟨leC_refl _, ⟨leC_refl _, ⟨leC_refl _, ⟨h14, ⟨h15, ⟨h16, (leCs_app (leCs_refl _) ⟨h18, trivial⟩)⟩⟩⟩⟩⟩⟩⟩⟩⟩⟩⟩⟩⟩⟩⟩⟩⟩
end
end
section
/-- an event -/
structure Ev where
  kind : Int
  player : Int
  other : Int
  frame : Int
  inp : UInt16
  n : Int
def evD (e : Ev) : List D := [.val (.int .i64 e.kind), .val (.int .i64 e.player), .val (.int .i64 e.other), .val (.int .i64 e.frame), .val (.int .u16 (U16 e.inp)), .val (.int .i64 e.n)]
abbrev evC (e : Ev) : List C := [.val (.int .i64 e.kind), .val (.int .i64 e.player), .val (.int .i64 e.other), .val (.int .i64 e.frame), .val (.int .u16 (U16 e.inp)), .val (.int .i64 e.n)]
abbrev W.ev (e : Ev) : W := .agg (evC e)
def evs (l : List Ev) : List D := (l.map evD).flatten
def fU (x : UInt16) : D := .val (.int .u16 (U16 x))
def prD (x : UInt16 × UInt16) : List D := [fU x.1, fU x.2]
def prs (l : List (UInt16 × UInt16)) : List D := (l.map prD).flatten
/-- a match -/
structure Ct where
  code : List (Int × Int)
  cap : Int
  fuel : Int
  p0 : Int
  p1 : Int
  seed : UInt32
  l0 : Int
  l1 : Int
  over : Bool
  winner : Int
  why : Int
  opn : Bool
  in0 : List UInt16
  in1 : List UInt16
  pairs : List (UInt16 × UInt16)
  st : Sta
  events : List Ev
abbrev ctB (i : Id) (c : Ct) : List C := ctC (.lst .no none 2 (ins c.code)) c.cap c.fuel c.p0 c.p1 c.seed c.l0 c.l1 (c.in0.length : Int) (c.in1.length : Int) c.over c.winner c.why c.opn (.lst (.tag (.cell i 14)) none 1 (ls fU c.in0)) (.lst (.tag (.cell i 15)) none 1 (ls fU c.in1)) (.lst (.tag (.cell i 16)) none 2 (prs c.pairs)) c.st (.lst (.tag (.cell i 37)) none 6 (evs c.events))
def seatP (c : Ct) (x : Int) : Int := if c.p0 = x then 0 else if c.p1 = x then 1 else -1
theorem index_h (c : Ct) (x : Int) : Holds Tryz.prog 109 [.c (.row (.arg 0) 3 2 2), .int .i64 x] [(.arg 0, ctB (.arg 0) c)] (fun r h' => r = .int .i64 (seatP c x) ∧ h' = [(.arg 0, ctB (.arg 0) c)]) := by
  refine holds_of_awp Tryz.func109 rfl (by decide +kernel) mixed Tryz.ntmps109 Tryz.results109 ?_
  refine zE ?_
  refine zs ?_;try exact trivial
  refine a_loopk (fun k : Nat => ⟨[V.cell (.row (.arg 0) 3 2 2), V.int .i64 x, U, U, U, U, V.cell (.row (.arg 0) 3 2 2), V.int .i64 2, V.int .i64 k, U, U, U, U, U, U, U, U, U, .undef], [(.arg 0, ctB (.arg 0) c)]⟩) (fun k => k ≤ 2 ∧ (0 < k → c.p0 ≠ x) ∧ (1 < k → c.p1 ≠ x)) (2 - ·) 0 ⟨by omega, by omega, by omega⟩ ?_ ?_
  · try (refine zs ?_; try exact trivial)
  rintro k ⟨hk, h0, h1⟩
  rcases (by omega : k = 0 ∨ k = 1 ∨ k = 2) with rfl | rfl | rfl
  · refine zc ?_;try exact trivial
    refine c_dec (fun h => ?_) (fun h => ?_)
    · have e : seatP c x = 0 := by unfold seatP; rw [if_pos h.symm]
      rw [e]
      refine zc ?_;try exact trivial
    refine zc ?_;try exact trivial
    exact ⟨1, by omega, ⟨by omega, fun _ q => h q.symm, by omega⟩, rfl⟩
  · have h0' := h0 (by omega)
    refine zc ?_;try exact trivial
    refine c_dec (fun h => ?_) (fun h => ?_)
    · have e : seatP c x = 1 := by unfold seatP; rw [if_neg h0', if_pos h.symm]
      rw [e]
      refine zc ?_;try exact trivial
    refine zc ?_;try exact trivial
    exact ⟨2, by omega, ⟨by omega, fun _ => h0', fun _ q => h q.symm⟩, rfl⟩
  have h0' := h0 (by omega)
  have h1' := h1 (by omega)
  have e : seatP c x = -1 := by simp [seatP, h0', h1']
  rw [e]
  refine zc ?_;try exact trivial
theorem seat_h (c : Ct) (x : Int) : Holds Tryz.prog 101 [.ptr (.arg 0) 0, .int .i64 x] [(.arg 0, ctB (.arg 0) c)] (fun r h' => r = .int .i64 (seatP c x) ∧ h' = [(.arg 0, ctB (.arg 0) c)]) := by
  refine holds_of_awp Tryz.func101 rfl (by decide +kernel) mixed Tryz.ntmps101 Tryz.results101 ?_
  refine zE ?_
  refine zc ?_;try exact trivial
  refine a_call [.arg 0] (index_h c x) (ok1 rfl) ?_ ?_ ?_
  · refine zs ?_;try exact trivial
  · refine zs ?_;try exact trivial
  rintro _ _ ⟨rfl, rfl⟩
  refine zs ?_;try exact trivial
theorem ended_h (c : Ct) : Holds Tryz.prog 108 [.ptr (.arg 0) 0] [(.arg 0, ctB (.arg 0) c)] (fun r h' => r = V.bool (c.over || c.st.over) ∧ h' = [(.arg 0, ctB (.arg 0) c)]) := by
  refine holds_of_awp Tryz.func108 rfl (by decide +kernel) mixed Tryz.ntmps108 Tryz.results108 ?_
  refine zE ?_
  cases d : c.over
  · simp (maxSteps:=2000000) (disch:=omega) only [go_sem,Nat.reduceAdd,Nat.reduceSub,Nat.reduceMul,Nat.reduceBEq,Nat.reduceEqDiff,Nat.reduceLT,Nat.reduceLeDiff,Nat.reduceDiv,reduceIte,reduceCtorEq, d]
  simp (maxSteps:=2000000) (disch:=omega) only [go_sem,Nat.reduceAdd,Nat.reduceSub,Nat.reduceMul,Nat.reduceBEq,Nat.reduceEqDiff,Nat.reduceLT,Nat.reduceLeDiff,Nat.reduceDiv,reduceIte,reduceCtorEq, d]
/-- may a player do something? -/
def actP (c : Ct) (p : Int) : Int := if c.opn = false then 15 else if (c.over || c.st.over) = true then 12 else if seatP c p < 0 then 14 else 0
def mayOpenP (c : Ct) (e : Ev) : Int := if c.opn = true then 15 else if e.player < 1 ∨ e.other < 1 ∨ e.player = e.other ∨ e.n < 0 ∨ 4294967295 < e.n then 1 else 0
theorem mayAct_h (c : Ct) (e : Ev) : Holds Tryz.prog 100 [.ptr (.arg 0) 0, .ev e] [(.arg 0, ctB (.arg 0) c)] (fun r h' => r = .int .i64 (actP c e.player) ∧ h' = [(.arg 0, ctB (.arg 0) c)]) := by
  refine holds_of_awp Tryz.func100 rfl (by decide +kernel) mixed Tryz.ntmps100 Tryz.results100 ?_
  refine zE ?_
  refine zs ?_;try exact trivial
  refine c_b (fun d => ?_) (fun d => ?_)
  · have e1 : actP c e.player = 15 := by
      unfold actP
      cases q : c.opn <;> simp_all
    rw [e1]
    refine zs ?_;try exact trivial
  refine zs ?_;try exact trivial
  refine a_call [.arg 0] (ended_h c) (ok1 rfl) ?_ ?_ ?_
  · refine zs ?_;try exact trivial
  · refine zs ?_;try exact trivial
  rintro _ _ ⟨rfl, rfl⟩
  refine zs ?_;try exact trivial
  have d1 : c.opn = true := by cases q : c.opn <;> simp_all
  refine c_b (fun d2 => ?_) (fun d2 => ?_)
  · have e1 : actP c e.player = 12 := by
      unfold actP
      rw [if_neg (by simp [d1]), if_pos d2]
    rw [e1]
    refine zs ?_;try exact trivial
  refine zs ?_;try exact trivial
  refine a_call [.arg 0] (seat_h c e.player) (ok1 rfl) ?_ ?_ ?_
  · refine zs ?_;try exact trivial
  · refine zs ?_;try exact trivial
  rintro _ _ ⟨rfl, rfl⟩
  refine zs ?_;try exact trivial
  refine c_dec (fun h => ?_) (fun h => ?_)
  · have e1 : actP c e.player = 14 := by
      unfold actP
      rw [if_neg (by simp [d1]), if_neg (by simp [d2]), if_pos h]
    rw [e1]
    refine zs ?_;try exact trivial
  have e1 : actP c e.player = 0 := by
    unfold actP
    rw [if_neg (by simp [d1]), if_neg (by simp [d2]), if_neg h]
  rw [e1]
  refine zs ?_;try exact trivial
theorem mayOpen_h (c : Ct) (e : Ev) : Holds Tryz.prog 71 [.ptr (.arg 0) 0, .ev e] [(.arg 0, ctB (.arg 0) c)] (fun r h' => r = .int .i64 (mayOpenP c e) ∧ h' = [(.arg 0, ctB (.arg 0) c)]) := by
  refine holds_of_awp Tryz.func71 rfl (by decide +kernel) mixed Tryz.ntmps71 Tryz.results71 ?_
  refine zE ?_
  refine zs ?_;try exact trivial
  refine c_b (fun d => ?_) (fun d => ?_)
  · have e1 : mayOpenP c e = 15 := by unfold mayOpenP; rw [if_pos d]
    rw [e1]
    refine zs ?_;try exact trivial
  refine zs ?_;try exact trivial
  cases d1 : decide (e.player < 1)
  · have d1f := of_decide_eq_false d1
    cases d2 : decide (e.other < 1)
    · have d2f := of_decide_eq_false d2
      cases d3 : decide (e.player = e.other)
      · have d3f := of_decide_eq_false d3
        cases d4 : decide (e.n < 0)
        · have d4f := of_decide_eq_false d4
          simp (maxSteps:=2000000) (disch:=omega) only [go_sem,Nat.reduceAdd,Nat.reduceSub,Nat.reduceMul,Nat.reduceBEq,Nat.reduceEqDiff,Nat.reduceLT,Nat.reduceLeDiff,Nat.reduceDiv,reduceIte,reduceCtorEq, d1, d2, d3, d4]
          refine c_dec (fun h => ?_) (fun h => ?_)
          · have e1 : mayOpenP c e = 1 := by
              unfold mayOpenP
              rw [if_neg (by simp [d]), if_pos (by omega)]
            rw [e1]
            refine zs ?_;try exact trivial
          have e1 : mayOpenP c e = 0 := by
            unfold mayOpenP
            rw [if_neg (by simp [d]), if_neg (by omega)]
          rw [e1]
          refine zs ?_;try exact trivial
        have d4f := of_decide_eq_true d4
        have e1 : mayOpenP c e = 1 := by
          unfold mayOpenP
          rw [if_neg (by simp [d]), if_pos (by omega)]
        rw [e1]
        simp (maxSteps:=2000000) (disch:=omega) only [go_sem,Nat.reduceAdd,Nat.reduceSub,Nat.reduceMul,Nat.reduceBEq,Nat.reduceEqDiff,Nat.reduceLT,Nat.reduceLeDiff,Nat.reduceDiv,reduceIte,reduceCtorEq, d1, d2, d3, d4]
      have d3f := of_decide_eq_true d3
      have e1 : mayOpenP c e = 1 := by
        unfold mayOpenP
        rw [if_neg (by simp [d]), if_pos (by omega)]
      rw [e1]
      simp (maxSteps:=2000000) (disch:=omega) only [go_sem,Nat.reduceAdd,Nat.reduceSub,Nat.reduceMul,Nat.reduceBEq,Nat.reduceEqDiff,Nat.reduceLT,Nat.reduceLeDiff,Nat.reduceDiv,reduceIte,reduceCtorEq, d1, d2, d3]
    have d2f := of_decide_eq_true d2
    have e1 : mayOpenP c e = 1 := by
      unfold mayOpenP
      rw [if_neg (by simp [d]), if_pos (by omega)]
    rw [e1]
    simp (maxSteps:=2000000) (disch:=omega) only [go_sem,Nat.reduceAdd,Nat.reduceSub,Nat.reduceMul,Nat.reduceBEq,Nat.reduceEqDiff,Nat.reduceLT,Nat.reduceLeDiff,Nat.reduceDiv,reduceIte,reduceCtorEq, d1, d2]
  have d1f := of_decide_eq_true d1
  have e1 : mayOpenP c e = 1 := by
    unfold mayOpenP
    rw [if_neg (by simp [d]), if_pos (by omega)]
  rw [e1]
  simp (maxSteps:=2000000) (disch:=omega) only [go_sem,Nat.reduceAdd,Nat.reduceSub,Nat.reduceMul,Nat.reduceBEq,Nat.reduceEqDiff,Nat.reduceLT,Nat.reduceLeDiff,Nat.reduceDiv,reduceIte,reduceCtorEq, d1]
end
section
open Go Go.RowKit Go.ChangeShapes Go.WideShapes
theorem u16_wf {z : Int} (h : (Lit.int .u16 z).wf = true) : U16 (UInt16.ofNat z.toNat) = z := by
  simp only [Lit.wf, Bool.and_eq_true, decide_eq_true_eq] at h
  have e1 : IntKind.u16.min = 0 := by kernel_rfl
  have e2 : IntKind.u16.max = 65535 := by kernel_rfl
  rw [e1, e2] at h
  unfold U16; rw [UInt16.toNat_ofNat']; omega
theorem ev_inv {cs : List Value} (h : All2 okV [some .i64, some .i64, some .i64, some .i64, some .u16, some .i64] cs) : ∃ e : Ev, cs.map C.val = evC e := by
  obtain ⟨_, l1, rfl, ⟨a, rfl, _⟩, h1⟩ := h.cons_inv
  obtain ⟨_, l2, rfl, ⟨b, rfl, _⟩, h2⟩ := h1.cons_inv
  obtain ⟨_, l3, rfl, ⟨c, rfl, _⟩, h3⟩ := h2.cons_inv
  obtain ⟨_, l4, rfl, ⟨d, rfl, _⟩, h4⟩ := h3.cons_inv
  obtain ⟨_, l5, rfl, ⟨x, rfl, hx⟩, h5⟩ := h4.cons_inv
  obtain ⟨_, l6, rfl, ⟨f, rfl, _⟩, h6⟩ := h5.cons_inv
  obtain rfl := h6.nil_inv
  refine ⟨⟨a, b, c, d, UInt16.ofNat x.toNat, f⟩, ?_⟩
  simp only [List.map_cons, List.map_nil, evC, u16_wf hx]
theorem flatEv : flatK Tryz.prog 8 34 = some [some .i64, some .i64, some .i64, some .i64, some .u16, some .i64] := by kernel_rfl
set_option maxRecDepth 100000 in
theorem open_ev {H : Type} {enc : TypeId × Value → H} {W : World} {v : Value} {d : DataW H} {ps : List MemPlace} {r : Reach} {b0 : Nat}
    (hv : Value.okWide Tryz.prog W r b0 34 v) (h : DataW.Trod enc Tryz.prog W 0 (fun _ => true) true 34 v d ps) :
    ∃ e : Ev, RelW (ghOf W) (.agg (evC e)) v := by
  obtain ⟨cs, rfl, _⟩ := okWide_struct Tryz.underlying34 hv
  obtain ⟨h1, h2⟩ := open_flat flatEv h
  obtain ⟨e, he⟩ := ev_inv h1
  refine ⟨e, ?_⟩
  rw [he] at h2
  exact h2
end
section
theorem bare1_h (e : Ev) : Holds Tryz.prog 73 [.ev e] [] (fun r h' => r = .w (.ev { e with player := 0, other := 0, n := 0 }) ∧ h' = []) := by
  refine holds_of_awp Tryz.func73 rfl (by decide +kernel) mixed Tryz.ntmps73 Tryz.results73 ?_
  refine zE ?_
  refine zs ?_;try exact trivial
theorem bare2_h (e : Ev) : Holds Tryz.prog 76 [.ev e] [] (fun r h' => r = .w (.ev { e with player := 0 }) ∧ h' = []) := by
  refine holds_of_awp Tryz.func76 rfl (by decide +kernel) mixed Tryz.ntmps76 Tryz.results76 ?_
  refine zE ?_
  refine zs ?_;try exact trivial
theorem bare3_h (e : Ev) : Holds Tryz.prog 79 [.ev e] [] (fun r h' => r = .w (.ev { e with player := 0, frame := 0, inp := 0 }) ∧ h' = []) := by
  refine holds_of_awp Tryz.func79 rfl (by decide +kernel) mixed Tryz.ntmps79 Tryz.results79 ?_
  refine zE ?_
  refine zs ?_;try exact trivial
  rfl
theorem bare4_h (e : Ev) : Holds Tryz.prog 82 [.ev e] [] (fun r h' => r = .w (.ev { e with player := 0 }) ∧ h' = []) := by
  refine holds_of_awp Tryz.func82 rfl (by decide +kernel) mixed Tryz.ntmps82 Tryz.results82 ?_
  refine zE ?_
  refine zs ?_;try exact trivial
theorem bare5_h (e : Ev) : Holds Tryz.prog 85 [.ev e] [] (fun r h' => r = .w (.ev { e with player := 0, n := 0 }) ∧ h' = []) := by
  refine holds_of_awp Tryz.func85 rfl (by decide +kernel) mixed Tryz.ntmps85 Tryz.results85 ?_
  refine zE ?_
  refine zs ?_;try exact trivial
def mayJoinP (c : Ct) (e : Ev) : Int := if actP c e.player ≠ 0 then actP c e.player else if 100 ≤ (if seatP c e.player = 0 then c.l0 else c.l1) then 17 else 0
theorem seat_cases (c : Ct) (x : Int) (h : 0 ≤ seatP c x) : seatP c x = 0 ∨ seatP c x = 1 := by unfold seatP at *; split at h <;> simp_all; split at h <;> simp_all
theorem act_seat {c : Ct} {x : Int} (h : actP c x = 0) : 0 ≤ seatP c x := by
  unfold actP at h
  split at h
  · omega
  split at h
  · omega
  split at h <;> omega
theorem mayJoin_h (c : Ct) (e : Ev) : Holds Tryz.prog 74 [.ptr (.arg 0) 0, .ev e] [(.arg 0, ctB (.arg 0) c)] (fun r h' => r = .int .i64 (mayJoinP c e) ∧ h' = [(.arg 0, ctB (.arg 0) c)]) := by
  refine holds_of_awp Tryz.func74 rfl (by decide +kernel) mixed Tryz.ntmps74 Tryz.results74 ?_
  refine zE ?_
  refine zs ?_;try exact trivial
  refine a_call [.arg 0] (mayAct_h c e) (ok1 rfl) ?_ ?_ ?_
  · refine zs ?_;try exact trivial
  · refine zs ?_;try exact trivial
  rintro _ _ ⟨rfl, rfl⟩
  refine zs ?_;try exact trivial
  refine c_dec (fun h => ?_) (fun h => ?_)
  · have e1 : mayJoinP c e = actP c e.player := by unfold mayJoinP; rw [if_pos (by omega)]
    rw [e1]
    refine zs ?_;try exact trivial
  have ha : actP c e.player = 0 := by omega
  have hs := act_seat ha
  refine zs ?_;try exact trivial
  refine a_drawC (⟨[U, U, U, U, U, U, U, U, U, U, U, U, U, U, U, U, U, U, U, U, U, U, V.bool (decide (100 ≤ (if seatP c e.player = 0 then c.l0 else c.l1)))], [(.arg 0, ctB (.arg 0) c)]⟩) (.take 0 (.take 1 (.take 2 (.take 5 (.take 6 (.take 7 (.both [(3, .both [(4, .take 8 (.take 9 (.take 10 (.done))))])]))))))) (by kernel_rfl) (by kernel_rfl) ?_ ?_
  · refine zc ?_;try exact trivial
    repeat' (with_reducible apply And.intro)
    all_goals (
      refine a_call [.arg 0] (seat_h c e.player) (ok1 rfl) ?_ ?_ ?_
      · refine zs ?_;try exact trivial
      · refine zs ?_;try exact trivial
      rintro _ _ ⟨rfl, rfl⟩
      rcases seat_cases c e.player hs with q | q
      · rw [q]
        refine zc ?_;try exact trivial
      rw [q]
      (refine zc ?_; try exact trivial))
  refine zs ?_;try exact trivial
  refine c_dec (fun h2 => ?_) (fun h2 => ?_)
  · have e1 : mayJoinP c e = 17 := by unfold mayJoinP; rw [if_neg (by omega), if_pos h2]
    rw [e1]
    refine zs ?_;try exact trivial
  have e1 : mayJoinP c e = 0 := by unfold mayJoinP; rw [if_neg (by omega), if_neg h2]
  rw [e1]
  refine zs ?_;try exact trivial
theorem mayForfeit_h (c : Ct) (e : Ev) : Holds Tryz.prog 80 [.ptr (.arg 0) 0, .ev e] [(.arg 0, ctB (.arg 0) c)] (fun r h' => r = .int .i64 (actP c e.player) ∧ h' = [(.arg 0, ctB (.arg 0) c)]) := by
  refine holds_of_awp Tryz.func80 rfl (by decide +kernel) mixed Tryz.ntmps80 Tryz.results80 ?_
  refine zE ?_
  refine zs ?_;try exact trivial
  refine a_call [.arg 0] (mayAct_h c e) (ok1 rfl) ?_ ?_ ?_
  · refine zs ?_;try exact trivial
  · refine zs ?_;try exact trivial
  rintro _ _ ⟨rfl, rfl⟩
  refine zs ?_;try exact trivial
def joinP (c : Ct) (e : Ev) : Ct := if seatP c e.player = 0 then { c with l0 := c.l0 + 1 } else { c with l1 := c.l1 + 1 }
def forfeitP (c : Ct) (e : Ev) : Ct := { c with over := true, winner := 1 - seatP c e.player, why := 3 }
def resultP (c : Ct) (e : Ev) : Ct := { c with over := true, winner := seatP c e.player, why := e.n }
theorem join_h (c : Ct) (e : Ev) (hs : 0 ≤ seatP c e.player) (h0 : 0 ≤ c.l0 ∧ c.l0 ≤ 1000) (h1 : 0 ≤ c.l1 ∧ c.l1 ≤ 1000) : Holds Tryz.prog 75 [.ptr (.arg 0) 0, .ev e] [(.arg 0, ctB (.arg 0) c)] (fun r h' => r = .tup [] ∧ h' = [(.arg 0, ctB (.arg 0) (joinP c e))]) := by
  refine holds_of_awp Tryz.func75 rfl (by decide +kernel) mixed Tryz.ntmps75 Tryz.results75 ?_
  refine zE ?_
  refine zs ?_;try exact trivial
  refine a_drawC (⟨[U, U, U, U, U, U, U, U, U, U, U, U, U, U, U, U, U, U, .undef], [(.arg 0, ctB (.arg 0) (joinP c e))]⟩) (.take 0 (.take 1 (.take 2 (.take 5 (.take 6 (.take 7 (.take 11 (.take 12 (.take 13 (.both [(3, .both [(4, .take 8 (.both [(9, .take 10 (.take 14 (.both [(15, .done)])))]))])])))))))))) (by kernel_rfl) (by kernel_rfl) ?_ ?_
  · refine zc ?_;try exact trivial
    repeat' (with_reducible apply And.intro)
    all_goals first | omega | skip
    all_goals (
      refine a_call [.arg 0] (seat_h c e.player) (ok1 rfl) ?_ ?_ ?_
      · refine zs ?_;try exact trivial
      · refine zs ?_;try exact trivial
      rintro _ _ ⟨rfl, rfl⟩
      rcases seat_cases c e.player hs with q | q
      · have ej : joinP c e = { c with l0 := c.l0 + 1 } := by simp [joinP, q]
        rw [ej, q]
        refine zc ?_;try exact trivial
      have ej : joinP c e = { c with l1 := c.l1 + 1 } := by simp [joinP, q]
      rw [ej, q]
      (refine zc ?_; try exact trivial))
  refine zs ?_;try exact trivial
theorem forfeit_h (c : Ct) (e : Ev) (hs : 0 ≤ seatP c e.player) : Holds Tryz.prog 81 [.ptr (.arg 0) 0, .ev e] [(.arg 0, ctB (.arg 0) c)] (fun r h' => r = .tup [] ∧ h' = [(.arg 0, ctB (.arg 0) (forfeitP c e))]) := by
  refine holds_of_awp Tryz.func81 rfl (by decide +kernel) mixed Tryz.ntmps81 Tryz.results81 ?_
  refine zE ?_
  refine zs ?_;try exact trivial
  refine a_call [.arg 0] (seat_h c e.player) (ok1 rfl) ?_ ?_ ?_
  · refine zs ?_;try exact trivial
  · refine zs ?_;try exact trivial
  rintro _ _ ⟨rfl, rfl⟩
  rcases seat_cases c e.player hs with q | q
  · have ej : forfeitP c e = { c with over := true, winner := 1, why := 3 } := by simp [forfeitP, q]
    rw [ej, q]
    refine zc ?_;try exact trivial
  have ej : forfeitP c e = { c with over := true, winner := 0, why := 3 } := by simp [forfeitP, q]
  rw [ej, q]
  refine zc ?_;try exact trivial
theorem result_h (c : Ct) (e : Ev) (hs : 0 ≤ seatP c e.player) : Holds Tryz.prog 84 [.ptr (.arg 0) 0, .ev e] [(.arg 0, ctB (.arg 0) c)] (fun r h' => r = .tup [] ∧ h' = [(.arg 0, ctB (.arg 0) (resultP c e))]) := by
  refine holds_of_awp Tryz.func84 rfl (by decide +kernel) mixed Tryz.ntmps84 Tryz.results84 ?_
  refine zE ?_
  refine zs ?_;try exact trivial
  refine a_drawC (⟨[U, U, U, U, U, U, U, U, U, U, U, U, U, U, U, U, U, U, U, U, U, .undef], [(.arg 0, ctB (.arg 0) (resultP c e))]⟩) (.take 0 (.take 1 (.take 2 (.take 3 (.take 4 (.take 7 (.both [(5, .both [(6, .take 9 (.take 10 (.take 11 (.both [(8, .both [(12, .take 13 (.take 14 (.take 15 (.both [(16, .take 17 (.take 18 (.take 19 (.both [(20, .done)]))))]))))]), (12, .take 13 (.take 14 (.take 15 (.both [(8, .both [(16, .take 17 (.take 18 (.take 19 (.both [(20, .done)]))))]), (16, .both [(8, .take 17 (.take 18 (.take 19 (.both [(20, .done)]))))])]))))])))), (8, .both [(6, .take 9 (.take 10 (.take 11 (.both [(12, .take 13 (.take 14 (.take 15 (.both [(16, .take 17 (.take 18 (.take 19 (.both [(20, .done)]))))]))))]))))])]), (8, .both [(5, .both [(6, .take 9 (.take 10 (.take 11 (.both [(12, .take 13 (.take 14 (.take 15 (.both [(16, .take 17 (.take 18 (.take 19 (.both [(20, .done)]))))]))))]))))])])]))))))) (by kernel_rfl) (by kernel_rfl) ?_ ?_
  · refine zc ?_;try exact trivial
    repeat' (with_reducible apply And.intro)
    all_goals first | omega | skip
    all_goals (
      refine a_call [.arg 0] (seat_h c e.player) (ok1 rfl) ?_ ?_ ?_
      · refine zs ?_;try exact trivial
      · refine zs ?_;try exact trivial
      rintro _ _ ⟨rfl, rfl⟩
      rcases seat_cases c e.player hs with q | q
      · have ej : resultP c e = { c with over := true, winner := 0, why := e.n } := by simp [resultP, q]
        rw [ej, q]
        refine zc ?_;try exact trivial
      have ej : resultP c e = { c with over := true, winner := 1, why := e.n } := by simp [resultP, q]
      rw [ej, q]
      (refine zc ?_; try exact trivial))
  refine zs ?_;try exact trivial
def resP (s : Sta) (cap : Int) : Int × Int × Bool := if s.over = false then (0, 0, false) else (if s.win = 2 then 0 else s.win, if s.frame = cap then 2 else 1, true)
theorem dresult_h (s : Sta) (cap fuel : Int) (o : Own) (nl : Option Bool) (l : List (Int × Int)) : Holds Tryz.prog 28 [.agg ((sd s).map D.toC), .agg [.lst .no none 2 (ins l), .val (.int .i64 cap), .val (.int .i64 fuel)]] [] (fun r h' => r = .tup [.int .i64 (resP s cap).1, .int .i64 (resP s cap).2.1, .c (.val (.bool (resP s cap).2.2))] ∧ h' = []) := by
  refine holds_of_awp Tryz.func28 rfl (by decide +kernel) mixed Tryz.ntmps28 Tryz.results28 ?_
  refine zE ?_
  refine zs ?_;try exact trivial
  refine c_b (fun d => ?_) (fun d => ?_)
  · have d' : s.over = false := by simpa using d
    have e : resP s cap = (0, 0, false) := by unfold resP; rw [if_pos d']
    rw [e]
    refine zs ?_;try exact trivial
  have d' : s.over = true := by simpa using d
  refine zs ?_;try exact trivial
  refine c_dec (fun w => ?_) (fun w => ?_)
  · refine zs ?_;try exact trivial
    refine c_dec (fun f => ?_) (fun f => ?_)
    · have e : resP s cap = (0, 2, true) := by unfold resP; rw [if_neg (by simp [d']), if_pos w, if_pos f]
      rw [e]
      refine zs ?_;try exact trivial
    have e : resP s cap = (0, 1, true) := by unfold resP; rw [if_neg (by simp [d']), if_pos w, if_neg f]
    rw [e]
    refine zs ?_;try exact trivial
  refine zs ?_;try exact trivial
  refine c_dec (fun f => ?_) (fun f => ?_)
  · have e : resP s cap = (s.win, 2, true) := by unfold resP; rw [if_neg (by simp [d']), if_neg w, if_pos f]
    rw [e]
    refine zs ?_;try exact trivial
  have e : resP s cap = (s.win, 1, true) := by unfold resP; rw [if_neg (by simp [d']), if_neg w, if_neg f]
  rw [e]
  refine zs ?_;try exact trivial
/-- may this be the result? -/
def mayResultP (c : Ct) (e : Ev) : Int :=
  if c.opn = false then 15 else if c.over = true then 12 else if (resP c.st c.cap).2.2 = false then 15
  else if e.player ≠ (if (resP c.st c.cap).1 = 0 then c.p0 else c.p1) ∨ e.n ≠ (resP c.st c.cap).2.1 then 18 else 0
set_option maxHeartbeats 1000000 in
theorem mayResult_h (c : Ct) (e : Ev) (hw : 0 ≤ c.st.win ∧ c.st.win ≤ 2) : Holds Tryz.prog 83 [.ptr (.arg 0) 0, .ev e] [(.arg 0, ctB (.arg 0) c)] (fun r h' => r = .int .i64 (mayResultP c e) ∧ h' = [(.arg 0, ctB (.arg 0) c)]) := by
  refine holds_of_awp Tryz.func83 rfl (by decide +kernel) mixed Tryz.ntmps83 Tryz.results83 ?_
  refine zE ?_
  refine zs ?_;try exact trivial
  refine a_drawC (⟨[V.cell (.ptr (.arg 0) 0), .undef, .undef, V.cell (.ptr (.loc [3]) 0), .undef, V.int .i64 (resP c.st c.cap).1, V.int .i64 (resP c.st c.cap).2.1, V.bool (resP c.st c.cap).2.2, U, U, U, U, U, U, U, U, U, U, U, U, U, U, U, U, U, U, U, U, U, U, U, U, U, U, U, U, U, U, U, U, U, U, U, U, U, U, U, U, U, U, U, U, U, .undef], [(.loc [3], evC e), (.arg 0, ctB (.arg 0) c)]⟩) (.take 0 (.take 1 (.take 2 (.take 4 (.take 5 (.take 6 (.both [(3, .both [(7, .both [(8, .take 9 (.take 10 (.take 11 (.take 12 (.take 13 (.take 14 (.take 15 (.done))))))))])]), (7, .both [(3, .both [(8, .take 9 (.take 10 (.take 11 (.take 12 (.take 13 (.take 14 (.take 15 (.done))))))))])])]))))))) (by kernel_rfl) (by kernel_rfl) ?_ ?_
  · refine zc ?_;try exact trivial
    repeat' (with_reducible apply And.intro)
    all_goals (
      refine a_call [] (dresult_h c.st c.cap c.fuel .no none c.code) ok0 ?_ ?_ ?_
      · refine zs ?_;try exact trivial
      · refine zs ?_;try exact trivial
      rintro _ _ ⟨rfl, rfl⟩
      (refine zc ?_; try exact trivial))
  have hb : (resP c.st c.cap).1 = 0 ∨ (resP c.st c.cap).1 = 1 := by
    unfold resP
    split
    · exact .inl rfl
    split
    · exact .inl rfl
    show c.st.win = 0 ∨ c.st.win = 1; omega
  unfold mayResultP
  generalize resP c.st c.cap = q at *
  obtain ⟨w, y, o⟩ := q
  simp only at hb ⊢
  refine zs ?_;try exact trivial
  refine c_b (fun d => ?_) (fun d => ?_)
  · have d' : c.opn = false := by simpa using d
    rw [if_pos d']
    refine zs ?_;try exact trivial
  have d' : ¬ c.opn = false := by simpa using d
  rw [if_neg d']
  refine zs ?_;try exact trivial
  refine c_b (fun d2 => ?_) (fun d2 => ?_)
  · rw [if_pos d2]
    refine zs ?_;try exact trivial
  rw [if_neg (by simp [d2])]
  cases o
  · rw [if_pos rfl]
    refine zc ?_;try exact trivial
  rw [if_neg (by simp)]
  refine zc ?_;try exact trivial
  refine a_drawC (⟨[U, U, U, U, U, U, U, U, U, U, U, U, U, U, U, U, U, U, U, U, U, U, U, U, U, U, U, U, U, U, U, U, U, U, U, U, U, V.bool (decide (e.player ≠ (if w = 0 then c.p0 else c.p1) ∨ e.n ≠ y)), U, U, U, U, U, U, U, U, U, U, U, U, U, U, U, .undef], [(.arg 0, ctB (.arg 0) c)]⟩) (.take 0 (.take 1 (.take 2 (.take 3 (.take 4 (.take 5 (.take 6 (.take 7 (.take 8 (.take 9 (.take 10 (.take 11 (.take 12 (.take 13 (.take 14 (.take 15 (.take 16 (.done)))))))))))))))))) (by kernel_rfl) (by kernel_rfl) ?_ ?_
  · rcases hb with rfl | rfl
    · by_cases q : e.player = c.p0
      · simp (maxSteps:=2000000) (disch:=omega) only [go_sem,Nat.reduceAdd,Nat.reduceSub,Nat.reduceMul,Nat.reduceBEq,Nat.reduceEqDiff,Nat.reduceLT,Nat.reduceLeDiff,Nat.reduceDiv,reduceIte,reduceCtorEq, q, not_true_eq_false, not_false_eq_true, decide_true, decide_false, true_or, false_or]
      simp (maxSteps:=2000000) (disch:=omega) only [go_sem,Nat.reduceAdd,Nat.reduceSub,Nat.reduceMul,Nat.reduceBEq,Nat.reduceEqDiff,Nat.reduceLT,Nat.reduceLeDiff,Nat.reduceDiv,reduceIte,reduceCtorEq, q, not_true_eq_false, not_false_eq_true, decide_true, decide_false, true_or, false_or]
    by_cases q : e.player = c.p1
    · simp (maxSteps:=2000000) (disch:=omega) only [go_sem,Nat.reduceAdd,Nat.reduceSub,Nat.reduceMul,Nat.reduceBEq,Nat.reduceEqDiff,Nat.reduceLT,Nat.reduceLeDiff,Nat.reduceDiv,reduceIte,reduceCtorEq, q, Int.reduceEq, not_true_eq_false, not_false_eq_true, decide_true, decide_false, true_or, false_or]
    simp (maxSteps:=2000000) (disch:=omega) only [go_sem,Nat.reduceAdd,Nat.reduceSub,Nat.reduceMul,Nat.reduceBEq,Nat.reduceEqDiff,Nat.reduceLT,Nat.reduceLeDiff,Nat.reduceDiv,reduceIte,reduceCtorEq, q, Int.reduceEq, not_true_eq_false, not_false_eq_true, decide_true, decide_false, true_or, false_or]
  refine zs ?_;try exact trivial
  refine c_dec (fun h => ?_) (fun h => ?_)
  · rw [if_pos h]
    refine zs ?_;try exact trivial
  rw [if_neg h]
  refine zs ?_;try exact trivial
end
section
section
variable {K : V → St → Prop} {d : Nat} {s : St} {o : Own} {nl : Option Bool}
@[go_sem ↓ 900] theorem e_apM {z : List C} {b sz : Nat} {xs : List D} {x : V} (h : 2 ≤ sz) : aAp2 (some z) (some (b + 1)) o nl sz xs sz x d s K = (z.length = sz ∧ o ≠ .no ∧ aSrc sz x s fun ys =>
    (xs.length + ys.length) / sz * (b + 1) ≤ 140737488355328 ∧ K (.cell (.lst (.tag (.slot [d])) (nlA nl) sz (xs ++ ys))) (s.clean (fun _ => false) (killT o d))) := by
  have h0 : 0 < sz := by omega
  simp [aAp2, h0]
@[go_sem ↓ 900] theorem e_srcM {sz : Nat} {ys : List D} {J : List D → Prop} : aSrc sz (.cell (.lst o nl sz ys)) s J = J ys := by simp [aSrc]
end
end
section
@[go_sem] theorem evs_len {l : List Ev} : (evs l).length = l.length * 6 := by
  induction l with
  | nil => rfl
  | cons s l ih => rw [show evs (s :: l) = evD s ++ evs l by simp [evs], List.length_append, ih, List.length_cons]; simp [evD]; omega
@[go_sem] theorem prs_len {l : List (UInt16 × UInt16)} : (prs l).length = l.length * 2 := by
  induction l with
  | nil => rfl
  | cons s l ih => rw [show prs (s :: l) = prD s ++ prs l by simp [prs], List.length_append, ih, List.length_cons]; simp [prD]; omega
set_option maxHeartbeats 1000000 in
theorem cloneI_h (l : List (Int × Int)) (hb : l.length ≤ 100000000) : Holds Tryz.prog 54 [.c (.lst .no none 2 (ins l))] [] (fun v h' => v = .cell (.lst (.tag (.slot [7])) none 2 (ins l)) ∧ h' = []) := by
  refine holds_of_awp Tryz.func54 rfl (by decide +kernel) mixed Tryz.ntmps54 Tryz.results54 ?_
  refine zE ?_
  refine zs ?_;try exact trivial
  refine ⟨fun e => ?_, ?_⟩
  · rw [e]; simp [leC]; rfl
  refine a_apA ?_
  refine zs ?_;try exact trivial
  try omega
set_option maxHeartbeats 1000000 in
theorem cloneP_h (l : List (UInt16 × UInt16)) (hb : l.length ≤ 100000000) : Holds Tryz.prog 41 [.c (.lst .no none 2 (prs l))] [] (fun v h' => v = .cell (.lst (.tag (.slot [7])) none 2 (prs l)) ∧ h' = []) := by
  refine holds_of_awp Tryz.func41 rfl (by decide +kernel) mixed Tryz.ntmps41 Tryz.results41 ?_
  refine zE ?_
  refine zs ?_;try exact trivial
  refine ⟨fun e => ?_, ?_⟩
  · rw [e]; simp [leC]; rfl
  refine a_apA ?_
  refine zs ?_;try exact trivial
  try omega
theorem state_h (c : Ct) : Holds Tryz.prog 24 [.ptr (.arg 0) 0] [(.arg 0, ctB (.arg 0) c)] (fun r h' => r = .w (.agg ((sd c.st).map D.toC)) ∧ h' = [(.arg 0, ctB (.arg 0) c)]) := by
  refine holds_of_awp Tryz.func24 rfl (by decide +kernel) mixed Tryz.ntmps24 Tryz.results24 ?_
  refine zE ?_
  refine zs ?_;try exact trivial
abbrev statC (c : Ct) : List C := [.val (.int .i64 c.p0), .val (.int .i64 c.p1), .val (.int .u32 (U32 c.seed)), .val (.int .i64 c.l0), .val (.int .i64 c.l1), .val (.int .i64 c.in0.length), .val (.int .i64 c.in1.length), .val (.bool c.over), .val (.int .i64 c.winner), .val (.int .i64 c.why), .val (.bool c.opn)]
theorem status_h (c : Ct) : Holds Tryz.prog 27 [.ptr (.arg 0) 0] [(.arg 0, ctB (.arg 0) c)] (fun r h' => r = .w (.agg (statC c)) ∧ h' = [(.arg 0, ctB (.arg 0) c)]) := by
  refine holds_of_awp Tryz.func27 rfl (by decide +kernel) mixed Tryz.ntmps27 Tryz.results27 ?_
  refine zE ?_
  refine zs ?_;try exact trivial
end
section
/-- may an op have this argument, in a program of so many? -/
def mayP (op arg n : Int) : Bool :=
  if op = 1 then decide (-2147483648 ≤ arg) && decide (arg ≤ 2147483647)
  else if op = 2 ∨ op = 3 then decide (0 ≤ arg) && decide (arg ≤ 15)
  else if op = 16 then decide (0 ≤ arg) && decide (arg ≤ 1)
  else if op = 18 ∨ op = 19 then decide (0 ≤ arg) && decide (arg ≤ n)
  else if op = 20 then decide (0 ≤ arg) && decide (arg ≤ 2)
  else decide (1 ≤ op) && decide (op ≤ 22) && decide (arg = 0)
/-- how many of the first are instructions -/
def firstBad (l : List (Int × Int)) (n : Int) : Nat := (l.takeWhile fun x => mayP x.1 x.2 n).length
theorem mayP_not {op arg n : Int} (h : ¬ (1 ≤ op ∧ op ≤ 22)) : mayP op arg n = false := by
  unfold mayP
  rw [if_neg (by omega), if_neg (by omega), if_neg (by omega), if_neg (by omega), if_neg (by omega)]
  simp
  omega
theorem firstBad_le (l : List (Int × Int)) (n : Int) : firstBad l n ≤ l.length := (List.takeWhile_prefix _).length_le
theorem firstBad_at {l : List (Int × Int)} {n : Int} {i : Nat} (h : i < firstBad l n) : mayP (gi l i).1 (gi l i).2 n = true := by
  induction l generalizing i with
  | nil => simp [firstBad] at h
  | cons x l ih =>
    unfold firstBad at h ih
    rw [List.takeWhile_cons] at h
    split at h
    · rename_i hx
      cases i with
      | zero => simpa [gi] using hx
      | succ i => simpa [gi] using ih (by simpa using h)
    simp at h
theorem firstBad_stop {l : List (Int × Int)} {n : Int} (h : firstBad l n < l.length) : mayP (gi l (firstBad l n)).1 (gi l (firstBad l n)).2 n = false := by
  induction l with
  | nil => simp at h
  | cons x l ih =>
    unfold firstBad at h ih ⊢
    rw [List.takeWhile_cons] at h ⊢
    split
    · rename_i hx
      rw [if_pos hx] at h
      simpa [gi] using ih (by simpa using h)
    rename_i hx
    simpa [gi] using hx
theorem firstBad_up {l : List (Int × Int)} {n : Int} {i : Nat} (h : i ≤ firstBad l n) (hl : i < l.length) (hm : mayP (gi l i).1 (gi l i).2 n = true) : i + 1 ≤ firstBad l n := by
  rcases Nat.lt_or_ge i (firstBad l n) with h2 | h2
  · exact h2
  have e : i = firstBad l n := by omega
  subst e
  rw [firstBad_stop hl] at hm
  cases hm
theorem firstBad_is {l : List (Int × Int)} {n : Int} {i : Nat} (h : i ≤ firstBad l n) (hm : mayP (gi l i).1 (gi l i).2 n = false) : firstBad l n = i := by
  rcases Nat.lt_or_ge i (firstBad l n) with h2 | h2
  · rw [firstBad_at h2] at hm; cases hm
  omega
def chkP (l : List (Int × Int)) : Int × Int :=
  if 256 < l.length then (0, 5) else if firstBad l l.length < l.length then (firstBad l l.length, 3) else (0, 0)
theorem mayP_fin {a b : Bool} (h : a = true ↔ b = true) : a = b := Bool.eq_iff_iff.2 h
theorem chkP_bad {l : List (Int × Int)} {i : Nat} (h : ¬ 256 < l.length) (hb : i ≤ firstBad l l.length) (hl : i < l.length) (hm : mayP (gi l i).1 (gi l i).2 l.length = false) : chkP l = ((i : Int), 3) := by
  have e := firstBad_is hb hm
  unfold chkP
  rw [if_neg h, e, if_pos hl]
theorem chkP_ok {l : List (Int × Int)} (h : ¬ 256 < l.length) (hb : l.length ≤ firstBad l l.length) : chkP l = (0, 0) := by
  have := firstBad_le l l.length
  unfold chkP
  rw [if_neg h, if_neg (by omega)]
theorem chkP_long {l : List (Int × Int)} (h : 256 < l.length) : chkP l = (0, 5) := by unfold chkP; rw [if_pos h]
set_option maxHeartbeats 1000000 in
theorem rmay_h (op arg n : Int) : Holds Tryz.prog 69 [.agg [.val (.int .i64 op), .val (.int .i64 arg)], .int .i64 n] [] (fun r h' => r = V.bool (mayP op arg n) ∧ h' = []) := by
  refine holds_of_awp Tryz.func69 rfl (by decide +kernel) mixed Tryz.ntmps69 Tryz.results69 ?_
  refine zE ?_
  refine zs ?_;try exact trivial
  refine c_dec (fun h1 => ?_) (fun h1 => ?_)
  · cases d : decide (-2147483648 ≤ arg)
    · simp (maxSteps:=2000000) (disch:=omega) only [go_sem,Nat.reduceAdd,Nat.reduceSub,Nat.reduceMul,Nat.reduceBEq,Nat.reduceEqDiff,Nat.reduceLT,Nat.reduceLeDiff,Nat.reduceDiv,reduceIte,reduceCtorEq, d]
      congr 1
      exact mayP_fin (by simp_all [mayP] <;> omega)
    simp (maxSteps:=2000000) (disch:=omega) only [go_sem,Nat.reduceAdd,Nat.reduceSub,Nat.reduceMul,Nat.reduceBEq,Nat.reduceEqDiff,Nat.reduceLT,Nat.reduceLeDiff,Nat.reduceDiv,reduceIte,reduceCtorEq, d]
    congr 1
    exact mayP_fin (by simp_all [mayP] <;> omega)
  refine zs ?_;try exact trivial
  refine c_dec (fun h2 => ?_) (fun h2 => ?_)
  · refine zs ?_;try exact trivial
    refine c_dec (fun _ => ?_) (fun h => absurd h2 h)
    cases d : decide (0 ≤ arg)
    · simp (maxSteps:=2000000) (disch:=omega) only [go_sem,Nat.reduceAdd,Nat.reduceSub,Nat.reduceMul,Nat.reduceBEq,Nat.reduceEqDiff,Nat.reduceLT,Nat.reduceLeDiff,Nat.reduceDiv,reduceIte,reduceCtorEq, d]
      congr 1
      exact mayP_fin (by simp_all [mayP] <;> omega)
    simp (maxSteps:=2000000) (disch:=omega) only [go_sem,Nat.reduceAdd,Nat.reduceSub,Nat.reduceMul,Nat.reduceBEq,Nat.reduceEqDiff,Nat.reduceLT,Nat.reduceLeDiff,Nat.reduceDiv,reduceIte,reduceCtorEq, d]
    congr 1
    exact mayP_fin (by simp_all [mayP] <;> omega)
  refine zs ?_;try exact trivial
  refine c_dec (fun h2' => ?_) (fun h2' => ?_)
  · cases d : decide (0 ≤ arg)
    · simp (maxSteps:=2000000) (disch:=omega) only [go_sem,Nat.reduceAdd,Nat.reduceSub,Nat.reduceMul,Nat.reduceBEq,Nat.reduceEqDiff,Nat.reduceLT,Nat.reduceLeDiff,Nat.reduceDiv,reduceIte,reduceCtorEq, d]
      congr 1
      exact mayP_fin (by simp_all [mayP] <;> omega)
    simp (maxSteps:=2000000) (disch:=omega) only [go_sem,Nat.reduceAdd,Nat.reduceSub,Nat.reduceMul,Nat.reduceBEq,Nat.reduceEqDiff,Nat.reduceLT,Nat.reduceLeDiff,Nat.reduceDiv,reduceIte,reduceCtorEq, d]
    congr 1
    exact mayP_fin (by simp_all [mayP] <;> omega)
  refine zs ?_;try exact trivial
  refine c_dec (fun h3 => ?_) (fun h3 => ?_)
  · cases d : decide (arg = 0)
    · simp (maxSteps:=2000000) (disch:=omega) only [go_sem,Nat.reduceAdd,Nat.reduceSub,Nat.reduceMul,Nat.reduceBEq,Nat.reduceEqDiff,Nat.reduceLT,Nat.reduceLeDiff,Nat.reduceDiv,reduceIte,reduceCtorEq, d]
      congr 1
      exact mayP_fin (by simp_all [mayP] <;> omega)
    simp (maxSteps:=2000000) (disch:=omega) only [go_sem,Nat.reduceAdd,Nat.reduceSub,Nat.reduceMul,Nat.reduceBEq,Nat.reduceEqDiff,Nat.reduceLT,Nat.reduceLeDiff,Nat.reduceDiv,reduceIte,reduceCtorEq, d]
    congr 1
    exact mayP_fin (by simp_all [mayP] <;> omega)
  refine zs ?_;try exact trivial
  refine c_dec (fun h4 => ?_) (fun h4 => ?_)
  · refine zs ?_;try exact trivial
    refine c_dec (fun _ => ?_) (fun h => absurd h4 h)
    cases d : decide (0 ≤ arg)
    · simp (maxSteps:=2000000) (disch:=omega) only [go_sem,Nat.reduceAdd,Nat.reduceSub,Nat.reduceMul,Nat.reduceBEq,Nat.reduceEqDiff,Nat.reduceLT,Nat.reduceLeDiff,Nat.reduceDiv,reduceIte,reduceCtorEq, d]
      congr 1
      exact mayP_fin (by simp_all [mayP] <;> omega)
    simp (maxSteps:=2000000) (disch:=omega) only [go_sem,Nat.reduceAdd,Nat.reduceSub,Nat.reduceMul,Nat.reduceBEq,Nat.reduceEqDiff,Nat.reduceLT,Nat.reduceLeDiff,Nat.reduceDiv,reduceIte,reduceCtorEq, d]
    congr 1
    exact mayP_fin (by simp_all [mayP] <;> omega)
  refine zs ?_;try exact trivial
  refine c_dec (fun h4' => ?_) (fun h4' => ?_)
  · cases d : decide (0 ≤ arg)
    · simp (maxSteps:=2000000) (disch:=omega) only [go_sem,Nat.reduceAdd,Nat.reduceSub,Nat.reduceMul,Nat.reduceBEq,Nat.reduceEqDiff,Nat.reduceLT,Nat.reduceLeDiff,Nat.reduceDiv,reduceIte,reduceCtorEq, d]
      congr 1
      exact mayP_fin (by simp_all [mayP] <;> omega)
    simp (maxSteps:=2000000) (disch:=omega) only [go_sem,Nat.reduceAdd,Nat.reduceSub,Nat.reduceMul,Nat.reduceBEq,Nat.reduceEqDiff,Nat.reduceLT,Nat.reduceLeDiff,Nat.reduceDiv,reduceIte,reduceCtorEq, d]
    congr 1
    exact mayP_fin (by simp_all [mayP] <;> omega)
  refine zs ?_;try exact trivial
  refine c_dec (fun h5 => ?_) (fun h5 => ?_)
  · cases d : decide (0 ≤ arg)
    · simp (maxSteps:=2000000) (disch:=omega) only [go_sem,Nat.reduceAdd,Nat.reduceSub,Nat.reduceMul,Nat.reduceBEq,Nat.reduceEqDiff,Nat.reduceLT,Nat.reduceLeDiff,Nat.reduceDiv,reduceIte,reduceCtorEq, d]
      congr 1
      exact mayP_fin (by simp_all [mayP] <;> omega)
    simp (maxSteps:=2000000) (disch:=omega) only [go_sem,Nat.reduceAdd,Nat.reduceSub,Nat.reduceMul,Nat.reduceBEq,Nat.reduceEqDiff,Nat.reduceLT,Nat.reduceLeDiff,Nat.reduceDiv,reduceIte,reduceCtorEq, d]
    congr 1
    exact mayP_fin (by simp_all [mayP] <;> omega)
  refine zs ?_;try exact trivial
  cases d : decide (1 ≤ op)
  · simp (maxSteps:=2000000) (disch:=omega) only [go_sem,Nat.reduceAdd,Nat.reduceSub,Nat.reduceMul,Nat.reduceBEq,Nat.reduceEqDiff,Nat.reduceLT,Nat.reduceLeDiff,Nat.reduceDiv,reduceIte,reduceCtorEq, d]
    congr 1
    exact mayP_fin (by simp_all [mayP] <;> omega)
  cases d2 : decide (op ≤ 22)
  · simp (maxSteps:=2000000) (disch:=omega) only [go_sem,Nat.reduceAdd,Nat.reduceSub,Nat.reduceMul,Nat.reduceBEq,Nat.reduceEqDiff,Nat.reduceLT,Nat.reduceLeDiff,Nat.reduceDiv,reduceIte,reduceCtorEq, d, d2]
    congr 1
    exact mayP_fin (by simp_all [mayP] <;> omega)
  simp (maxSteps:=2000000) (disch:=omega) only [go_sem,Nat.reduceAdd,Nat.reduceSub,Nat.reduceMul,Nat.reduceBEq,Nat.reduceEqDiff,Nat.reduceLT,Nat.reduceLeDiff,Nat.reduceDiv,reduceIte,reduceCtorEq, d, d2]
  congr 1
  exact mayP_fin (by simp_all [mayP] <;> omega)
theorem isOp_h (op : Int) : Holds Tryz.prog 99 [.int .i64 op] [] (fun r h' => r = V.bool (decide (1 ≤ op) && decide (op ≤ 22)) ∧ h' = []) := by
  refine holds_of_awp Tryz.func99 rfl (by decide +kernel) mixed Tryz.ntmps99 Tryz.results99 ?_
  refine zE ?_
  cases d : decide (1 ≤ op)
  · simp (maxSteps:=2000000) (disch:=omega) only [go_sem,Nat.reduceAdd,Nat.reduceSub,Nat.reduceMul,Nat.reduceBEq,Nat.reduceEqDiff,Nat.reduceLT,Nat.reduceLeDiff,Nat.reduceDiv,reduceIte,reduceCtorEq, d]
    rfl
  simp (maxSteps:=2000000) (disch:=omega) only [go_sem,Nat.reduceAdd,Nat.reduceSub,Nat.reduceMul,Nat.reduceBEq,Nat.reduceEqDiff,Nat.reduceLT,Nat.reduceLeDiff,Nat.reduceDiv,reduceIte,reduceCtorEq, d]
theorem number_h (arg n : Int) : Holds Tryz.prog 106 [.int .i64 arg, .int .i64 n] [] (fun r h' => r = V.bool (decide (-2147483648 ≤ arg) && decide (arg ≤ 2147483647)) ∧ h' = []) := by
  refine holds_of_awp Tryz.func106 rfl (by decide +kernel) mixed Tryz.ntmps106 Tryz.results106 ?_
  refine zE ?_
  cases d : decide (-2147483648 ≤ arg)
  · simp (maxSteps:=2000000) (disch:=omega) only [go_sem,Nat.reduceAdd,Nat.reduceSub,Nat.reduceMul,Nat.reduceBEq,Nat.reduceEqDiff,Nat.reduceLT,Nat.reduceLeDiff,Nat.reduceDiv,reduceIte,reduceCtorEq, d]
    rfl
  simp (maxSteps:=2000000) (disch:=omega) only [go_sem,Nat.reduceAdd,Nat.reduceSub,Nat.reduceMul,Nat.reduceBEq,Nat.reduceEqDiff,Nat.reduceLT,Nat.reduceLeDiff,Nat.reduceDiv,reduceIte,reduceCtorEq, d]
theorem place_h (arg n : Int) : Holds Tryz.prog 107 [.int .i64 arg, .int .i64 n] [] (fun r h' => r = V.bool (decide (0 ≤ arg) && decide (arg ≤ n)) ∧ h' = []) := by
  refine holds_of_awp Tryz.func107 rfl (by decide +kernel) mixed Tryz.ntmps107 Tryz.results107 ?_
  refine zE ?_
  cases d : decide (0 ≤ arg)
  · simp (maxSteps:=2000000) (disch:=omega) only [go_sem,Nat.reduceAdd,Nat.reduceSub,Nat.reduceMul,Nat.reduceBEq,Nat.reduceEqDiff,Nat.reduceLT,Nat.reduceLeDiff,Nat.reduceDiv,reduceIte,reduceCtorEq, d]
    rfl
  simp (maxSteps:=2000000) (disch:=omega) only [go_sem,Nat.reduceAdd,Nat.reduceSub,Nat.reduceMul,Nat.reduceBEq,Nat.reduceEqDiff,Nat.reduceLT,Nat.reduceLeDiff,Nat.reduceDiv,reduceIte,reduceCtorEq, d]
theorem upTo1_h (arg n m : Int) : Holds Tryz.prog 112 [.int .i64 arg, .int .i64 n, .ptr (.arg 0) 0] [(.arg 0, [.val (.int .i64 m)])] (fun r h' => r = V.bool (decide (0 ≤ arg) && decide (arg ≤ m)) ∧ h' = [(.arg 0, [.val (.int .i64 m)])]) := by
  refine holds_of_awp Tryz.func112 rfl (by decide +kernel) mixed Tryz.ntmps112 Tryz.results112 ?_
  refine zE ?_
  cases d : decide (0 ≤ arg)
  · simp (maxSteps:=2000000) (disch:=omega) only [go_sem,Nat.reduceAdd,Nat.reduceSub,Nat.reduceMul,Nat.reduceBEq,Nat.reduceEqDiff,Nat.reduceLT,Nat.reduceLeDiff,Nat.reduceDiv,reduceIte,reduceCtorEq, d]
    rfl
  simp (maxSteps:=2000000) (disch:=omega) only [go_sem,Nat.reduceAdd,Nat.reduceSub,Nat.reduceMul,Nat.reduceBEq,Nat.reduceEqDiff,Nat.reduceLT,Nat.reduceLeDiff,Nat.reduceDiv,reduceIte,reduceCtorEq, d]
theorem upTo_h (m : Int) : Holds Tryz.prog 105 [.int .i64 m] [] (fun r h' => r = V.cell (.fn (.func 112) [] [(.loc [1], 0)]) ∧ h' = [(.loc [1], [.val (.int .i64 m)])]) := by
  refine holds_of_awp Tryz.func105 rfl (by decide +kernel) mixed Tryz.ntmps105 Tryz.results105 ?_
  refine zE ?_
  refine zs ?_;try exact trivial
end
section
set_option maxRecDepth 20000
/-! ### the table's cells, and the boxes that its closures hold -/
def tblC (a b c d e : Id) : List C := [.val (.string { data := #[] }), .val (.bool false), .val .nilFunc, .val (.string (strB [112, 117, 115, 104])), .val (.bool true), .fn (.func 106) [] [], .val (.string (strB [108, 111, 97, 100])), .val (.bool true), .fn (.func 112) [] [(b, 0)], .val (.string (strB [115, 116, 111, 114, 101])), .val (.bool true), .fn (.func 112) [] [(c, 0)], .val (.string (strB [97, 100, 100])), .val (.bool false), .fn (.func 112) [] [(a, 0)], .val (.string (strB [115, 117, 98])), .val (.bool false), .fn (.func 112) [] [(a, 0)], .val (.string (strB [109, 117, 108])), .val (.bool false), .fn (.func 112) [] [(a, 0)], .val (.string (strB [100, 105, 118])), .val (.bool false), .fn (.func 112) [] [(a, 0)], .val (.string (strB [109, 105, 110])), .val (.bool false), .fn (.func 112) [] [(a, 0)], .val (.string (strB [109, 97, 120])), .val (.bool false), .fn (.func 112) [] [(a, 0)], .val (.string (strB [108, 101, 115, 115])), .val (.bool false), .fn (.func 112) [] [(a, 0)], .val (.string (strB [115, 97, 109, 101])), .val (.bool false), .fn (.func 112) [] [(a, 0)], .val (.string (strB [110, 111, 116])), .val (.bool false), .fn (.func 112) [] [(a, 0)], .val (.string (strB [100, 117, 112])), .val (.bool false), .fn (.func 112) [] [(a, 0)], .val (.string (strB [115, 119, 97, 112])), .val (.bool false), .fn (.func 112) [] [(a, 0)], .val (.string (strB [100, 114, 111, 112])), .val (.bool false), .fn (.func 112) [] [(a, 0)], .val (.string (strB [105, 110])), .val (.bool true), .fn (.func 112) [] [(d, 0)], .val (.string (strB [102, 114, 97, 109, 101])), .val (.bool false), .fn (.func 112) [] [(a, 0)], .val (.string (strB [106, 117, 109, 112])), .val (.bool true), .fn (.func 107) [] [], .val (.string (strB [122, 101, 114, 111])), .val (.bool true), .fn (.func 107) [] [], .val (.string (strB [119, 105, 110])), .val (.bool true), .fn (.func 112) [] [(e, 0)], .val (.string (strB [114, 97, 110, 100])), .val (.bool false), .fn (.func 112) [] [(a, 0)], .val (.string (strB [104, 97, 108, 116])), .val (.bool false), .fn (.func 112) [] [(a, 0)]]
def tblU (bi : Id → Bool) (bt : Tag → Bool) (a b c d e : Id) : List C := (tblC a b c d e).map (C.clean bi bt)
section
variable {a b c d e : Id} {V' : V → Prop} {r : List C} {ks : List Id} {m : Nat}
@[go_sem] theorem tbl_k {bi : Id → Bool} {bt : Tag → Bool} : (tblC a b c d e).map (C.clean bi bt) = if (bi a || bi b || bi c || bi d || bi e) = true then tblU bi bt a b c d e else tblC a b c d e := by
  split
  · rfl
  rename_i h
  simp only [Bool.or_eq_true, not_or, Bool.not_eq_true] at h
  simp [tblC, C.clean, h]
@[go_sem] theorem tbl_r : (tblC a b c d e).map (C.ren ks m) = tblC (renI ks m a) (renI ks m b) (renI ks m c) (renI ks m d) (renI ks m e) := nr rfl
@[go_sem] theorem tbl_n : (tblC a b c d e).all known = true := nr rfl
@[go_sem] theorem tbl_l : (tblC a b c d e).length = 69 := nr rfl
@[go_sem 1300] theorem tbl_s : spl [.val (.string { data := #[] }), .val (.bool false), .val .nilFunc, .val (.string { data := #[] }), .val (.bool false), .val .nilFunc, .val (.string { data := #[] }), .val (.bool false), .val .nilFunc, .val (.string { data := #[] }), .val (.bool false), .val .nilFunc, .val (.string { data := #[] }), .val (.bool false), .val .nilFunc, .val (.string { data := #[] }), .val (.bool false), .val .nilFunc, .val (.string { data := #[] }), .val (.bool false), .val .nilFunc, .val (.string { data := #[] }), .val (.bool false), .val .nilFunc, .val (.string { data := #[] }), .val (.bool false), .val .nilFunc, .val (.string { data := #[] }), .val (.bool false), .val .nilFunc, .val (.string { data := #[] }), .val (.bool false), .val .nilFunc, .val (.string { data := #[] }), .val (.bool false), .val .nilFunc, .val (.string { data := #[] }), .val (.bool false), .val .nilFunc, .val (.string { data := #[] }), .val (.bool false), .val .nilFunc, .val (.string { data := #[] }), .val (.bool false), .val .nilFunc, .val (.string { data := #[] }), .val (.bool false), .val .nilFunc, .val (.string { data := #[] }), .val (.bool false), .val .nilFunc, .val (.string { data := #[] }), .val (.bool false), .val .nilFunc, .val (.string { data := #[] }), .val (.bool false), .val .nilFunc, .val (.string { data := #[] }), .val (.bool false), .val .nilFunc, .val (.string { data := #[] }), .val (.bool false), .val .nilFunc, .val (.string { data := #[] }), .val (.bool false), .val .nilFunc, .val (.string { data := #[] }), .val (.bool false), .val .nilFunc] 0 (tblC a b c d e) = tblC a b c d e := spl_all rfl
@[go_sem ↓] theorem tbl_w {l : List V} {hp : Heap} {i : Id} {off : Nat} {cs : List C} : St.stow ⟨l, hp⟩ i off cs (tblC a b c d e) = ⟨l, hset hp i (spl cs off (tblC a b c d e))⟩ := by
  have eq : (tblC a b c d e).map (C.clean (fun _ => false) fun _ => true) = tblC a b c d e := by rw [tbl_k]; rfl
  rw [stow_big (show 2 ≤ (tblC a b c d e).length by rw [tbl_l]; omega), eq]
end
abbrev tblH (a b c d e : Id) : Heap := [(e, [.val (.int .i64 2)]), (d, [.val (.int .i64 1)]), (c, [.val (.int .i64 15)]), (b, [.val (.int .i64 15)]), (a, [.val (.int .i64 0)])]
/-- what tells which argument an op may have -/
def mayC (a b c d e : Id) (op : Nat) : C :=
  if op = 1 then .fn (.func 106) [] []
  else if op = 2 then .fn (.func 112) [] [(b, 0)]
  else if op = 3 then .fn (.func 112) [] [(c, 0)]
  else if op = 16 then .fn (.func 112) [] [(d, 0)]
  else if op = 18 ∨ op = 19 then .fn (.func 107) [] []
  else if op = 20 then .fn (.func 112) [] [(e, 0)]
  else .fn (.func 112) [] [(a, 0)]
theorem tbl_may {a b c d e : Id} {op : Nat} (h1 : 1 ≤ op) (h2 : op ≤ 22) : (tblC a b c d e)[op * 3 + 2]? = some (mayC a b c d e op) := by
  have : op = 1 ∨ op = 2 ∨ op = 3 ∨ op = 4 ∨ op = 5 ∨ op = 6 ∨ op = 7 ∨ op = 8 ∨ op = 9 ∨ op = 10 ∨ op = 11 ∨ op = 12 ∨ op = 13 ∨ op = 14 ∨ op = 15 ∨ op = 16 ∨ op = 17 ∨ op = 18 ∨ op = 19 ∨ op = 20 ∨ op = 21 ∨ op = 22 := by omega
  rcases this with rfl | rfl | rfl | rfl | rfl | rfl | rfl | rfl | rfl | rfl | rfl | rfl | rfl | rfl | rfl | rfl | rfl | rfl | rfl | rfl | rfl | rfl <;> rfl
theorem ex_some9 {α : Type} {q : Option α} {x : α} {K : α → Prop} (h : q = some x) : (∃ c, q = some c ∧ K c) = K x := by subst h; simp
@[go_sem ↓ 1300] theorem m_may {a b c d e : Id} {op : Nat} {K : C → Prop} (h1 : 1 ≤ op) (h2 : op ≤ 22) : (∃ x, (tblC a b c d e)[op * 3 + 2]? = some x ∧ K x) = K (mayC a b c d e op) := ex_some9 (tbl_may h1 h2)
set_option maxHeartbeats 2000000 in
theorem table_h : Holds Tryz.prog 98 [] [] (fun r h' => r = .w (.agg (tblC (.loc [2, 0, 1]) (.loc [4, 0, 1]) (.loc [6, 0, 1]) (.loc [32, 0, 1]) (.loc [38, 0, 1]))) ∧ h' = tblH (.loc [2, 0, 1]) (.loc [4, 0, 1]) (.loc [6, 0, 1]) (.loc [32, 0, 1]) (.loc [38, 0, 1])) := by
  refine holds_of_awp Tryz.func98 rfl (by decide +kernel) mixed Tryz.ntmps98 Tryz.results98 ?_
  refine zE ?_
  unfold tblC
  refine zs ?_;try exact trivial
  refine a_call [] (upTo_h 0) ok0 ?_ ?_ ?_
  · refine zs ?_;try exact trivial
  · refine zs ?_;try exact trivial
  rintro _ _ ⟨rfl, rfl⟩
  refine zs ?_;try exact trivial
  refine a_call [] (upTo_h 15) ok0 ?_ ?_ ?_
  · refine zs ?_;try exact trivial
  · refine zs ?_;try exact trivial
  rintro _ _ ⟨rfl, rfl⟩
  refine zs ?_;try exact trivial
  refine a_call [] (upTo_h 15) ok0 ?_ ?_ ?_
  · refine zs ?_;try exact trivial
  · refine zs ?_;try exact trivial
  rintro _ _ ⟨rfl, rfl⟩
  refine zs ?_;try exact trivial
  refine a_call [] (upTo_h 1) ok0 ?_ ?_ ?_
  · refine zs ?_;try exact trivial
  · refine zs ?_;try exact trivial
  rintro _ _ ⟨rfl, rfl⟩
  refine zs ?_;try exact trivial
  refine a_call [] (upTo_h 2) ok0 ?_ ?_ ?_
  · refine zs ?_;try exact trivial
  · refine zs ?_;try exact trivial
  rintro _ _ ⟨rfl, rfl⟩
  refine zs ?_;try exact trivial
  try (refine zs ?_; try exact trivial)
  exact leCs_refl _
end
section
theorem rcheck_h (l : List (Int × Int)) (hl : l.length ≤ 9223372036854775807) : Holds Tryz.prog 51 [.c (.lst .no none 2 (ins l))] [] (fun r h' => r = .tup [.int .i64 (chkP l).1, .int .i64 (chkP l).2] ∧ h' = []) := by
  refine holds_of_awp Tryz.func51 rfl (by decide +kernel) mixed Tryz.ntmps51 Tryz.results51 ?_
  refine zE ?_
  refine zs ?_;try exact trivial
  refine c_dec (fun h => ?_) (fun h => ?_)
  · rw [chkP_long (by omega)]
    refine zs ?_;try exact trivial
  refine a_loopk (fun i : Nat => ⟨[V.cell (.lst .no none 2 (ins l)), U, U, U, V.int .i64 i, U, U, U, U, U, U, U, U, U, U, U, U, U, U, U, U, U, .undef], []⟩) (fun i => i ≤ l.length ∧ i ≤ firstBad l l.length) (l.length - ·) 0 ⟨by omega, by omega⟩ ?_ ?_
  · try (refine zs ?_; try exact trivial)
  rintro i ⟨hi, hb⟩
  refine zs ?_;try exact trivial
  refine c_dec (fun h2 => ?_) (fun h2 => ?_)
  · refine zs ?_;try exact trivial
    refine a_call [] (rmay_h (gi l i).1 (gi l i).2 l.length) ok0 ?_ ?_ ?_
    · refine zs ?_;try exact trivial
    · refine zs ?_;try exact trivial
    rintro _ _ ⟨rfl, rfl⟩
    cases dm : mayP (gi l i).1 (gi l i).2 l.length
    · have e := chkP_bad (by omega) hb (by omega) dm
      rw [e]
      simp (maxSteps:=2000000) (disch:=omega) only [go_sem,Nat.reduceAdd,Nat.reduceSub,Nat.reduceMul,Nat.reduceBEq,Nat.reduceEqDiff,Nat.reduceLT,Nat.reduceLeDiff,Nat.reduceDiv,reduceIte,reduceCtorEq, dm]
    simp (maxSteps:=2000000) (disch:=omega) only [go_sem,Nat.reduceAdd,Nat.reduceSub,Nat.reduceMul,Nat.reduceBEq,Nat.reduceEqDiff,Nat.reduceLT,Nat.reduceLeDiff,Nat.reduceDiv,reduceIte,reduceCtorEq, dm]
    exact ⟨i + 1, by omega, ⟨by omega, firstBad_up hb (by omega) dm⟩, by congr 1⟩
  have e : i = l.length := by omega
  subst e
  rw [chkP_ok (by omega) hb]
  refine zs ?_;try exact trivial
set_option maxRecDepth 20000 in
set_option maxHeartbeats 2000000 in
theorem check_h9 (l : List (Int × Int)) (hl : l.length ≤ 9223372036854775807) : Holds Tryz.prog 70 [.c (.lst .no none 2 (ins l))] [] (fun r h' => r = .tup [.int .i64 (chkP l).1, .int .i64 (chkP l).2] ∧ h' = []) := by
  refine holds_of_awp Tryz.func70 rfl (by decide +kernel) mixed Tryz.ntmps70 Tryz.results70 ?_
  refine zE ?_
  refine zs ?_;try exact trivial
  refine c_dec (fun h => ?_) (fun h => ?_)
  · rw [chkP_long (by omega)]
    refine zs ?_;try exact trivial
  refine zs ?_;try exact trivial
  refine a_call [] (table_h) ok0 ?_ ?_ ?_
  · refine zs ?_;try exact trivial
  · refine zs ?_;try exact trivial
  rintro _ _ ⟨rfl, rfl⟩
  refine zs ?_;try exact trivial
  refine a_loopk (fun i : Nat => ⟨[V.cell (.lst .no none 2 (ins l)), U, U, U, V.cell (.ptr (.loc [4]) 0), U, U, U, U, U, U, V.cell (.lst .no none 2 (ins l)), V.int .i64 l.length, V.int .i64 i, U, U, U, U, U, U, U, U, U, U, U, U, U, U, U, U, U, U, U, U, U, U, .undef], (.loc [4], tblC (.loc [10, 0, 2, 0, 1]) (.loc [10, 0, 4, 0, 1]) (.loc [10, 0, 6, 0, 1]) (.loc [10, 0, 32, 0, 1]) (.loc [10, 0, 38, 0, 1])) :: tblH (.loc [10, 0, 2, 0, 1]) (.loc [10, 0, 4, 0, 1]) (.loc [10, 0, 6, 0, 1]) (.loc [10, 0, 32, 0, 1]) (.loc [10, 0, 38, 0, 1])⟩) (fun i => i ≤ l.length ∧ i ≤ firstBad l l.length) (l.length - ·) 0 ⟨by omega, by omega⟩ ?_ ?_
  · try (refine zs ?_; try exact trivial)
  rintro i ⟨hi, hb⟩
  refine zs ?_;try exact trivial
  refine c_dec (fun h2 => ?_) (fun h2 => ?_)
  · have hs := firstBad_up hb (by omega)
    have hx := chkP_bad (l := l) (i := i) (by omega) hb (by omega)
    refine zs ?_;try exact trivial
    generalize gi l i = x at *
    obtain ⟨op, arg⟩ := x
    refine a_drawC (⟨[V.cell (.lst .no none 2 (ins l)), U, U, U, V.cell (.ptr (.loc [4]) 0), V.int .i64 i, U, U, U, U, U, V.cell (.lst .no none 2 (ins l)), V.int .i64 l.length, V.int .i64 i, U, U, U, U, U, U, U, U, U, U, U, U, U, U, U, U, U, U, U, U, V.bool (!mayP op arg l.length), .undef, .undef], (.loc [4], tblC (.loc [10, 0, 2, 0, 1]) (.loc [10, 0, 4, 0, 1]) (.loc [10, 0, 6, 0, 1]) (.loc [10, 0, 32, 0, 1]) (.loc [10, 0, 38, 0, 1])) :: tblH (.loc [10, 0, 2, 0, 1]) (.loc [10, 0, 4, 0, 1]) (.loc [10, 0, 6, 0, 1]) (.loc [10, 0, 32, 0, 1]) (.loc [10, 0, 38, 0, 1])⟩) (.take 0 (.both [(1, .both [(2, .take 3 (.take 4 (.take 5 (.take 10 (.take 12 (.take 13 (.both [(6, .take 7 (.take 8 (.both [(9, .both [(11, .both [(14, .take 15 (.take 16 (.done)))])]), (11, .both [(9, .both [(14, .take 15 (.take 16 (.done)))])])]))), (11, .both [(6, .take 7 (.take 8 (.both [(9, .both [(14, .take 15 (.take 16 (.done)))])])))])])))))))])])) (by kernel_rfl) (by kernel_rfl) ?_ ?_
    · refine zs ?_;try exact trivial
      refine a_call [] (isOp_h op) ok0 ?_ ?_ ?_
      · refine zs ?_;try exact trivial
      · refine zs ?_;try exact trivial
      rintro _ _ ⟨rfl, rfl⟩
      by_cases ho : 1 ≤ op ∧ op ≤ 22
      · have d : (decide (1 ≤ op) && decide (op ≤ 22)) = true := by simp [ho]
        have ho1 := ho.1
        have ho2 := ho.2
        simp (maxSteps:=2000000) (disch:=omega) only [go_sem,Nat.reduceAdd,Nat.reduceSub,Nat.reduceMul,Nat.reduceBEq,Nat.reduceEqDiff,Nat.reduceLT,Nat.reduceLeDiff,Nat.reduceDiv,reduceIte,reduceCtorEq, d]
        by_cases q1 : op = 1
        · have hm : mayC (.loc [10, 0, 2, 0, 1]) (.loc [10, 0, 4, 0, 1]) (.loc [10, 0, 6, 0, 1]) (.loc [10, 0, 32, 0, 1]) (.loc [10, 0, 38, 0, 1]) op.toNat = .fn (.func 106) [] [] := by
            have q' : op.toNat = 1 := by omega
            simp [mayC, q']
          have dm : mayP op arg l.length = (decide (-2147483648 ≤ arg) && decide (arg ≤ 2147483647)) := by simp [mayP, q1]
          simp (maxSteps:=2000000) (disch:=omega) only [go_sem,Nat.reduceAdd,Nat.reduceSub,Nat.reduceMul,Nat.reduceBEq,Nat.reduceEqDiff,Nat.reduceLT,Nat.reduceLeDiff,Nat.reduceDiv,reduceIte,reduceCtorEq, hm]
          refine a_call [] (number_h arg l.length) ok0 ?_ ?_ ?_
          · refine zs ?_;try exact trivial
          · refine zs ?_;try exact trivial
          rintro _ _ ⟨rfl, rfl⟩
          simp (maxSteps:=2000000) (disch:=omega) only [go_sem,Nat.reduceAdd,Nat.reduceSub,Nat.reduceMul,Nat.reduceBEq,Nat.reduceEqDiff,Nat.reduceLT,Nat.reduceLeDiff,Nat.reduceDiv,reduceIte,reduceCtorEq, dm]
        by_cases q2 : op = 2
        · have hm : mayC (.loc [10, 0, 2, 0, 1]) (.loc [10, 0, 4, 0, 1]) (.loc [10, 0, 6, 0, 1]) (.loc [10, 0, 32, 0, 1]) (.loc [10, 0, 38, 0, 1]) op.toNat = .fn (.func 112) [] [(.loc [10, 0, 4, 0, 1], 0)] := by
            have q' : op.toNat = 2 := by omega
            simp [mayC, q']
          have dm : mayP op arg l.length = (decide (0 ≤ arg) && decide (arg ≤ 15)) := by simp [mayP, q2]
          simp (maxSteps:=2000000) (disch:=omega) only [go_sem,Nat.reduceAdd,Nat.reduceSub,Nat.reduceMul,Nat.reduceBEq,Nat.reduceEqDiff,Nat.reduceLT,Nat.reduceLeDiff,Nat.reduceDiv,reduceIte,reduceCtorEq, hm]
          refine a_call [.loc [10, 0, 4, 0, 1]] (upTo1_h arg l.length 15) (ok1 rfl) ?_ ?_ ?_
          · refine zs ?_;try exact trivial
          · refine zs ?_;try exact trivial
          rintro _ _ ⟨rfl, rfl⟩
          simp (maxSteps:=2000000) (disch:=omega) only [go_sem,Nat.reduceAdd,Nat.reduceSub,Nat.reduceMul,Nat.reduceBEq,Nat.reduceEqDiff,Nat.reduceLT,Nat.reduceLeDiff,Nat.reduceDiv,reduceIte,reduceCtorEq, dm]
        by_cases q3 : op = 3
        · have hm : mayC (.loc [10, 0, 2, 0, 1]) (.loc [10, 0, 4, 0, 1]) (.loc [10, 0, 6, 0, 1]) (.loc [10, 0, 32, 0, 1]) (.loc [10, 0, 38, 0, 1]) op.toNat = .fn (.func 112) [] [(.loc [10, 0, 6, 0, 1], 0)] := by
            have q' : op.toNat = 3 := by omega
            simp [mayC, q']
          have dm : mayP op arg l.length = (decide (0 ≤ arg) && decide (arg ≤ 15)) := by simp [mayP, q3]
          simp (maxSteps:=2000000) (disch:=omega) only [go_sem,Nat.reduceAdd,Nat.reduceSub,Nat.reduceMul,Nat.reduceBEq,Nat.reduceEqDiff,Nat.reduceLT,Nat.reduceLeDiff,Nat.reduceDiv,reduceIte,reduceCtorEq, hm]
          refine a_call [.loc [10, 0, 6, 0, 1]] (upTo1_h arg l.length 15) (ok1 rfl) ?_ ?_ ?_
          · refine zs ?_;try exact trivial
          · refine zs ?_;try exact trivial
          rintro _ _ ⟨rfl, rfl⟩
          simp (maxSteps:=2000000) (disch:=omega) only [go_sem,Nat.reduceAdd,Nat.reduceSub,Nat.reduceMul,Nat.reduceBEq,Nat.reduceEqDiff,Nat.reduceLT,Nat.reduceLeDiff,Nat.reduceDiv,reduceIte,reduceCtorEq, dm]
        by_cases q16 : op = 16
        · have hm : mayC (.loc [10, 0, 2, 0, 1]) (.loc [10, 0, 4, 0, 1]) (.loc [10, 0, 6, 0, 1]) (.loc [10, 0, 32, 0, 1]) (.loc [10, 0, 38, 0, 1]) op.toNat = .fn (.func 112) [] [(.loc [10, 0, 32, 0, 1], 0)] := by
            have q' : op.toNat = 16 := by omega
            simp [mayC, q']
          have dm : mayP op arg l.length = (decide (0 ≤ arg) && decide (arg ≤ 1)) := by simp [mayP, q16]
          simp (maxSteps:=2000000) (disch:=omega) only [go_sem,Nat.reduceAdd,Nat.reduceSub,Nat.reduceMul,Nat.reduceBEq,Nat.reduceEqDiff,Nat.reduceLT,Nat.reduceLeDiff,Nat.reduceDiv,reduceIte,reduceCtorEq, hm]
          refine a_call [.loc [10, 0, 32, 0, 1]] (upTo1_h arg l.length 1) (ok1 rfl) ?_ ?_ ?_
          · refine zs ?_;try exact trivial
          · refine zs ?_;try exact trivial
          rintro _ _ ⟨rfl, rfl⟩
          simp (maxSteps:=2000000) (disch:=omega) only [go_sem,Nat.reduceAdd,Nat.reduceSub,Nat.reduceMul,Nat.reduceBEq,Nat.reduceEqDiff,Nat.reduceLT,Nat.reduceLeDiff,Nat.reduceDiv,reduceIte,reduceCtorEq, dm]
        by_cases q18 : op = 18 ∨ op = 19
        · have hm : mayC (.loc [10, 0, 2, 0, 1]) (.loc [10, 0, 4, 0, 1]) (.loc [10, 0, 6, 0, 1]) (.loc [10, 0, 32, 0, 1]) (.loc [10, 0, 38, 0, 1]) op.toNat = .fn (.func 107) [] [] := by
            have q' : op.toNat = 18 ∨ op.toNat = 19 := by omega
            have q'' : ¬ op.toNat = 1 ∧ ¬ op.toNat = 2 ∧ ¬ op.toNat = 3 ∧ ¬ op.toNat = 16 := by omega
            simp [mayC, q', q'']
          have dm : mayP op arg l.length = (decide (0 ≤ arg) && decide (arg ≤ l.length)) := by simp [mayP, q18, q1, q2, q3, q16]
          simp (maxSteps:=2000000) (disch:=omega) only [go_sem,Nat.reduceAdd,Nat.reduceSub,Nat.reduceMul,Nat.reduceBEq,Nat.reduceEqDiff,Nat.reduceLT,Nat.reduceLeDiff,Nat.reduceDiv,reduceIte,reduceCtorEq, hm]
          refine a_call [] (place_h arg l.length) ok0 ?_ ?_ ?_
          · refine zs ?_;try exact trivial
          · refine zs ?_;try exact trivial
          rintro _ _ ⟨rfl, rfl⟩
          simp (maxSteps:=2000000) (disch:=omega) only [go_sem,Nat.reduceAdd,Nat.reduceSub,Nat.reduceMul,Nat.reduceBEq,Nat.reduceEqDiff,Nat.reduceLT,Nat.reduceLeDiff,Nat.reduceDiv,reduceIte,reduceCtorEq, dm]
        by_cases q20 : op = 20
        · have hm : mayC (.loc [10, 0, 2, 0, 1]) (.loc [10, 0, 4, 0, 1]) (.loc [10, 0, 6, 0, 1]) (.loc [10, 0, 32, 0, 1]) (.loc [10, 0, 38, 0, 1]) op.toNat = .fn (.func 112) [] [(.loc [10, 0, 38, 0, 1], 0)] := by
            have q' : op.toNat = 20 := by omega
            simp [mayC, q']
          have dm : mayP op arg l.length = (decide (0 ≤ arg) && decide (arg ≤ 2)) := by simp [mayP, q20]
          simp (maxSteps:=2000000) (disch:=omega) only [go_sem,Nat.reduceAdd,Nat.reduceSub,Nat.reduceMul,Nat.reduceBEq,Nat.reduceEqDiff,Nat.reduceLT,Nat.reduceLeDiff,Nat.reduceDiv,reduceIte,reduceCtorEq, hm]
          refine a_call [.loc [10, 0, 38, 0, 1]] (upTo1_h arg l.length 2) (ok1 rfl) ?_ ?_ ?_
          · refine zs ?_;try exact trivial
          · refine zs ?_;try exact trivial
          rintro _ _ ⟨rfl, rfl⟩
          simp (maxSteps:=2000000) (disch:=omega) only [go_sem,Nat.reduceAdd,Nat.reduceSub,Nat.reduceMul,Nat.reduceBEq,Nat.reduceEqDiff,Nat.reduceLT,Nat.reduceLeDiff,Nat.reduceDiv,reduceIte,reduceCtorEq, dm]
        have hm : mayC (.loc [10, 0, 2, 0, 1]) (.loc [10, 0, 4, 0, 1]) (.loc [10, 0, 6, 0, 1]) (.loc [10, 0, 32, 0, 1]) (.loc [10, 0, 38, 0, 1]) op.toNat = .fn (.func 112) [] [(.loc [10, 0, 2, 0, 1], 0)] := by
          have : ¬ op.toNat = 1 ∧ ¬ op.toNat = 2 ∧ ¬ op.toNat = 3 ∧ ¬ op.toNat = 16 ∧ ¬ (op.toNat = 18 ∨ op.toNat = 19) ∧ ¬ op.toNat = 20 := by omega
          simp [mayC, this]
        have dm : mayP op arg l.length = (decide (0 ≤ arg) && decide (arg ≤ 0)) := by
          unfold mayP
          rw [if_neg q1, if_neg (by omega), if_neg q16, if_neg q18, if_neg q20, d, Bool.true_and]
          rw [Bool.eq_iff_iff]
          simp
          omega
        simp (maxSteps:=2000000) (disch:=omega) only [go_sem,Nat.reduceAdd,Nat.reduceSub,Nat.reduceMul,Nat.reduceBEq,Nat.reduceEqDiff,Nat.reduceLT,Nat.reduceLeDiff,Nat.reduceDiv,reduceIte,reduceCtorEq, hm]
        refine a_call [.loc [10, 0, 2, 0, 1]] (upTo1_h arg l.length 0) (ok1 rfl) ?_ ?_ ?_
        · refine zs ?_;try exact trivial
        · refine zs ?_;try exact trivial
        rintro _ _ ⟨rfl, rfl⟩
        simp (maxSteps:=2000000) (disch:=omega) only [go_sem,Nat.reduceAdd,Nat.reduceSub,Nat.reduceMul,Nat.reduceBEq,Nat.reduceEqDiff,Nat.reduceLT,Nat.reduceLeDiff,Nat.reduceDiv,reduceIte,reduceCtorEq, dm]
      have d : (decide (1 ≤ op) && decide (op ≤ 22)) = false := by
        have := mayP_not (arg := 0) (n := 0) ho
        simp; omega
      have dm := mayP_not (arg := arg) (n := l.length) ho
      simp (maxSteps:=2000000) (disch:=omega) only [go_sem,Nat.reduceAdd,Nat.reduceSub,Nat.reduceMul,Nat.reduceBEq,Nat.reduceEqDiff,Nat.reduceLT,Nat.reduceLeDiff,Nat.reduceDiv,reduceIte,reduceCtorEq, d, dm]
    cases dm : mayP op arg l.length
    · rw [hx dm]
      simp (maxSteps:=2000000) (disch:=omega) only [go_sem,Nat.reduceAdd,Nat.reduceSub,Nat.reduceMul,Nat.reduceBEq,Nat.reduceEqDiff,Nat.reduceLT,Nat.reduceLeDiff,Nat.reduceDiv,reduceIte,reduceCtorEq, dm]
    simp (maxSteps:=2000000) (disch:=omega) only [go_sem,Nat.reduceAdd,Nat.reduceSub,Nat.reduceMul,Nat.reduceBEq,Nat.reduceEqDiff,Nat.reduceLT,Nat.reduceLeDiff,Nat.reduceDiv,reduceIte,reduceCtorEq, dm]
    exact ⟨i + 1, by omega, ⟨by omega, hs dm⟩, by congr 1⟩
  have e : i = l.length := by omega
  subst e
  rw [chkP_ok (by omega) hb]
  refine zs ?_;try exact trivial
end
section
/-- what is wrong with a game -/
def gameP (l : List (Int × Int)) (cap fuel : Int) : Int := if (chkP l).2 ≠ 0 then (chkP l).2 else if cap < 1 ∨ 600 < cap ∨ fuel < 1 ∨ 2000 < fuel then 1 else 0
abbrev W.game (l : List (Int × Int)) (cap fuel : Int) : W := .agg [.lst .no none 2 (ins l), .val (.int .i64 cap), .val (.int .i64 fuel)]
def startS (seed : UInt32) : Sta := stz 0 (UInt32.ofNat (max 1 (U32 seed)).toNat)
theorem gcheck_h (l : List (Int × Int)) (cap fuel : Int) (hl : l.length ≤ 9223372036854775807) : Holds Tryz.prog 52 [.game l cap fuel] [] (fun r h' => r = .int .i64 (gameP l cap fuel) ∧ h' = []) := by
  refine holds_of_awp Tryz.func52 rfl (by decide +kernel) mixed Tryz.ntmps52 Tryz.results52 ?_
  refine zE ?_
  refine zs ?_;try exact trivial
  refine a_call [] (check_h9 l hl) ok0 ?_ ?_ ?_
  · refine zs ?_;try exact trivial
  · refine zs ?_;try exact trivial
  rintro _ _ ⟨rfl, rfl⟩
  refine zs ?_;try exact trivial
  refine c_dec (fun h => ?_) (fun h => ?_)
  · have e : gameP l cap fuel = (chkP l).2 := by unfold gameP; rw [if_pos h]
    rw [e]
    refine zs ?_;try exact trivial
  have e0 : ¬ (chkP l).2 ≠ 0 := h
  refine zs ?_;try exact trivial
  cases d1 : decide (cap < 1)
  · cases d2 : decide (600 < cap)
    · cases d3 : decide (fuel < 1)
      · simp (maxSteps:=2000000) (disch:=omega) only [go_sem,Nat.reduceAdd,Nat.reduceSub,Nat.reduceMul,Nat.reduceBEq,Nat.reduceEqDiff,Nat.reduceLT,Nat.reduceLeDiff,Nat.reduceDiv,reduceIte,reduceCtorEq, d1, d2, d3]
        have f1 := of_decide_eq_false d1
        have f2 := of_decide_eq_false d2
        have f3 := of_decide_eq_false d3
        refine c_dec (fun h => ?_) (fun h => ?_)
        · have e : gameP l cap fuel = 1 := by unfold gameP; rw [if_neg e0, if_pos (by omega)]
          rw [e]
          refine zs ?_;try exact trivial
        have e : gameP l cap fuel = 0 := by unfold gameP; rw [if_neg e0, if_neg (by omega)]
        rw [e]
        refine zs ?_;try exact trivial
      have f := of_decide_eq_true d3
      have e : gameP l cap fuel = 1 := by unfold gameP; rw [if_neg e0, if_pos (by omega)]
      rw [e]
      simp (maxSteps:=2000000) (disch:=omega) only [go_sem,Nat.reduceAdd,Nat.reduceSub,Nat.reduceMul,Nat.reduceBEq,Nat.reduceEqDiff,Nat.reduceLT,Nat.reduceLeDiff,Nat.reduceDiv,reduceIte,reduceCtorEq, d1, d2, d3]
    have f := of_decide_eq_true d2
    have e : gameP l cap fuel = 1 := by unfold gameP; rw [if_neg e0, if_pos (by omega)]
    rw [e]
    simp (maxSteps:=2000000) (disch:=omega) only [go_sem,Nat.reduceAdd,Nat.reduceSub,Nat.reduceMul,Nat.reduceBEq,Nat.reduceEqDiff,Nat.reduceLT,Nat.reduceLeDiff,Nat.reduceDiv,reduceIte,reduceCtorEq, d1, d2]
  have f := of_decide_eq_true d1
  have e : gameP l cap fuel = 1 := by unfold gameP; rw [if_neg e0, if_pos (by omega)]
  rw [e]
  simp (maxSteps:=2000000) (disch:=omega) only [go_sem,Nat.reduceAdd,Nat.reduceSub,Nat.reduceMul,Nat.reduceBEq,Nat.reduceEqDiff,Nat.reduceLT,Nat.reduceLeDiff,Nat.reduceDiv,reduceIte,reduceCtorEq, d1]
theorem start_h (seed : UInt32) : Holds Tryz.prog 53 [.c (.val (.int .u32 (U32 seed)))] [] (fun r h' => r = .w (.agg ((sd (startS seed)).map D.toC)) ∧ h' = []) := by
  have hb : 0 ≤ max 1 (U32 seed) ∧ max 1 (U32 seed) < 4294967296 := by
    have := seed.toNat_lt
    unfold U32
    omega
  refine holds_of_awp Tryz.func53 rfl (by decide +kernel) mixed Tryz.ntmps53 Tryz.results53 ?_
  refine zE ?_
  refine zs ?_;try exact trivial
  have e : U32 (UInt32.ofNat (max 1 (U32 seed)).toNat) = max 1 (U32 seed) := by
    have h : ∀ z : Int, 0 ≤ z ∧ z < 4294967296 → U32 (UInt32.ofNat z.toNat) = z := fun z hz => by unfold U32; rw [UInt32.toNat_ofNat']; omega
    exact h _ hb
  simp only [startS, sd, stz]
  rw [e]
  exact leCs_refl _
theorem start0_h : Holds Tryz.prog 53 [.c (.val (.int .u32 0))] [] (fun r h' => r = .w (.agg ((sd (startS 0)).map D.toC)) ∧ h' = []) := start_h 0
/-- a match of a game that is right -/
def ctNew (l : List (Int × Int)) (cap fuel : Int) : Ct := ⟨l, cap, fuel, 0, 0, 0, 0, 0, false, 0, 0, false, [], [], [], startS 0, []⟩
theorem new_bad18 (l : List (Int × Int)) (cap fuel : Int) (hl : l.length ≤ 9223372036854775807) (hg : gameP l cap fuel ≠ 0) : Holds Tryz.prog 39 [.game l cap fuel] [] (fun r h' => r = .tup [.c (.val (.pointer none)), .int .i64 (gameP l cap fuel)] ∧ h' = []) := by
  refine holds_of_awp Tryz.func39 rfl (by decide +kernel) mixed Tryz.ntmps39 Tryz.results39 ?_
  refine zE ?_
  refine zs ?_;try exact trivial
  refine a_call [] (gcheck_h l cap fuel hl) ok0 ?_ ?_ ?_
  · refine zs ?_;try exact trivial
  · refine zs ?_;try exact trivial
  rintro _ _ ⟨rfl, rfl⟩
  refine zs ?_;try exact trivial
  refine c_dec (fun h => ?_) (fun h => ?_)
  · refine zs ?_;try exact trivial
  exact (h hg).elim
theorem game_len {l : List (Int × Int)} {cap fuel : Int} (hg : gameP l cap fuel = 0) : l.length ≤ 256 := by
  rcases Nat.lt_or_ge 256 l.length with q | q
  · unfold gameP at hg
    rw [chkP_long q] at hg
    simp at hg
  exact q
theorem nil_row {τ : Tag} {sz : Nat} (h : (Own.tag τ).lax = true) (h0 : 0 < sz) : leC (.lst (.tag τ) none sz []) (.lst .full (some true) 1 []) := by
  simp [leC, h, h0]
theorem no_row {o : Own} {nl : Option Bool} {sz : Nat} {xs : List D} : leC (.lst .no none sz xs) (.lst o nl sz xs) := by
  simp [leC]
@[go_sem 1300] theorem ct_lit {rc r0 r1 rp re : C} {cap fuel : Int} {s : Sta} : spl [rc, .val (.int .i64 cap), .val (.int .i64 fuel), .val (.int .i64 0), .val (.int .i64 0), .val (.int .u32 0), .val (.int .i64 0), .val (.int .i64 0), .val (.int .i64 0), .val (.int .i64 0), .val (.bool false), .val (.int .i64 0), .val (.int .i64 0), .val (.bool false), r0, r1, rp, .val (.int .i64 0), .val (.int .i32 0), .val (.int .i32 0), .val (.int .i32 0), .val (.int .i32 0), .val (.int .i32 0), .val (.int .i32 0), .val (.int .i32 0), .val (.int .i32 0), .val (.int .i32 0), .val (.int .i32 0), .val (.int .i32 0), .val (.int .i32 0), .val (.int .i32 0), .val (.int .i32 0), .val (.int .i32 0), .val (.int .i32 0), .val (.int .u32 0), .val (.bool false), .val (.int .i64 0), re] 17 ((sd s).map D.toC) = ctC rc cap fuel 0 0 0 0 0 0 0 false 0 0 false r0 r1 rp s re := by
  show spl (ctC rc cap fuel 0 0 0 0 0 0 0 false 0 0 false r0 r1 rp (stz 0 0) re) 17 ((sd s).map D.toC) = _
  exact ct_ss
set_option maxHeartbeats 1000000 in
theorem new_ok18 (l : List (Int × Int)) (cap fuel : Int) (hl : l.length ≤ 9223372036854775807) (hg : gameP l cap fuel = 0) : Holds Tryz.prog 39 [.game l cap fuel] [] (fun r h' => r = .tup [.c (.ptr (.loc [14]) 0), .int .i64 0] ∧ h' = [(.loc [14], ctB (.loc [14]) (ctNew l cap fuel))]) := by
  have hl2 := game_len hg
  refine holds_of_awp Tryz.func39 rfl (by decide +kernel) mixed Tryz.ntmps39 Tryz.results39 ?_
  refine zE ?_
  refine zs ?_;try exact trivial
  refine a_call [] (gcheck_h l cap fuel hl) ok0 ?_ ?_ ?_
  · refine zs ?_;try exact trivial
  · refine zs ?_;try exact trivial
  rintro _ _ ⟨rfl, rfl⟩
  rw [hg]
  refine zc ?_;try exact trivial
  refine a_drawC (⟨[.undef, V.cell (.ptr (.loc [1]) 0), U, U, U, V.cell (.ptr (.loc [14]) 0), U, U, U, U, U, U, U, U, U, U, U, U, U, U, U, U, .undef], [(.loc [14], ctB (.loc [14]) (ctNew l cap fuel)), (.loc [1], [.lst .no none 2 (ins l), .val (.int .i64 cap), .val (.int .i64 fuel)])]⟩) (.both [(0, .both [(1, .both [(2, .both [(3, .take 4 (.done))])])]), (1, .both [(0, .both [(2, .both [(3, .take 4 (.done))])])])]) (by kernel_rfl) (by kernel_rfl) ?_ ?_
  · refine zc ?_;try exact trivial
    repeat' (with_reducible apply And.intro)
    all_goals (
      refine a_call [] (start0_h) ok0 ?_ ?_ ?_
      · refine zs ?_;try exact trivial
      · refine zs ?_;try exact trivial
      rintro _ _ ⟨rfl, rfl⟩
      refine zc ?_;try exact trivial
      exact ct_le ⟨leC_refl _, rfl, rfl, rfl, rfl, rfl, rfl, rfl, rfl, rfl, rfl, rfl, rfl, rfl, nil_row rfl (by omega), nil_row rfl (by omega), nil_row rfl (by omega), rfl, nil_row rfl (by omega)⟩)
  refine zc ?_;try exact trivial
  refine a_call [] (cloneI_h l (by omega)) ok0 ?_ ?_ ?_
  · refine zs ?_;try exact trivial
  · refine zs ?_;try exact trivial
  rintro _ _ ⟨rfl, rfl⟩
  refine zc ?_;try exact trivial
  exact ct_le ⟨no_row, rfl, rfl, rfl, rfl, rfl, rfl, rfl, rfl, rfl, rfl, rfl, rfl, rfl, leC_refl _, leC_refl _, leC_refl _, rfl, leC_refl _⟩
end
section
open Go Go.RowKit Go.ChangeShapes Go.WideShapes
theorem trod_flats {H : Type} {enc : TypeId × Value → H} {P : Program} {W : World} {t e : TypeId} {ks : List (Option IntKind)} {cs : List Value} {x : DataW H × List MemPlace} {fuel sz : Nat}
    (hu : P.underlying t = some (.slice e)) (hk : flatK P 8 e = some ks) (hsz : ks.length = sz) (h0 : 0 < sz)
    (hf : DataW.trod enc P W 0 (fun _ => true) true fuel t cs = some x) :
    ∃ (v : Value) (L : List (List Value)), cs = [v] ∧ (∀ q ∈ L, All2 okV ks q) ∧ L.length ≤ maxLen ∧ RelC (ghOf W) (.lst .no none sz (L.flatten.map D.val)) v := by
  rcases Go.Deep.open_slice hu hf with ⟨rfl, _⟩ | ⟨x, l, c, m, n, D', Pl, rfl, _, hl, hm, hmm, _, hx⟩
  · exact ⟨_, [], rfl, by simp, by simp, ⟨RelD.nil (by simp) h0, trivial⟩⟩
  have hlm : l ≤ m := by rw [hmm]; simp only [if_true]; exact hl
  have hV : ∀ i, i < l → ∃ cs' : List Value, (∀ j, j < sz → W.cell? (x.add (i * sz + j)) = cs'[j]?) ∧ All2 okV ks cs' := by
    intro i hi
    obtain ⟨cs', h1, h2⟩ := hx i (by omega)
    have h3 := flat_trod 8 hk h2
    obtain ⟨_, h4, h5⟩ := World.cells?_some h1
    have h6 : P.cellsOf e = sz := by rw [← h4, ← h3.length, hsz]
    rw [h6] at h5
    refine ⟨cs', fun j hj => ?_, h3⟩
    rw [← add_of_add]
    exact h5 j hj
  obtain ⟨V, hV⟩ := Go.Deep.choose_lt hV
  have hL : ∀ q ∈ (List.range l).map V, All2 okV ks q := by
    intro q hq
    simp only [List.mem_map, List.mem_range] at hq
    obtain ⟨i, hi, rfl⟩ := hq
    exact (hV i hi).2
  have hl2 : ∀ q ∈ (List.range l).map V, q.length = sz := fun q hq => by rw [← (hL q hq).length, hsz]
  obtain ⟨f1, f2⟩ := flat_row _ hl2
  rw [List.length_map, List.length_range] at f1
  refine ⟨_, (List.range l).map V, rfl, hL, by simp; omega, ⟨RelD.mk (by simp) h0 (by simp only [List.length_map, f1]) hl hm ?_, trivial⟩⟩
  intro i dd hi
  rw [List.getElem?_map, Option.map_eq_some_iff] at hi
  obtain ⟨u, hu2, rfl⟩ := hi
  have hlt := (List.getElem?_eq_some_iff.1 hu2).1
  rw [f1] at hlt
  have e1 : i / sz * sz + i % sz = i := by rw [Nat.mul_comm]; exact Nat.div_add_mod i sz
  have e2 : i / sz < l := Nat.div_lt_of_lt_mul (by rw [Nat.mul_comm]; exact hlt)
  have e3 : i % sz < sz := Nat.mod_lt _ h0
  have h7 := f2 (i / sz) (i % sz) e3
  rw [e1, hu2] at h7
  have h8 := (hV _ e2).1 _ e3
  rw [e1] at h8
  rw [List.getElem?_map, List.getElem?_range e2] at h7
  simp only [Option.map_some, Option.bind_some] at h7
  refine ⟨u, by rw [show (ghOf W).M = fun a => W.cell? a from rfl]; dsimp only; rw [h8, ← h7], .val ?_⟩
  exact okW_all (hV _ e2).2 u (List.mem_of_getElem? h7.symm)
theorem ins_rows : ∀ {L : List (List Value)}, (∀ q ∈ L, All2 okV [some .i64, some .i64] q) → ∃ l : List (Int × Int), L.flatten.map D.val = ins l ∧ l.length = L.length
  | [], _ => ⟨[], rfl, rfl⟩
  | q :: L, h => by
    obtain ⟨v, q', rfl, ⟨n, rfl, hn⟩, hq⟩ := (h q (List.mem_cons_self ..)).cons_inv
    obtain ⟨v2, q2, rfl, ⟨m, rfl, hm⟩, hq2⟩ := hq.cons_inv
    obtain rfl := hq2.nil_inv
    obtain ⟨l, h1, h2⟩ := ins_rows (L := L) fun q hq => h q (List.mem_cons_of_mem _ hq)
    refine ⟨(n, m) :: l, ?_, by simp [h2]⟩
    rw [List.flatten_cons, List.map_append, h1]; rfl
theorem flatIns : flatK Tryz.prog 8 119 = some [some .i64, some .i64] := by kernel_rfl
theorem trod_f3 {H : Type} {enc : TypeId × Value → H} {P : Program} {W : World} {t : TypeId} {f0 f1 f2 : Field} {cs : List Value} {x : DataW H × List MemPlace} {fuel : Nat}
    (ht : P.underlying t = some (.struct #[f0, f1, f2])) (hc : P.cellsOf t = 3) (o0 : f0.offset = 0) (o1 : f1.offset = 1) (o2 : f2.offset = 2) (c0 : P.cellsOf f0.type = 1) (c1 : P.cellsOf f1.type = 1) (c2 : P.cellsOf f2.type = 1)
    (hx : DataW.trod enc P W 0 (fun _ => true) true fuel t cs = some x) :
    ∃ v0 v1 v2 y0 y1 y2 n, cs = [v0, v1, v2] ∧ DataW.trod enc P W 0 (fun _ => true) true n f0.type [v0] = some y0 ∧ DataW.trod enc P W 0 (fun _ => true) true n f1.type [v1] = some y1 ∧ DataW.trod enc P W 0 (fun _ => true) true n f2.type [v2] = some y2 := by
  obtain ⟨xs, m, _, _, hlen, hxl, hall⟩ := DataW.trod_struct ht hx
  rw [hc] at hlen
  have a0 := hall 0 f0 rfl
  have a1 := hall 1 f1 rfl
  have a2 := hall 2 f2 rfl
  have hxl' : xs.length = 3 := hxl
  rw [List.getElem?_eq_getElem (by omega)] at a0 a1 a2
  match cs, hlen with
  | [v0, v1, v2], _ =>
    rw [c0, o0] at a0
    rw [c1, o1] at a1
    rw [c2, o2] at a2
    exact ⟨v0, v1, v2, _, _, _, m, rfl, a0, a1, a2⟩
set_option maxRecDepth 100000 in
theorem game_cells {cs : List Value} {W : World} {H : Type} {enc : TypeId × Value → H} {fuel : Nat} {x : DataW H × List MemPlace} (hx : DataW.trod enc Tryz.prog W 0 (fun _ => true) true fuel 24 cs = some x) :
    ∃ (code : List (Int × Int)) (cap fu : Int), code.length ≤ maxLen ∧ i64B cap ∧ i64B fu ∧ All2 (RelC (ghOf W)) [.lst .no none 2 (ins code), .val (.int .i64 cap), .val (.int .i64 fu)] cs := by
  obtain ⟨v0, v1, v2, _, _, _, m, rfl, a0, a1, a2⟩ := trod_f3 Tryz.underlying24 (by kernel_rfl) rfl rfl rfl (by kernel_rfl) (by kernel_rfl) (by kernel_rfl) hx
  obtain ⟨v, L, e, h1, h2, h3⟩ := trod_flats (sz := 2) Tryz.underlying22 flatIns rfl (by omega) a0
  obtain ⟨code, e2, h4⟩ := ins_rows h1
  rw [e2] at h3
  obtain ⟨n, e3, _, hn⟩ := DataW.trod_int Tryz.underlying3 a1
  obtain ⟨k, e4, _, hk⟩ := DataW.trod_int Tryz.underlying3 a2
  obtain rfl : v0 = v := by simpa using e
  obtain rfl : v1 = .int .i64 n := by simpa using e3
  obtain rfl : v2 = .int .i64 k := by simpa using e4
  exact ⟨code, n, k, by omega, i64_wf hn, i64_wf hk, .cons h3 (.cons ⟨rfl, rfl⟩ (.cons ⟨rfl, rfl⟩ .nil))⟩
set_option maxRecDepth 100000 in
theorem open_game {H : Type} {enc : TypeId × Value → H} {W : World} {v : Value} {d : DataW H} {ps : List MemPlace} {r : Reach} {b0 : Nat}
    (hv : Value.okWide Tryz.prog W r b0 24 v) (h : DataW.Trod enc Tryz.prog W 0 (fun _ => true) true 24 v d ps) :
    ∃ (code : List (Int × Int)) (cap fu : Int), RelW (ghOf W) (.game code cap fu) v ∧ code.length ≤ maxLen ∧ i64B cap ∧ i64B fu := by
  obtain ⟨cs, rfl, _⟩ := okWide_struct Tryz.underlying24 hv
  obtain ⟨fuel, hf⟩ := h
  obtain ⟨code, cap, fu, h1, h2, h3, h4⟩ := game_cells hf
  exact ⟨code, cap, fu, ⟨cs, rfl, h4⟩, h1, h2, h3⟩
end
section
set_option maxRecDepth 20000
def mcC (s : Sta) (i0 : UInt16) (i1 : UInt16) (sk : C) (atP : Int) (en : Bool) (bad : Bool) : List C := ((sd s).map D.toC ++ [.val (.int .u16 (U16 i0)), .val (.int .u16 (U16 i1)), sk, .val (.int .i64 atP), .val (.bool en), .val (.bool bad)])
section
variable {s : Sta} {i0 : UInt16} {i1 : UInt16} {sk : C} {atP : Int} {en : Bool} {bad : Bool} {V' : V → Prop} {K : C → Prop} {ks : List Id} {m : Nat}
@[go_sem] theorem mc_l : (mcC s i0 i1 sk atP en bad).length = 26 := by
  unfold mcC
  simp only [List.length_append, List.length_map, sd_len, List.length_cons, List.length_nil]
@[go_sem] theorem mc_k {bi : Id → Bool} {bt : Tag → Bool} : (mcC s i0 i1 sk atP en bad).map (C.clean bi bt) = (mcC s i0 i1 (C.clean bi bt sk) atP en bad) := by
  unfold mcC
  simp only [List.map_append, List.map_cons, List.map_nil, go_sem]
@[go_sem] theorem mc_r  : (mcC s i0 i1 sk atP en bad).map (C.ren ks m) = (mcC s i0 i1 (C.ren ks m sk) atP en bad) := by
  unfold mcC
  simp only [List.map_append, List.map_cons, List.map_nil, go_sem]
theorem mc_gs_frame : (mcC s i0 i1 sk atP en bad)[0]? = some (.val (.int .i64 s.frame)) := by
  unfold mcC
  first | exact get_frame | (rw [List.getElem?_append_left (by rw [sdC_len]; omega)]; exact get_frame)
@[go_sem ↓ 1300] theorem mc_ms_frame : (∃ c, (mcC s i0 i1 sk atP en bad)[0]? = some c ∧ K c) = K (.val (.int .i64 s.frame)) := ex_some mc_gs_frame
theorem mc_gs_seed : (mcC s i0 i1 sk atP en bad)[17]? = some (.val (.int .u32 (U32 s.seed))) := by
  unfold mcC
  first | exact get_seed | (rw [List.getElem?_append_left (by rw [sdC_len]; omega)]; exact get_seed)
@[go_sem ↓ 1300] theorem mc_ms_seed : (∃ c, (mcC s i0 i1 sk atP en bad)[17]? = some c ∧ K c) = K (.val (.int .u32 (U32 s.seed))) := ex_some mc_gs_seed
@[go_sem 1300] theorem mc_as : ((mcC s i0 i1 sk atP en bad).drop 0).take 20 = (sd s).map D.toC := by
  unfold mcC
  show List.take 20 ((sd s).map D.toC ++ _) = _
  rw [List.take_left' sdC_len]
@[go_sem ↓ 1300] theorem mc_ps : aPt (some true) 20 (mcC s i0 i1 sk atP en bad) 0 V' = V' (.w (.agg ((sd s).map D.toC))) := by
  simp only [aPt, mc_l, mc_as, Nat.reduceAdd, Nat.reduceLeDiff, true_and]
@[go_sem ↓ 1300] theorem mc_m_i0 : (∃ c, (mcC s i0 i1 sk atP en bad)[20]? = some c ∧ K c) = K (.val (.int .u16 (U16 i0))) := ex_some (by
  unfold mcC
  rw [List.getElem?_append_right (by first | simp only [List.length_cons, List.length_nil, List.length_map, sd_len]; omega | simp [sd_len])]
  simp only [List.length_cons, List.length_nil, List.length_map, sd_len, Nat.reduceAdd, Nat.reduceSub]
  first | rfl | (rw [List.getElem?_append_left (by simp)]; rfl))
@[go_sem ↓ 1300] theorem mc_m_i1 : (∃ c, (mcC s i0 i1 sk atP en bad)[21]? = some c ∧ K c) = K (.val (.int .u16 (U16 i1))) := ex_some (by
  unfold mcC
  rw [List.getElem?_append_right (by first | simp only [List.length_cons, List.length_nil, List.length_map, sd_len]; omega | simp [sd_len])]
  simp only [List.length_cons, List.length_nil, List.length_map, sd_len, Nat.reduceAdd, Nat.reduceSub]
  first | rfl | (rw [List.getElem?_append_left (by simp)]; rfl))
@[go_sem ↓ 1300] theorem mc_m_sk : (∃ c, (mcC s i0 i1 sk atP en bad)[22]? = some c ∧ K c) = K (sk) := ex_some (by
  unfold mcC
  rw [List.getElem?_append_right (by first | simp only [List.length_cons, List.length_nil, List.length_map, sd_len]; omega | simp [sd_len])]
  simp only [List.length_cons, List.length_nil, List.length_map, sd_len, Nat.reduceAdd, Nat.reduceSub]
  first | rfl | (rw [List.getElem?_append_left (by simp)]; rfl))
@[go_sem ↓ 1300] theorem mc_m_atP : (∃ c, (mcC s i0 i1 sk atP en bad)[23]? = some c ∧ K c) = K (.val (.int .i64 atP)) := ex_some (by
  unfold mcC
  rw [List.getElem?_append_right (by first | simp only [List.length_cons, List.length_nil, List.length_map, sd_len]; omega | simp [sd_len])]
  simp only [List.length_cons, List.length_nil, List.length_map, sd_len, Nat.reduceAdd, Nat.reduceSub]
  first | rfl | (rw [List.getElem?_append_left (by simp)]; rfl))
@[go_sem ↓ 1300] theorem mc_m_en : (∃ c, (mcC s i0 i1 sk atP en bad)[24]? = some c ∧ K c) = K (.val (.bool en)) := ex_some (by
  unfold mcC
  rw [List.getElem?_append_right (by first | simp only [List.length_cons, List.length_nil, List.length_map, sd_len]; omega | simp [sd_len])]
  simp only [List.length_cons, List.length_nil, List.length_map, sd_len, Nat.reduceAdd, Nat.reduceSub]
  first | rfl | (rw [List.getElem?_append_left (by simp)]; rfl))
@[go_sem ↓ 1300] theorem mc_m_bad : (∃ c, (mcC s i0 i1 sk atP en bad)[25]? = some c ∧ K c) = K (.val (.bool bad)) := ex_some (by
  unfold mcC
  rw [List.getElem?_append_right (by first | simp only [List.length_cons, List.length_nil, List.length_map, sd_len]; omega | simp [sd_len])]
  simp only [List.length_cons, List.length_nil, List.length_map, sd_len, Nat.reduceAdd, Nat.reduceSub]
  first | rfl | (rw [List.getElem?_append_left (by simp)]; rfl))
@[go_sem 1300] theorem mc_ss_seed {x : UInt32} : spl (mcC s i0 i1 sk atP en bad) 17 [.val (.int .u32 (U32 x))] = (mcC (s.wSeed x) i0 i1 sk atP en bad) := by
  unfold mcC
  rw [spl_appL (by simp only [List.length_cons, List.length_nil, sdC_len]; omega), spl_seed]
@[go_sem 1300] theorem mc_us_seed {x : UInt32} : (mcC s i0 i1 sk atP en bad).set 17 (.val (.int .u32 (U32 x))) = (mcC (s.wSeed x) i0 i1 sk atP en bad) := show spl (mcC s i0 i1 sk atP en bad) 17 [.val (.int .u32 (U32 x))] = _ from mc_ss_seed
@[go_sem 1300] theorem mc_ss_over {x : Bool} : spl (mcC s i0 i1 sk atP en bad) 18 [.val (.bool x)] = (mcC (s.wOver x) i0 i1 sk atP en bad) := by
  unfold mcC
  rw [spl_appL (by simp only [List.length_cons, List.length_nil, sdC_len]; omega), spl_over]
@[go_sem 1300] theorem mc_us_over {x : Bool} : (mcC s i0 i1 sk atP en bad).set 18 (.val (.bool x)) = (mcC (s.wOver x) i0 i1 sk atP en bad) := show spl (mcC s i0 i1 sk atP en bad) 18 [.val (.bool x)] = _ from mc_ss_over
@[go_sem 1300] theorem mc_ss_win {x : Int} : spl (mcC s i0 i1 sk atP en bad) 19 [.val (.int .i64 x)] = (mcC (s.wWin x) i0 i1 sk atP en bad) := by
  unfold mcC
  rw [spl_appL (by simp only [List.length_cons, List.length_nil, sdC_len]; omega), spl_win]
@[go_sem 1300] theorem mc_us_win {x : Int} : (mcC s i0 i1 sk atP en bad).set 19 (.val (.int .i64 x)) = (mcC (s.wWin x) i0 i1 sk atP en bad) := show spl (mcC s i0 i1 sk atP en bad) 19 [.val (.int .i64 x)] = _ from mc_ss_win
@[go_sem 1300] theorem mc_ss {x : Sta} : spl (mcC s i0 i1 sk atP en bad) 0 ((sd x).map D.toC) = (mcC (x) i0 i1 sk atP en bad) := by
  unfold mcC
  rw [spl_appL (by simp only [sdC_len]; omega), spl_all (by simp only [sdC_len])]
@[go_sem 1300] theorem mc_s_i0 {x : UInt16} : spl (mcC s i0 i1 sk atP en bad) 20 [.val (.int .u16 (U16 x))] = (mcC s (x) i1 sk atP en bad) := by
  unfold mcC
  rw [show (20 : Nat) = ((sd s).map D.toC).length + 0 from by first | rfl | rw [sdC_len], spl_appR (by simp only [List.length_append, List.length_cons, List.length_nil, sdC_len]; omega)]
  rfl
@[go_sem 1300] theorem mc_u_i0 {x : UInt16} : (mcC s i0 i1 sk atP en bad).set 20 (.val (.int .u16 (U16 x))) = (mcC s (x) i1 sk atP en bad) := show spl (mcC s i0 i1 sk atP en bad) 20 [.val (.int .u16 (U16 x))] = _ from mc_s_i0
@[go_sem 1300] theorem mc_s_i1 {x : UInt16} : spl (mcC s i0 i1 sk atP en bad) 21 [.val (.int .u16 (U16 x))] = (mcC s i0 (x) sk atP en bad) := by
  unfold mcC
  rw [show (21 : Nat) = ((sd s).map D.toC).length + 1 from by first | rfl | rw [sdC_len], spl_appR (by simp only [List.length_append, List.length_cons, List.length_nil, sdC_len]; omega)]
  rfl
@[go_sem 1300] theorem mc_u_i1 {x : UInt16} : (mcC s i0 i1 sk atP en bad).set 21 (.val (.int .u16 (U16 x))) = (mcC s i0 (x) sk atP en bad) := show spl (mcC s i0 i1 sk atP en bad) 21 [.val (.int .u16 (U16 x))] = _ from mc_s_i1
@[go_sem 1300] theorem mc_s_sk {x : C} : spl (mcC s i0 i1 sk atP en bad) 22 [x] = (mcC s i0 i1 (x) atP en bad) := by
  unfold mcC
  rw [show (22 : Nat) = ((sd s).map D.toC).length + 2 from by first | rfl | rw [sdC_len], spl_appR (by simp only [List.length_append, List.length_cons, List.length_nil, sdC_len]; omega)]
  rfl
@[go_sem 1300] theorem mc_u_sk {x : C} : (mcC s i0 i1 sk atP en bad).set 22 (x) = (mcC s i0 i1 (x) atP en bad) := show spl (mcC s i0 i1 sk atP en bad) 22 [x] = _ from mc_s_sk
@[go_sem 1300] theorem mc_s_atP {x : Int} : spl (mcC s i0 i1 sk atP en bad) 23 [.val (.int .i64 x)] = (mcC s i0 i1 sk (x) en bad) := by
  unfold mcC
  rw [show (23 : Nat) = ((sd s).map D.toC).length + 3 from by first | rfl | rw [sdC_len], spl_appR (by simp only [List.length_append, List.length_cons, List.length_nil, sdC_len]; omega)]
  rfl
@[go_sem 1300] theorem mc_u_atP {x : Int} : (mcC s i0 i1 sk atP en bad).set 23 (.val (.int .i64 x)) = (mcC s i0 i1 sk (x) en bad) := show spl (mcC s i0 i1 sk atP en bad) 23 [.val (.int .i64 x)] = _ from mc_s_atP
@[go_sem 1300] theorem mc_s_en {x : Bool} : spl (mcC s i0 i1 sk atP en bad) 24 [.val (.bool x)] = (mcC s i0 i1 sk atP (x) bad) := by
  unfold mcC
  rw [show (24 : Nat) = ((sd s).map D.toC).length + 4 from by first | rfl | rw [sdC_len], spl_appR (by simp only [List.length_append, List.length_cons, List.length_nil, sdC_len]; omega)]
  rfl
@[go_sem 1300] theorem mc_u_en {x : Bool} : (mcC s i0 i1 sk atP en bad).set 24 (.val (.bool x)) = (mcC s i0 i1 sk atP (x) bad) := show spl (mcC s i0 i1 sk atP en bad) 24 [.val (.bool x)] = _ from mc_s_en
@[go_sem 1300] theorem mc_s_bad {x : Bool} : spl (mcC s i0 i1 sk atP en bad) 25 [.val (.bool x)] = (mcC s i0 i1 sk atP en (x)) := by
  unfold mcC
  rw [show (25 : Nat) = ((sd s).map D.toC).length + 5 from by first | rfl | rw [sdC_len], spl_appR (by simp only [List.length_append, List.length_cons, List.length_nil, sdC_len]; omega)]
  rfl
@[go_sem 1300] theorem mc_u_bad {x : Bool} : (mcC s i0 i1 sk atP en bad).set 25 (.val (.bool x)) = (mcC s i0 i1 sk atP en (x)) := show spl (mcC s i0 i1 sk atP en bad) 25 [.val (.bool x)] = _ from mc_s_bad
theorem mc_le {s' : Sta} {i0' : UInt16} {i1' : UInt16} {sk' : C} {atP' : Int} {en' : Bool} {bad' : Bool} (h : s = s' ∧ i0 = i0' ∧ i1 = i1' ∧ leC sk sk' ∧ atP = atP' ∧ en = en' ∧ bad = bad') : leCs (mcC s i0 i1 sk atP en bad) (mcC s' i0' i1' sk' atP' en' bad') := by
  obtain ⟨h0, h1, h2, h3, h4, h5, h6⟩ := h
  subst h0
  subst h1
  subst h2
  subst h4
  subst h5
  subst h6
  unfold mcC
  try simp only [List.cons_append, List.nil_append, List.append_assoc]
  exact (leCs_app (leCs_refl _) ⟨leC_refl _, ⟨leC_refl _, ⟨h3, ⟨leC_refl _, ⟨leC_refl _, ⟨leC_refl _, trivial⟩⟩⟩⟩⟩⟩)
end
end
section
set_option maxRecDepth 20000
def doeC (a b c d e f g h : Id) : List C := [.val .nilFunc, .fn (.func 114) [] [], .fn (.func 115) [] [], .fn (.func 116) [] [], .fn (.func 139) [] [(a, 0)], .fn (.func 139) [] [(b, 0)], .fn (.func 139) [] [(c, 0)], .fn (.func 139) [] [(d, 0)], .fn (.func 139) [] [(e, 0)], .fn (.func 139) [] [(f, 0)], .fn (.func 139) [] [(g, 0)], .fn (.func 139) [] [(h, 0)], .fn (.func 126) [] [], .fn (.func 127) [] [], .fn (.func 128) [] [], .fn (.func 129) [] [], .fn (.func 130) [] [], .fn (.func 131) [] [], .fn (.func 132) [] [], .fn (.func 133) [] [], .fn (.func 134) [] [], .fn (.func 135) [] [], .fn (.func 136) [] []]
def doeU (bi : Id → Bool) (bt : Tag → Bool) (a b c d e f g h : Id) : List C := (doeC a b c d e f g h).map (C.clean bi bt)
section
variable {a b c d e f g h : Id} {V' : V → Prop} {r : List C} {ks : List Id} {m : Nat}
@[go_sem] theorem doe_k {bi : Id → Bool} {bt : Tag → Bool} : (doeC a b c d e f g h).map (C.clean bi bt) = if (bi a || bi b || bi c || bi d || bi e || bi f || bi g || bi h) = true then doeU bi bt a b c d e f g h else doeC a b c d e f g h := by
  split
  · rfl
  rename_i h
  simp only [Bool.or_eq_true, not_or, Bool.not_eq_true] at h
  simp [doeC, C.clean, h]
@[go_sem] theorem doe_r : (doeC a b c d e f g h).map (C.ren ks m) = doeC (renI ks m a) (renI ks m b) (renI ks m c) (renI ks m d) (renI ks m e) (renI ks m f) (renI ks m g) (renI ks m h) := nr rfl
@[go_sem] theorem doe_n : (doeC a b c d e f g h).all known = true := nr rfl
@[go_sem] theorem doe_l : (doeC a b c d e f g h).length = 23 := nr rfl
@[go_sem 1300] theorem doe_s : spl [.val .nilFunc, .val .nilFunc, .val .nilFunc, .val .nilFunc, .val .nilFunc, .val .nilFunc, .val .nilFunc, .val .nilFunc, .val .nilFunc, .val .nilFunc, .val .nilFunc, .val .nilFunc, .val .nilFunc, .val .nilFunc, .val .nilFunc, .val .nilFunc, .val .nilFunc, .val .nilFunc, .val .nilFunc, .val .nilFunc, .val .nilFunc, .val .nilFunc, .val .nilFunc] 0 (doeC a b c d e f g h) = doeC a b c d e f g h := spl_all rfl
@[go_sem ↓] theorem doe_w {l : List V} {hp : Heap} {i : Id} {off : Nat} {cs : List C} : St.stow ⟨l, hp⟩ i off cs (doeC a b c d e f g h) = ⟨l, hset hp i (spl cs off (doeC a b c d e f g h))⟩ := by
  have eq : (doeC a b c d e f g h).map (C.clean (fun _ => false) fun _ => true) = doeC a b c d e f g h := by rw [doe_k]; rfl
  rw [stow_big (show 2 ≤ (doeC a b c d e f g h).length by rw [doe_l]; omega), eq]
end
abbrev doeH (a b c d e f g h : Id) : Heap := [(h, [.fn (.func 125) [] []]), (g, [.fn (.func 124) [] []]), (f, [.fn (.func 123) [] []]), (e, [.fn (.func 122) [] []]), (d, [.fn (.func 121) [] []]), (c, [.fn (.func 120) [] []]), (b, [.fn (.func 119) [] []]), (a, [.fn (.func 118) [] []])]
theorem two_h (k : Nat) : Holds Tryz.prog 117 [.c (.fn (.func k) [] [])] [] (fun r h' => r = V.cell (.fn (.func 139) [] [(.loc [1], 0)]) ∧ h' = [(.loc [1], [.fn (.func k) [] []])]) := by
  refine holds_of_awp Tryz.func117 rfl (by decide +kernel) mixed Tryz.ntmps117 Tryz.results117 ?_
  refine zE ?_
  refine zs ?_;try exact trivial
theorem two0_h : Holds Tryz.prog 117 [.c (.fn (.func 118) [] [])] [] (fun r h' => r = V.cell (.fn (.func 139) [] [(.loc [1], 0)]) ∧ h' = [(.loc [1], [.fn (.func 118) [] []])]) := two_h 118
theorem two1_h : Holds Tryz.prog 117 [.c (.fn (.func 119) [] [])] [] (fun r h' => r = V.cell (.fn (.func 139) [] [(.loc [1], 0)]) ∧ h' = [(.loc [1], [.fn (.func 119) [] []])]) := two_h 119
theorem two2_h : Holds Tryz.prog 117 [.c (.fn (.func 120) [] [])] [] (fun r h' => r = V.cell (.fn (.func 139) [] [(.loc [1], 0)]) ∧ h' = [(.loc [1], [.fn (.func 120) [] []])]) := two_h 120
theorem two3_h : Holds Tryz.prog 117 [.c (.fn (.func 121) [] [])] [] (fun r h' => r = V.cell (.fn (.func 139) [] [(.loc [1], 0)]) ∧ h' = [(.loc [1], [.fn (.func 121) [] []])]) := two_h 121
theorem two4_h : Holds Tryz.prog 117 [.c (.fn (.func 122) [] [])] [] (fun r h' => r = V.cell (.fn (.func 139) [] [(.loc [1], 0)]) ∧ h' = [(.loc [1], [.fn (.func 122) [] []])]) := two_h 122
theorem two5_h : Holds Tryz.prog 117 [.c (.fn (.func 123) [] [])] [] (fun r h' => r = V.cell (.fn (.func 139) [] [(.loc [1], 0)]) ∧ h' = [(.loc [1], [.fn (.func 123) [] []])]) := two_h 123
theorem two6_h : Holds Tryz.prog 117 [.c (.fn (.func 124) [] [])] [] (fun r h' => r = V.cell (.fn (.func 139) [] [(.loc [1], 0)]) ∧ h' = [(.loc [1], [.fn (.func 124) [] []])]) := two_h 124
theorem two7_h : Holds Tryz.prog 117 [.c (.fn (.func 125) [] [])] [] (fun r h' => r = V.cell (.fn (.func 139) [] [(.loc [1], 0)]) ∧ h' = [(.loc [1], [.fn (.func 125) [] []])]) := two_h 125
set_option maxHeartbeats 2000000 in
theorem doers_h : Holds Tryz.prog 113 [] [] (fun r h' => r = .w (.agg (doeC (.loc [1, 0, 1]) (.loc [2, 0, 1]) (.loc [3, 0, 1]) (.loc [4, 0, 1]) (.loc [5, 0, 1]) (.loc [6, 0, 1]) (.loc [7, 0, 1]) (.loc [8, 0, 1]))) ∧ h' = doeH (.loc [1, 0, 1]) (.loc [2, 0, 1]) (.loc [3, 0, 1]) (.loc [4, 0, 1]) (.loc [5, 0, 1]) (.loc [6, 0, 1]) (.loc [7, 0, 1]) (.loc [8, 0, 1])) := by
  refine holds_of_awp Tryz.func113 rfl (by decide +kernel) mixed Tryz.ntmps113 Tryz.results113 ?_
  refine zE ?_
  unfold doeC
  refine zs ?_;try exact trivial
  refine a_call [] (two0_h) ok0 ?_ ?_ ?_
  · refine zs ?_;try exact trivial
  · refine zs ?_;try exact trivial
  rintro _ _ ⟨rfl, rfl⟩
  refine zs ?_;try exact trivial
  refine a_call [] (two1_h) ok0 ?_ ?_ ?_
  · refine zs ?_;try exact trivial
  · refine zs ?_;try exact trivial
  rintro _ _ ⟨rfl, rfl⟩
  refine zs ?_;try exact trivial
  refine a_call [] (two2_h) ok0 ?_ ?_ ?_
  · refine zs ?_;try exact trivial
  · refine zs ?_;try exact trivial
  rintro _ _ ⟨rfl, rfl⟩
  refine zs ?_;try exact trivial
  refine a_call [] (two3_h) ok0 ?_ ?_ ?_
  · refine zs ?_;try exact trivial
  · refine zs ?_;try exact trivial
  rintro _ _ ⟨rfl, rfl⟩
  refine zs ?_;try exact trivial
  refine a_call [] (two4_h) ok0 ?_ ?_ ?_
  · refine zs ?_;try exact trivial
  · refine zs ?_;try exact trivial
  rintro _ _ ⟨rfl, rfl⟩
  refine zs ?_;try exact trivial
  refine a_call [] (two5_h) ok0 ?_ ?_ ?_
  · refine zs ?_;try exact trivial
  · refine zs ?_;try exact trivial
  rintro _ _ ⟨rfl, rfl⟩
  refine zs ?_;try exact trivial
  refine a_call [] (two6_h) ok0 ?_ ?_ ?_
  · refine zs ?_;try exact trivial
  · refine zs ?_;try exact trivial
  rintro _ _ ⟨rfl, rfl⟩
  refine zs ?_;try exact trivial
  refine a_call [] (two7_h) ok0 ?_ ?_ ?_
  · refine zs ?_;try exact trivial
  · refine zs ?_;try exact trivial
  rintro _ _ ⟨rfl, rfl⟩
  refine zs ?_;try exact trivial
  try (refine zs ?_; try exact trivial)
  exact leCs_refl _
end
section
@[go_sem 1200] theorem set_frame {s : Sta} {x : Int} : ((sd s).map D.toC).set 0 (.val (.int .i64 x)) = (sd (s.wFrame x)).map D.toC := spl_frame
@[go_sem 1200] theorem set_over {s : Sta} {x : Bool} : ((sd s).map D.toC).set 18 (.val (.bool x)) = (sd (s.wOver x)).map D.toC := spl_over
@[go_sem 1200] theorem set_win {s : Sta} {x : Int} : ((sd s).map D.toC).set 19 (.val (.int .i64 x)) = (sd (s.wWin x)).map D.toC := spl_win
def isP (s : Sta) : Bool := decide (0 ≤ s.frame) && decide (s.frame ≤ 600) && decide (0 ≤ s.win) && decide (s.win ≤ 2) && (s.over || decide (s.win = 0))
theorem isState_h (s : Sta) : Holds Tryz.prog 110 [.agg ((sd s).map D.toC)] [] (fun r h' => r = V.bool (isP s) ∧ h' = []) := by
  refine holds_of_awp Tryz.func110 rfl (by decide +kernel) mixed Tryz.ntmps110 Tryz.results110 ?_
  refine zE ?_
  unfold isP
  cases d1 : decide (0 ≤ s.frame)
  · simp (maxSteps:=2000000) (disch:=omega) only [go_sem,Nat.reduceAdd,Nat.reduceSub,Nat.reduceMul,Nat.reduceBEq,Nat.reduceEqDiff,Nat.reduceLT,Nat.reduceLeDiff,Nat.reduceDiv,reduceIte,reduceCtorEq, d1]
    simp
  cases d2 : decide (s.frame ≤ 600)
  · simp (maxSteps:=2000000) (disch:=omega) only [go_sem,Nat.reduceAdd,Nat.reduceSub,Nat.reduceMul,Nat.reduceBEq,Nat.reduceEqDiff,Nat.reduceLT,Nat.reduceLeDiff,Nat.reduceDiv,reduceIte,reduceCtorEq, d1, d2]
    simp
  cases d3 : decide (0 ≤ s.win)
  · simp (maxSteps:=2000000) (disch:=omega) only [go_sem,Nat.reduceAdd,Nat.reduceSub,Nat.reduceMul,Nat.reduceBEq,Nat.reduceEqDiff,Nat.reduceLT,Nat.reduceLeDiff,Nat.reduceDiv,reduceIte,reduceCtorEq, d1, d2, d3]
    simp
  cases d4 : decide (s.win ≤ 2)
  · simp (maxSteps:=2000000) (disch:=omega) only [go_sem,Nat.reduceAdd,Nat.reduceSub,Nat.reduceMul,Nat.reduceBEq,Nat.reduceEqDiff,Nat.reduceLT,Nat.reduceLeDiff,Nat.reduceDiv,reduceIte,reduceCtorEq, d1, d2, d3, d4]
    simp
  cases d5 : s.over
  · simp (maxSteps:=2000000) (disch:=omega) only [go_sem,Nat.reduceAdd,Nat.reduceSub,Nat.reduceMul,Nat.reduceBEq,Nat.reduceEqDiff,Nat.reduceLT,Nat.reduceLeDiff,Nat.reduceDiv,reduceIte,reduceCtorEq, d1, d2, d3, d4, d5]
  simp (maxSteps:=2000000) (disch:=omega) only [go_sem,Nat.reduceAdd,Nat.reduceSub,Nat.reduceMul,Nat.reduceBEq,Nat.reduceEqDiff,Nat.reduceLT,Nat.reduceLeDiff,Nat.reduceDiv,reduceIte,reduceCtorEq, d1, d2, d3, d4, d5]
@[go_sem 1300] theorem mc_lit {sk : C} {s : Sta} : spl [.val (.int .i64 0), .val (.int .i32 0), .val (.int .i32 0), .val (.int .i32 0), .val (.int .i32 0), .val (.int .i32 0), .val (.int .i32 0), .val (.int .i32 0), .val (.int .i32 0), .val (.int .i32 0), .val (.int .i32 0), .val (.int .i32 0), .val (.int .i32 0), .val (.int .i32 0), .val (.int .i32 0), .val (.int .i32 0), .val (.int .i32 0), .val (.int .u32 0), .val (.bool false), .val (.int .i64 0), .val (.int .u16 0), .val (.int .u16 0), sk, .val (.int .i64 0), .val (.bool false), .val (.bool false)] 0 ((sd s).map D.toC) = mcC s 0 0 sk 0 false false := by
  show spl (mcC (stz 0 0) 0 0 sk 0 false false) 0 ((sd s).map D.toC) = _
  exact mc_ss
end
section
def held (v : Int) : Int := max (-2147483648) (min 2147483647 v)
theorem held_b (v : Int) : B32 (held v) := by unfold held B32; omega
theorem held_h (v : Int) (h1 : -9223372036854775808 ≤ v) (h2 : v ≤ 9223372036854775807) : Holds Tryz.prog 140 [.int .i64 v] [] (fun r h' => r = V.int .i32 (held v) ∧ h' = []) := by
  refine holds_of_awp Tryz.func140 rfl (by decide +kernel) mixed Tryz.ntmps140 Tryz.results140 ?_
  refine zE ?_
  have hb := held_b v
  unfold B32 at hb
  refine zs ?_;try exact trivial
  rfl
theorem rheld_h (v : Int) (h1 : -9223372036854775808 ≤ v) (h2 : v ≤ 9223372036854775807) : Holds Tryz.prog 104 [.int .i64 v] [] (fun r h' => r = V.int .i32 (held v) ∧ h' = []) := by
  refine holds_of_awp Tryz.func104 rfl (by decide +kernel) mixed Tryz.ntmps104 Tryz.results104 ?_
  refine zE ?_
  refine zs ?_;try exact trivial
  refine c_dec (fun h => ?_) (fun h => ?_)
  · have e : held v = 2147483647 := by unfold held; omega
    rw [e]
    refine zs ?_;try exact trivial
  refine zs ?_;try exact trivial
  refine c_dec (fun h3 => ?_) (fun h3 => ?_)
  · have e : held v = -2147483648 := by unfold held; omega
    rw [e]
    refine zs ?_;try exact trivial
  have e : held v = v := by unfold held; omega
  rw [e]
  refine zs ?_;try exact trivial
def divV (a b : Int) : Int := if b = 0 then (if 0 < a then 2147483647 else if a < 0 then -2147483648 else 0) else held ((a * 65536).tdiv b)
theorem add_h (a b : Int) (ha : B32 a) (hb : B32 b) : Holds Tryz.prog 118 [.int .i32 a, .int .i32 b] [] (fun r h' => r = V.int .i32 (held (a + b)) ∧ h' = []) := by
  unfold B32 at ha hb
  refine holds_of_awp Tryz.func118 rfl (by decide +kernel) mixed Tryz.ntmps118 Tryz.results118 ?_
  refine zE ?_
  refine zs ?_;try exact trivial
  refine a_call [] (held_h (a + b) (by omega) (by omega)) ok0 ?_ ?_ ?_
  · refine zs ?_;try exact trivial
  · refine zs ?_;try exact trivial
  rintro _ _ ⟨rfl, rfl⟩
  refine zs ?_;try exact trivial
theorem sub_h (a b : Int) (ha : B32 a) (hb : B32 b) : Holds Tryz.prog 119 [.int .i32 a, .int .i32 b] [] (fun r h' => r = V.int .i32 (held (a - b)) ∧ h' = []) := by
  unfold B32 at ha hb
  refine holds_of_awp Tryz.func119 rfl (by decide +kernel) mixed Tryz.ntmps119 Tryz.results119 ?_
  refine zE ?_
  refine zs ?_;try exact trivial
  refine a_call [] (held_h (a - b) (by omega) (by omega)) ok0 ?_ ?_ ?_
  · refine zs ?_;try exact trivial
  · refine zs ?_;try exact trivial
  rintro _ _ ⟨rfl, rfl⟩
  refine zs ?_;try exact trivial
theorem mul_h (a b : Int) (ha : B32 a) (hb : B32 b) : Holds Tryz.prog 120 [.int .i32 a, .int .i32 b] [] (fun r h' => r = V.int .i32 (held (a * b / 65536)) ∧ h' = []) := by
  have hm := mul_bound ha hb
  unfold B32 at ha hb
  refine holds_of_awp Tryz.func120 rfl (by decide +kernel) mixed Tryz.ntmps120 Tryz.results120 ?_
  refine zE ?_
  refine zs ?_;try exact trivial
  refine a_call [] (held_h (a * b / 65536) (by omega) (by omega)) ok0 ?_ ?_ ?_
  · refine zs ?_;try exact trivial
  · refine zs ?_;try exact trivial
  rintro _ _ ⟨rfl, rfl⟩
  refine zs ?_;try exact trivial
theorem radd_h (a b : Int) (ha : B32 a) (hb : B32 b) : Holds Tryz.prog 94 [.int .i32 a, .int .i32 b] [] (fun r h' => r = V.int .i32 (held (a + b)) ∧ h' = []) := by
  unfold B32 at ha hb
  refine holds_of_awp Tryz.func94 rfl (by decide +kernel) mixed Tryz.ntmps94 Tryz.results94 ?_
  refine zE ?_
  refine zs ?_;try exact trivial
  refine a_call [] (rheld_h (a + b) (by omega) (by omega)) ok0 ?_ ?_ ?_
  · refine zs ?_;try exact trivial
  · refine zs ?_;try exact trivial
  rintro _ _ ⟨rfl, rfl⟩
  refine zs ?_;try exact trivial
theorem rsub_h (a b : Int) (ha : B32 a) (hb : B32 b) : Holds Tryz.prog 95 [.int .i32 a, .int .i32 b] [] (fun r h' => r = V.int .i32 (held (a - b)) ∧ h' = []) := by
  unfold B32 at ha hb
  refine holds_of_awp Tryz.func95 rfl (by decide +kernel) mixed Tryz.ntmps95 Tryz.results95 ?_
  refine zE ?_
  refine zs ?_;try exact trivial
  refine a_call [] (rheld_h (a - b) (by omega) (by omega)) ok0 ?_ ?_ ?_
  · refine zs ?_;try exact trivial
  · refine zs ?_;try exact trivial
  rintro _ _ ⟨rfl, rfl⟩
  refine zs ?_;try exact trivial
theorem rmul_h (a b : Int) (ha : B32 a) (hb : B32 b) : Holds Tryz.prog 96 [.int .i32 a, .int .i32 b] [] (fun r h' => r = V.int .i32 (held (a * b / 65536)) ∧ h' = []) := by
  have hm := mul_bound ha hb
  unfold B32 at ha hb
  refine holds_of_awp Tryz.func96 rfl (by decide +kernel) mixed Tryz.ntmps96 Tryz.results96 ?_
  refine zE ?_
  refine zs ?_;try exact trivial
  refine a_call [] (rheld_h (a * b / 65536) (by omega) (by omega)) ok0 ?_ ?_ ?_
  · refine zs ?_;try exact trivial
  · refine zs ?_;try exact trivial
  rintro _ _ ⟨rfl, rfl⟩
  refine zs ?_;try exact trivial
theorem div_h (a b : Int) (ha : B32 a) (hb : B32 b) : Holds Tryz.prog 121 [.int .i32 a, .int .i32 b] [] (fun r h' => r = V.int .i32 (divV a b) ∧ h' = []) := by
  unfold B32 at ha hb
  have ht := tdiv_bound (a := a * 65536) (b := b) (m := 140737488355328) (by omega) (by omega)
  refine holds_of_awp Tryz.func121 rfl (by decide +kernel) mixed Tryz.ntmps121 Tryz.results121 ?_
  refine zE ?_
  refine zs ?_;try exact trivial
  refine c_dec (fun h => ?_) (fun h => ?_)
  · have e : divV a b = held ((a * 65536).tdiv b) := by unfold divV; rw [if_neg h]
    rw [e]
    refine zs ?_;try exact trivial
    refine a_call [] (held_h ((a * 65536).tdiv b) (by omega) (by omega)) ok0 ?_ ?_ ?_
    · refine zs ?_;try exact trivial
    · refine zs ?_;try exact trivial
    rintro _ _ ⟨rfl, rfl⟩
    refine zs ?_;try exact trivial
  have hb0 : b = 0 := by omega
  refine zs ?_;try exact trivial
  refine c_dec (fun h2 => ?_) (fun h2 => ?_)
  · have e : divV a b = 2147483647 := by unfold divV; rw [if_pos hb0, if_pos h2]
    rw [e]
    refine zs ?_;try exact trivial
  refine zs ?_;try exact trivial
  refine c_dec (fun h3 => ?_) (fun h3 => ?_)
  · have e : divV a b = -2147483648 := by unfold divV; rw [if_pos hb0, if_neg h2, if_pos h3]
    rw [e]
    refine zs ?_;try exact trivial
  have e : divV a b = 0 := by unfold divV; rw [if_pos hb0, if_neg h2, if_neg h3]
  rw [e]
  refine zs ?_;try exact trivial
theorem rdiv_h (a b : Int) (ha : B32 a) (hb : B32 b) : Holds Tryz.prog 97 [.int .i32 a, .int .i32 b] [] (fun r h' => r = V.int .i32 (divV a b) ∧ h' = []) := by
  unfold B32 at ha hb
  have ht := tdiv_bound (a := a * 65536) (b := b) (m := 140737488355328) (by omega) (by omega)
  refine holds_of_awp Tryz.func97 rfl (by decide +kernel) mixed Tryz.ntmps97 Tryz.results97 ?_
  refine zE ?_
  refine zs ?_;try exact trivial
  refine c_dec (fun h => ?_) (fun h => ?_)
  · refine zs ?_;try exact trivial
    refine c_dec (fun h2 => ?_) (fun h2 => ?_)
    · have e : divV a b = 2147483647 := by unfold divV; rw [if_pos h, if_pos h2]
      rw [e]
      refine zs ?_;try exact trivial
    refine zs ?_;try exact trivial
    refine c_dec (fun h3 => ?_) (fun h3 => ?_)
    · have e : divV a b = -2147483648 := by unfold divV; rw [if_pos h, if_neg h2, if_pos h3]
      rw [e]
      refine zs ?_;try exact trivial
    have e : divV a b = 0 := by unfold divV; rw [if_pos h, if_neg h2, if_neg h3]
    rw [e]
    refine zs ?_;try exact trivial
  have e : divV a b = held ((a * 65536).tdiv b) := by unfold divV; rw [if_neg h]
  rw [e]
  refine zs ?_;try exact trivial
  refine a_call [] (rheld_h ((a * 65536).tdiv b) (by omega) (by omega)) ok0 ?_ ?_ ?_
  · refine zs ?_;try exact trivial
  · refine zs ?_;try exact trivial
  rintro _ _ ⟨rfl, rfl⟩
  refine zs ?_;try exact trivial
end
section
structure Mac where
  st : Sta
  i0 : UInt16
  i1 : UInt16
  sk : List Int
  pc : Int
  en : Bool
  bad : Bool
abbrev mB (i : Id) (m : Mac) : List C := mcC m.st m.i0 m.i1 (.stk (.cell i 22) 1 (c32 m.sk)) m.pc m.en m.bad
@[go_sem] theorem c32_nil : c32 [] = [] := nr rfl
@[go_sem 1200] theorem c32_app1 {l : List Int} {x : Int} : c32 l ++ [.val (.int .i32 x)] = c32 (l ++ [x]) := by simp [c32]
@[go_sem 1200] theorem c32_app2 {l : List Int} {x y : Int} : c32 l ++ [.val (.int .i32 x), .val (.int .i32 y)] = c32 (l ++ [x, y]) := by simp [c32]
@[go_sem 1200] theorem c32_take {l : List Int} {n : Nat} : (c32 l).take n = c32 (l.take n) := by simp [c32]
@[go_sem ↓ 1200] theorem e_IA3c {τ : Tag} {l : List Int} {t : TypeId} {i : Int} {V' : V → Prop} (h0 : 0 ≤ i) (h1 : i < l.length) : aIA (some (none, t, 1)) (.cell (.stk τ 1 (c32 l))) i V' = V' (.cell (.sptr τ i.toNat 1 (c32 l))) := e_IA3k h0 (by rw [c32_len]; exact h1)
section
variable {s : Sta} {i0 i1 : UInt16} {sk : C} {atP : Int} {en bad : Bool} {K : C → Prop}
theorem mc_gcell {k : Nat} (h : k < 16) : (mcC s i0 i1 sk atP en bad)[k + 1]? = some (.val (.int .i32 (s.cells.getD k 0))) := by
  unfold mcC
  rw [List.getElem?_append_left (by rw [sdC_len]; omega)]
  exact get_cells h
@[go_sem ↓ 1300] theorem mc_mcell {k : Nat} (h : k < 16) : (∃ c, (mcC s i0 i1 sk atP en bad)[1 + k]? = some c ∧ K c) = K (.val (.int .i32 (s.cells.getD k 0))) := by
  rw [Nat.add_comm]; exact ex_some (mc_gcell h)
theorem mc_scell0 {k : Nat} {x : Int} (h : k < 16) : spl (mcC s i0 i1 sk atP en bad) (k + 1) [.val (.int .i32 x)] = mcC (s.wCells k x) i0 i1 sk atP en bad := by
  unfold mcC
  rw [spl_appL (by rw [sdC_len]; simp; omega), spl_cells h]
@[go_sem 1300] theorem mc_scell {k : Nat} {x : Int} (h : k < 16) : (mcC s i0 i1 sk atP en bad).set (1 + k) (.val (.int .i32 x)) = mcC (s.wCells k x) i0 i1 sk atP en bad := by
  rw [Nat.add_comm]; exact mc_scell0 h
end
theorem U16_b (v : UInt16) : 0 ≤ U16 v ∧ U16 v ≤ 65535 := ⟨U16_lo v, by have := U16_hi v; omega⟩
def popV (m : Mac) : Int := m.sk.getD (m.sk.length - 1) 0
def popM (m : Mac) : Mac := ⟨m.st, m.i0, m.i1, m.sk.take (m.sk.length - 1), m.pc, m.en, m.bad || decide (m.sk.length = 0)⟩
def pushM (m : Mac) (l : List Int) : Mac := ⟨m.st, m.i0, m.i1, m.sk ++ l, m.pc, m.en, m.bad || decide (32 < m.sk.length + l.length)⟩
def truthV (b : Bool) : Int := if b then 65536 else 0
theorem pop_h (m : Mac) (hl : m.sk.length ≤ 100000) : Holds Tryz.prog 138 [.ptr (.arg 0) 0] [(.arg 0, mB (.arg 0) m)] (fun r h' => r = .int .i32 (popV m) ∧ h' = [(.arg 0, mB (.arg 0) (popM m))]) := by
  obtain ⟨st, i0, i1, sk, pc, en, bad⟩ := m
  simp only at hl
  refine holds_of_awp Tryz.func138 rfl (by decide +kernel) mixed Tryz.ntmps138 Tryz.results138 ?_
  refine zE ?_
  refine zc ?_;try exact trivial
  refine c_dec (fun h => ?_) (fun h => ?_)
  · have h0 : sk = [] := List.eq_nil_of_length_eq_zero (by omega)
    subst h0
    simp only [popV, popM, List.length_nil, List.take_nil, List.getD_nil, decide_true, Bool.or_true]
    refine zc ?_;try exact trivial
    all_goals exact leCs_refl _
  have e1 : ((sk.length : Int) - 1).toNat = sk.length - 1 := by omega
  have e2 : popM ⟨st, i0, i1, sk, pc, en, bad⟩ = ⟨st, i0, i1, sk.take (sk.length - 1), pc, en, bad⟩ := by
    unfold popM
    rw [decide_eq_false (show ¬ sk.length = 0 by omega), Bool.or_false]
  rw [e2]
  simp only [popV]
  simp (maxSteps:=2000000) (disch:=omega) only [go_sem,Nat.reduceAdd,Nat.reduceSub,Nat.reduceMul,Nat.reduceBEq,Nat.reduceEqDiff,Nat.reduceLT,Nat.reduceLeDiff,Nat.reduceDiv,reduceIte,reduceCtorEq, e1]
  omega
theorem push1_h (m : Mac) (x : Int) (hl : m.sk.length ≤ 100000) : Holds Tryz.prog 137 [.ptr (.arg 0) 0, .c (.lst .no none 1 [.val (.int .i32 x)])] [(.arg 0, mB (.arg 0) m)] (fun r h' => r = .tup [] ∧ h' = [(.arg 0, mB (.arg 0) (pushM m [x]))]) := by
  obtain ⟨st, i0, i1, sk, pc, en, bad⟩ := m
  simp only at hl
  refine holds_of_awp Tryz.func137 rfl (by decide +kernel) mixed Tryz.ntmps137 Tryz.results137 ?_
  refine zE ?_
  refine zc ?_;try exact trivial
  refine ⟨by omega, c_dec (fun h => ?_) (fun h => ?_)⟩
  · have d : decide (32 < sk.length + 1) = true := decide_eq_true (by omega)
    have e : pushM ⟨st, i0, i1, sk, pc, en, bad⟩ [x] = ⟨st, i0, i1, sk ++ [x], pc, en, true⟩ := by
      unfold pushM; simp only [List.length_cons, List.length_nil, Nat.zero_add, Nat.reduceAdd, d, Bool.or_true]
    rw [e]
    refine zc ?_;try exact trivial
    all_goals exact leCs_refl _
  have d : decide (32 < sk.length + 1) = false := decide_eq_false (by omega)
  have e : pushM ⟨st, i0, i1, sk, pc, en, bad⟩ [x] = ⟨st, i0, i1, sk ++ [x], pc, en, bad⟩ := by
    unfold pushM; simp only [List.length_cons, List.length_nil, Nat.zero_add, Nat.reduceAdd, d, Bool.or_false]
  rw [e]
  refine zc ?_;try exact trivial
  all_goals exact leCs_refl _
theorem push2_h (m : Mac) (x y : Int) (hl : m.sk.length ≤ 100000) : Holds Tryz.prog 137 [.ptr (.arg 0) 0, .c (.lst .no none 1 [.val (.int .i32 x), .val (.int .i32 y)])] [(.arg 0, mB (.arg 0) m)] (fun r h' => r = .tup [] ∧ h' = [(.arg 0, mB (.arg 0) (pushM m [x, y]))]) := by
  obtain ⟨st, i0, i1, sk, pc, en, bad⟩ := m
  simp only at hl
  refine holds_of_awp Tryz.func137 rfl (by decide +kernel) mixed Tryz.ntmps137 Tryz.results137 ?_
  refine zE ?_
  refine zc ?_;try exact trivial
  refine ⟨by omega, c_dec (fun h => ?_) (fun h => ?_)⟩
  · have d : decide (32 < sk.length + 2) = true := decide_eq_true (by omega)
    have e : pushM ⟨st, i0, i1, sk, pc, en, bad⟩ [x, y] = ⟨st, i0, i1, sk ++ [x, y], pc, en, true⟩ := by
      unfold pushM; simp only [List.length_cons, List.length_nil, Nat.zero_add, Nat.reduceAdd, d, Bool.or_true]
    rw [e]
    refine zc ?_;try exact trivial
    all_goals exact leCs_refl _
  have d : decide (32 < sk.length + 2) = false := decide_eq_false (by omega)
  have e : pushM ⟨st, i0, i1, sk, pc, en, bad⟩ [x, y] = ⟨st, i0, i1, sk ++ [x, y], pc, en, bad⟩ := by
    unfold pushM; simp only [List.length_cons, List.length_nil, Nat.zero_add, Nat.reduceAdd, d, Bool.or_false]
  rw [e]
  refine zc ?_;try exact trivial
  all_goals exact leCs_refl _
theorem truth_h (b : Bool) : Holds Tryz.prog 141 [.c (.val (.bool b))] [] (fun r h' => r = .int .i32 (truthV b) ∧ h' = []) := by
  refine holds_of_awp Tryz.func141 rfl (by decide +kernel) mixed Tryz.ntmps141 Tryz.results141 ?_
  refine zE ?_
  cases b
  · refine zc ?_;try exact trivial
    rfl
  refine zc ?_;try exact trivial
  rfl
theorem least_h (b a : Int) : Holds Tryz.prog 122 [.int .i32 b, .int .i32 a] [] (fun r h' => r = .int .i32 (min b a) ∧ h' = []) := by
  refine holds_of_awp Tryz.func122 rfl (by decide +kernel) mixed Tryz.ntmps122 Tryz.results122 ?_
  refine zE ?_
  refine zs ?_;try exact trivial
  all_goals exact leCs_refl _
theorem greatest_h (b a : Int) : Holds Tryz.prog 123 [.int .i32 b, .int .i32 a] [] (fun r h' => r = .int .i32 (max b a) ∧ h' = []) := by
  refine holds_of_awp Tryz.func123 rfl (by decide +kernel) mixed Tryz.ntmps123 Tryz.results123 ?_
  refine zE ?_
  refine zs ?_;try exact trivial
  all_goals exact leCs_refl _
theorem less_h (b a : Int) : Holds Tryz.prog 124 [.int .i32 b, .int .i32 a] [] (fun r h' => r = .int .i32 (truthV (decide (b < a))) ∧ h' = []) := by
  refine holds_of_awp Tryz.func124 rfl (by decide +kernel) mixed Tryz.ntmps124 Tryz.results124 ?_
  refine zE ?_
  refine zs ?_;try exact trivial
  refine a_call [] (truth_h (decide (b < a))) ok0 ?_ ?_ ?_
  · refine zs ?_;try exact trivial
  · refine zs ?_;try exact trivial
  rintro _ _ ⟨rfl, rfl⟩
  refine zs ?_;try exact trivial
  all_goals exact leCs_refl _
theorem same10_h (b a : Int) : Holds Tryz.prog 125 [.int .i32 b, .int .i32 a] [] (fun r h' => r = .int .i32 (truthV (decide (b = a))) ∧ h' = []) := by
  refine holds_of_awp Tryz.func125 rfl (by decide +kernel) mixed Tryz.ntmps125 Tryz.results125 ?_
  refine zE ?_
  refine zs ?_;try exact trivial
  refine a_call [] (truth_h (decide (b = a))) ok0 ?_ ?_ ?_
  · refine zs ?_;try exact trivial
  · refine zs ?_;try exact trivial
  rintro _ _ ⟨rfl, rfl⟩
  refine zs ?_;try exact trivial
  all_goals exact leCs_refl _
/-! ### the doers -/
def number10 (m : Mac) (arg : Int) : Mac := pushM m [arg]
def load10 (m : Mac) (arg : Int) : Mac := pushM m [m.st.cells.getD arg.toNat 0]
def store10 (m : Mac) (arg : Int) : Mac := ⟨m.st.wCells arg.toNat (popV m), m.i0, m.i1, (popM m).sk, m.pc, m.en, (popM m).bad⟩
def not10 (m : Mac) : Mac := pushM (popM m) [truthV (decide (popV m = 0))]
def dup10 (m : Mac) : Mac := pushM (popM m) [popV m, popV m]
def swap10 (m : Mac) : Mac := pushM (popM (popM m)) [popV m, popV (popM m)]
def input10 (m : Mac) (arg : Int) : Mac := pushM m [if arg = 0 then (U16 m.i0 : Int) else U16 m.i1]
def frame10 (m : Mac) : Mac := pushM m [m.st.frame]
def jump10 (m : Mac) (arg : Int) : Mac := ⟨m.st, m.i0, m.i1, m.sk, arg, m.en, m.bad⟩
def zero10 (m : Mac) (arg : Int) : Mac := if popV m = 0 then jump10 (popM m) arg else popM m
def win10 (m : Mac) (arg : Int) : Mac := ⟨(m.st.wOver true).wWin arg, m.i0, m.i1, m.sk, m.pc, true, m.bad⟩
def halt10 (m : Mac) : Mac := ⟨m.st, m.i0, m.i1, m.sk, m.pc, true, m.bad⟩
def mixS (a : UInt32) : UInt32 := xor32 (xor32 (xor32 a (shl32 a 13)) (shr32 (xor32 a (shl32 a 13)) 17)) (shl32 (xor32 (xor32 a (shl32 a 13)) (shr32 (xor32 a (shl32 a 13)) 17)) 5)
def rndV (a : UInt32) : Int := (U32 a) % 65536
def rand10 (m : Mac) : Mac := pushM ⟨m.st.wSeed (mixS m.st.seed), m.i0, m.i1, m.sk, m.pc, m.en, m.bad⟩ [rndV (mixS m.st.seed)]
def two10 (f : Int → Int → Int) (m : Mac) : Mac := pushM (popM (popM m)) [f (popV (popM m)) (popV m)]
theorem rndV_b (a : UInt32) : 0 ≤ rndV a ∧ rndV a ≤ 65535 := by unfold rndV; omega
@[go_sem ↓ 1150] theorem e_rem16 {a : UInt32} {V' : V → Prop} : aInt .rem .u32 (U32 a) .u32 65536 V' = V' (.int .u32 (rndV a)) := by
  rw [e_rem (by omega)]
  unfold rndV
  rw [Int.tmod_eq_emod_of_nonneg (by unfold U32; omega)]
section
variable (m : Mac) (hl : m.sk.length ≤ 1000)
include hl
theorem number_h10 (arg : Int) (ha : B32 arg) : Holds Tryz.prog 114 [.ptr (.arg 0) 0, .int .i64 arg] [(.arg 0, mB (.arg 0) m)] (fun r h' => r = .tup [] ∧ h' = [(.arg 0, mB (.arg 0) (number10 m arg))]) := by
  obtain ⟨ha, hb⟩ := ha
  refine holds_of_awp Tryz.func114 rfl (by decide +kernel) mixed Tryz.ntmps114 Tryz.results114 ?_
  refine zE ?_
  refine zc ?_;try exact trivial
  refine a_call [.arg 0] (push1_h m arg (by omega)) (ok1 rfl) ?_ ?_ ?_
  · refine zs ?_;try exact trivial
  · refine zs ?_;try exact trivial
  rintro _ _ ⟨rfl, rfl⟩
  refine zs ?_;try exact trivial
  all_goals exact leCs_refl _
theorem load_h10 (arg : Int) (h0 : 0 ≤ arg) (h1 : arg ≤ 15) : Holds Tryz.prog 115 [.ptr (.arg 0) 0, .int .i64 arg] [(.arg 0, mB (.arg 0) m)] (fun r h' => r = .tup [] ∧ h' = [(.arg 0, mB (.arg 0) (load10 m arg))]) := by
  refine holds_of_awp Tryz.func115 rfl (by decide +kernel) mixed Tryz.ntmps115 Tryz.results115 ?_
  refine zE ?_
  refine zc ?_;try exact trivial
  refine a_call [.arg 0] (push1_h m (m.st.cells.getD arg.toNat 0) (by omega)) (ok1 rfl) ?_ ?_ ?_
  · refine zs ?_;try exact trivial
  · refine zs ?_;try exact trivial
  rintro _ _ ⟨rfl, rfl⟩
  refine zs ?_;try exact trivial
  all_goals exact leCs_refl _
theorem store_h10 (arg : Int) (h0 : 0 ≤ arg) (h1 : arg ≤ 15) : Holds Tryz.prog 116 [.ptr (.arg 0) 0, .int .i64 arg] [(.arg 0, mB (.arg 0) m)] (fun r h' => r = .tup [] ∧ h' = [(.arg 0, mB (.arg 0) (store10 m arg))]) := by
  refine holds_of_awp Tryz.func116 rfl (by decide +kernel) mixed Tryz.ntmps116 Tryz.results116 ?_
  refine zE ?_
  refine a_draw (.take 0 (.take 1 (.take 2 (.take 4 (.take 5 (.take 6 (.both [(3, .take 7 (.both [(8, .done)]))]))))))) (by kernel_rfl) (by kernel_rfl) ?_
  refine zc ?_;try exact trivial
  refine a_call [.arg 0] (pop_h m (by omega)) (ok1 rfl) ?_ ?_ ?_
  · refine zs ?_;try exact trivial
  · refine zs ?_;try exact trivial
  rintro _ _ ⟨rfl, rfl⟩
  refine zc ?_;try exact trivial
  all_goals exact ⟨by omega, leCs_refl _⟩
theorem not_h10 (arg : Int) : Holds Tryz.prog 126 [.ptr (.arg 0) 0, .int .i64 arg] [(.arg 0, mB (.arg 0) m)] (fun r h' => r = .tup [] ∧ h' = [(.arg 0, mB (.arg 0) (not10 m))]) := by
  refine holds_of_awp Tryz.func126 rfl (by decide +kernel) mixed Tryz.ntmps126 Tryz.results126 ?_
  refine zE ?_
  refine zc ?_;try exact trivial
  refine a_call [.arg 0] (pop_h m (by omega)) (ok1 rfl) ?_ ?_ ?_
  · refine zs ?_;try exact trivial
  · refine zs ?_;try exact trivial
  rintro _ _ ⟨rfl, rfl⟩
  refine zc ?_;try exact trivial
  refine a_call [] (truth_h (decide (popV m = 0))) ok0 ?_ ?_ ?_
  · refine zs ?_;try exact trivial
  · refine zs ?_;try exact trivial
  rintro _ _ ⟨rfl, rfl⟩
  refine zc ?_;try exact trivial
  refine a_call [.arg 0] (push1_h (popM m) (truthV (decide (popV m = 0))) (by simp [popM]; omega)) (ok1 rfl) ?_ ?_ ?_
  · refine zs ?_;try exact trivial
  · refine zs ?_;try exact trivial
  rintro _ _ ⟨rfl, rfl⟩
  refine zs ?_;try exact trivial
  all_goals exact leCs_refl _
theorem dup_h10 (arg : Int) : Holds Tryz.prog 127 [.ptr (.arg 0) 0, .int .i64 arg] [(.arg 0, mB (.arg 0) m)] (fun r h' => r = .tup [] ∧ h' = [(.arg 0, mB (.arg 0) (dup10 m))]) := by
  refine holds_of_awp Tryz.func127 rfl (by decide +kernel) mixed Tryz.ntmps127 Tryz.results127 ?_
  refine zE ?_
  refine zc ?_;try exact trivial
  refine a_call [.arg 0] (pop_h m (by omega)) (ok1 rfl) ?_ ?_ ?_
  · refine zs ?_;try exact trivial
  · refine zs ?_;try exact trivial
  rintro _ _ ⟨rfl, rfl⟩
  refine zc ?_;try exact trivial
  refine a_call [.arg 0] (push2_h (popM m) (popV m) (popV m) (by simp [popM]; omega)) (ok1 rfl) ?_ ?_ ?_
  · refine zs ?_;try exact trivial
  · refine zs ?_;try exact trivial
  rintro _ _ ⟨rfl, rfl⟩
  refine zs ?_;try exact trivial
  all_goals exact leCs_refl _
theorem swap_h10 (arg : Int) : Holds Tryz.prog 128 [.ptr (.arg 0) 0, .int .i64 arg] [(.arg 0, mB (.arg 0) m)] (fun r h' => r = .tup [] ∧ h' = [(.arg 0, mB (.arg 0) (swap10 m))]) := by
  refine holds_of_awp Tryz.func128 rfl (by decide +kernel) mixed Tryz.ntmps128 Tryz.results128 ?_
  refine zE ?_
  refine zc ?_;try exact trivial
  refine a_call [.arg 0] (pop_h m (by omega)) (ok1 rfl) ?_ ?_ ?_
  · refine zs ?_;try exact trivial
  · refine zs ?_;try exact trivial
  rintro _ _ ⟨rfl, rfl⟩
  refine zc ?_;try exact trivial
  refine a_call [.arg 0] (pop_h (popM m) (by simp [popM]; omega)) (ok1 rfl) ?_ ?_ ?_
  · refine zs ?_;try exact trivial
  · refine zs ?_;try exact trivial
  rintro _ _ ⟨rfl, rfl⟩
  refine zc ?_;try exact trivial
  refine a_call [.arg 0] (push2_h (popM (popM m)) (popV m) (popV (popM m)) (by simp [popM]; omega)) (ok1 rfl) ?_ ?_ ?_
  · refine zs ?_;try exact trivial
  · refine zs ?_;try exact trivial
  rintro _ _ ⟨rfl, rfl⟩
  refine zs ?_;try exact trivial
  all_goals exact leCs_refl _
theorem drop_h10 (arg : Int) : Holds Tryz.prog 129 [.ptr (.arg 0) 0, .int .i64 arg] [(.arg 0, mB (.arg 0) m)] (fun r h' => r = .tup [] ∧ h' = [(.arg 0, mB (.arg 0) (popM m))]) := by
  refine holds_of_awp Tryz.func129 rfl (by decide +kernel) mixed Tryz.ntmps129 Tryz.results129 ?_
  refine zE ?_
  refine zc ?_;try exact trivial
  refine a_call [.arg 0] (pop_h m (by omega)) (ok1 rfl) ?_ ?_ ?_
  · refine zs ?_;try exact trivial
  · refine zs ?_;try exact trivial
  rintro _ _ ⟨rfl, rfl⟩
  refine zs ?_;try exact trivial
  all_goals exact leCs_refl _
theorem input_h10 (arg : Int) (h0 : arg = 0 ∨ arg = 1) : Holds Tryz.prog 130 [.ptr (.arg 0) 0, .int .i64 arg] [(.arg 0, mB (.arg 0) m)] (fun r h' => r = .tup [] ∧ h' = [(.arg 0, mB (.arg 0) (input10 m arg))]) := by
  have u0 := U16_b m.i0
  have u1 := U16_b m.i1
  refine holds_of_awp Tryz.func130 rfl (by decide +kernel) mixed Tryz.ntmps130 Tryz.results130 ?_
  refine zE ?_
  rcases h0 with rfl | rfl
  · refine zc ?_;try exact trivial
    refine a_call [.arg 0] (push1_h m (U16 m.i0) (by omega)) (ok1 rfl) ?_ ?_ ?_
    · refine zs ?_;try exact trivial
    · refine zs ?_;try exact trivial
    rintro _ _ ⟨rfl, rfl⟩
    refine zs ?_;try exact trivial
    all_goals exact leCs_refl _
  refine zc ?_;try exact trivial
  refine a_call [.arg 0] (push1_h m (U16 m.i1) (by omega)) (ok1 rfl) ?_ ?_ ?_
  · refine zs ?_;try exact trivial
  · refine zs ?_;try exact trivial
  rintro _ _ ⟨rfl, rfl⟩
  refine zs ?_;try exact trivial
  all_goals exact leCs_refl _
theorem frame_h10 (arg : Int) (h0 : 0 ≤ m.st.frame) (h1 : m.st.frame ≤ 600) : Holds Tryz.prog 131 [.ptr (.arg 0) 0, .int .i64 arg] [(.arg 0, mB (.arg 0) m)] (fun r h' => r = .tup [] ∧ h' = [(.arg 0, mB (.arg 0) (frame10 m))]) := by
  refine holds_of_awp Tryz.func131 rfl (by decide +kernel) mixed Tryz.ntmps131 Tryz.results131 ?_
  refine zE ?_
  refine zc ?_;try exact trivial
  refine a_call [.arg 0] (push1_h m m.st.frame (by omega)) (ok1 rfl) ?_ ?_ ?_
  · refine zs ?_;try exact trivial
  · refine zs ?_;try exact trivial
  rintro _ _ ⟨rfl, rfl⟩
  refine zs ?_;try exact trivial
  all_goals exact leCs_refl _
omit hl in
theorem jump_h10 (arg : Int) : Holds Tryz.prog 132 [.ptr (.arg 0) 0, .int .i64 arg] [(.arg 0, mB (.arg 0) m)] (fun r h' => r = .tup [] ∧ h' = [(.arg 0, mB (.arg 0) (jump10 m arg))]) := by
  refine holds_of_awp Tryz.func132 rfl (by decide +kernel) mixed Tryz.ntmps132 Tryz.results132 ?_
  refine zE ?_
  refine zc ?_;try exact trivial
  all_goals exact leCs_refl _
theorem zero_h10 (arg : Int) : Holds Tryz.prog 133 [.ptr (.arg 0) 0, .int .i64 arg] [(.arg 0, mB (.arg 0) m)] (fun r h' => r = .tup [] ∧ h' = [(.arg 0, mB (.arg 0) (zero10 m arg))]) := by
  refine holds_of_awp Tryz.func133 rfl (by decide +kernel) mixed Tryz.ntmps133 Tryz.results133 ?_
  refine zE ?_
  refine zc ?_;try exact trivial
  refine a_call [.arg 0] (pop_h m (by omega)) (ok1 rfl) ?_ ?_ ?_
  · refine zs ?_;try exact trivial
  · refine zs ?_;try exact trivial
  rintro _ _ ⟨rfl, rfl⟩
  refine zc ?_;try exact trivial
  refine c_dec (fun h => ?_) (fun h => ?_)
  · unfold zero10
    rw [if_pos h]
    refine zc ?_;try exact trivial
    all_goals exact leCs_refl _
  unfold zero10
  rw [if_neg h]
  refine zc ?_;try exact trivial
  all_goals exact leCs_refl _
omit hl in
theorem win_h10 (arg : Int) : Holds Tryz.prog 134 [.ptr (.arg 0) 0, .int .i64 arg] [(.arg 0, mB (.arg 0) m)] (fun r h' => r = .tup [] ∧ h' = [(.arg 0, mB (.arg 0) (win10 m arg))]) := by
  refine holds_of_awp Tryz.func134 rfl (by decide +kernel) mixed Tryz.ntmps134 Tryz.results134 ?_
  refine zE ?_
  refine zc ?_;try exact trivial
  all_goals exact leCs_refl _
omit hl in
theorem halt_h10 (arg : Int) : Holds Tryz.prog 136 [.ptr (.arg 0) 0, .int .i64 arg] [(.arg 0, mB (.arg 0) m)] (fun r h' => r = .tup [] ∧ h' = [(.arg 0, mB (.arg 0) (halt10 m))]) := by
  refine holds_of_awp Tryz.func136 rfl (by decide +kernel) mixed Tryz.ntmps136 Tryz.results136 ?_
  refine zE ?_
  refine zc ?_;try exact trivial
  all_goals exact leCs_refl _
theorem rand_h10 (arg : Int) : Holds Tryz.prog 135 [.ptr (.arg 0) 0, .int .i64 arg] [(.arg 0, mB (.arg 0) m)] (fun r h' => r = .tup [] ∧ h' = [(.arg 0, mB (.arg 0) (rand10 m))]) := by
  have hb := rndV_b (mixS m.st.seed)
  refine holds_of_awp Tryz.func135 rfl (by decide +kernel) mixed Tryz.ntmps135 Tryz.results135 ?_
  refine zE ?_
  refine zc ?_;try exact trivial
  have em : (xor32 (xor32 (xor32 m.st.seed (shl32 m.st.seed 13)) (shr32 (xor32 m.st.seed (shl32 m.st.seed 13)) 17)) (shl32 (xor32 (xor32 m.st.seed (shl32 m.st.seed 13)) (shr32 (xor32 m.st.seed (shl32 m.st.seed 13)) 17)) 5)) = mixS m.st.seed := rfl
  simp only [em]
  refine zc ?_;try exact trivial
  refine a_call [.arg 0] (push1_h ⟨m.st.wSeed (mixS m.st.seed), m.i0, m.i1, m.sk, m.pc, m.en, m.bad⟩ (rndV (mixS m.st.seed)) (by simp; omega)) (ok1 rfl) ?_ ?_ ?_
  · refine zs ?_;try exact trivial
  · refine zs ?_;try exact trivial
  rintro _ _ ⟨rfl, rfl⟩
  refine zs ?_;try exact trivial
  all_goals exact leCs_refl _
theorem two1_h10 (k : Nat) (f : Int → Int → Int) (hf : Holds Tryz.prog k [.int .i32 (popV (popM m)), .int .i32 (popV m)] [] (fun r h' => r = .int .i32 (f (popV (popM m)) (popV m)) ∧ h' = [])) (arg : Int) :
    Holds Tryz.prog 139 [.ptr (.arg 0) 0, .int .i64 arg, .ptr (.arg 1) 0] [(.arg 0, mB (.arg 0) m), (.arg 1, [.fn (.func k) [] []])] (fun r h' => r = .tup [] ∧ h' = [(.arg 0, mB (.arg 0) (two10 f m)), (.arg 1, [.fn (.func k) [] []])]) := by
  refine holds_of_awp Tryz.func139 rfl (by decide +kernel) mixed Tryz.ntmps139 Tryz.results139 ?_
  refine zE ?_
  refine zc ?_;try exact trivial
  refine a_call [.arg 0] (pop_h m (by omega)) (ok1 rfl) ?_ ?_ ?_
  · refine zs ?_;try exact trivial
  · refine zs ?_;try exact trivial
  rintro _ _ ⟨rfl, rfl⟩
  refine zc ?_;try exact trivial
  refine a_call [.arg 0] (pop_h (popM m) (by simp [popM]; omega)) (ok1 rfl) ?_ ?_ ?_
  · refine zs ?_;try exact trivial
  · refine zs ?_;try exact trivial
  rintro _ _ ⟨rfl, rfl⟩
  refine zc ?_;try exact trivial
  refine a_call [] (hf) ok0 ?_ ?_ ?_
  · refine zs ?_;try exact trivial
  · refine zs ?_;try exact trivial
  rintro _ _ ⟨rfl, rfl⟩
  refine zc ?_;try exact trivial
  refine a_call [.arg 0] (push1_h (popM (popM m)) (f (popV (popM m)) (popV m)) (by simp [popM]; omega)) (ok1 rfl) ?_ ?_ ?_
  · refine zs ?_;try exact trivial
  · refine zs ?_;try exact trivial
  rintro _ _ ⟨rfl, rfl⟩
  refine zs ?_;try exact trivial
  all_goals exact leCs_refl _
end
end
section
def f4 (b a : Int) : Int := held (b + a)
def f5 (b a : Int) : Int := held (b - a)
def f6 (b a : Int) : Int := held (b * a / 65536)
def f7 (b a : Int) : Int := divV b a
def f8 (b a : Int) : Int := min b a
def f9 (b a : Int) : Int := max b a
def f10 (b a : Int) : Int := truthV (decide (b < a))
def f11 (b a : Int) : Int := truthV (decide (b = a))
/-- an instruction -/
def doM (op arg : Int) (m : Mac) : Mac :=
  if op = 1 then number10 m arg
  else if op = 2 then load10 m arg
  else if op = 3 then store10 m arg
  else if op = 4 then two10 f4 m
  else if op = 5 then two10 f5 m
  else if op = 6 then two10 f6 m
  else if op = 7 then two10 f7 m
  else if op = 8 then two10 f8 m
  else if op = 9 then two10 f9 m
  else if op = 10 then two10 f10 m
  else if op = 11 then two10 f11 m
  else if op = 12 then not10 m
  else if op = 13 then dup10 m
  else if op = 14 then swap10 m
  else if op = 15 then popM m
  else if op = 16 then input10 m arg
  else if op = 17 then frame10 m
  else if op = 18 then jump10 m arg
  else if op = 19 then zero10 m arg
  else if op = 20 then win10 m arg
  else if op = 21 then rand10 m
  else halt10 m
/-- what holds of a machine all the while -/
structure okM (n : Int) (m : Mac) : Prop where
  pc0 : 0 ≤ m.pc
  pc1 : m.pc ≤ n
  len : m.sk.length ≤ 32
  sk : ∀ x ∈ m.sk, B32 x
  cells : ∀ x ∈ m.st.cells, B32 x
  fr0 : 0 ≤ m.st.frame
  fr1 : m.st.frame ≤ 600
theorem B32_0 : B32 0 := by unfold B32; omega
theorem getD_B32 {l : List Int} (h : ∀ x ∈ l, B32 x) (k : Nat) : B32 (l.getD k 0) := by
  rw [List.getD_eq_getElem?_getD]
  cases hk : l[k]? with
  | none => exact B32_0
  | some x => exact h x (List.mem_of_getElem? hk)
theorem popV_B {m : Mac} (h : ∀ x ∈ m.sk, B32 x) : B32 (popV m) := getD_B32 h _
theorem popM_B {m : Mac} (h : ∀ x ∈ m.sk, B32 x) : ∀ x ∈ (popM m).sk, B32 x := fun x hx => h x (List.mem_of_mem_take hx)
theorem truthV_B (b : Bool) : B32 (truthV b) := by cases b <;> (unfold truthV B32; simp)
theorem divV_B {b a : Int} (hb : B32 b) (ha : B32 a) : B32 (divV b a) := by
  unfold divV
  split
  · split
    · unfold B32; omega
    split <;> (unfold B32; omega)
  exact held_b _
theorem min_B {b a : Int} (hb : B32 b) (ha : B32 a) : B32 (min b a) := by unfold B32 at *; omega
theorem max_B {b a : Int} (hb : B32 b) (ha : B32 a) : B32 (max b a) := by unfold B32 at *; omega
/-- what an instruction leaves is right again, if it did -/
structure okL (m : Mac) : Prop where
  sk : ∀ x ∈ m.sk, B32 x
  cells : ∀ x ∈ m.st.cells, B32 x
  fr0 : 0 ≤ m.st.frame
  fr1 : m.st.frame ≤ 600
theorem okL.pop {m : Mac} (h : okL m) : okL (popM m) := ⟨popM_B h.sk, h.cells, h.fr0, h.fr1⟩
theorem okL.push {m : Mac} (h : okL m) {l : List Int} (hx : ∀ x ∈ l, B32 x) : okL (pushM m l) := ⟨fun x hm => by
  rcases List.mem_append.1 hm with h1 | h1
  · exact h.sk x h1
  exact hx x h1, h.cells, h.fr0, h.fr1⟩
theorem one_B {x : Int} (h : B32 x) : ∀ y ∈ [x], B32 y := fun y hy => by rw [List.mem_singleton.1 hy]; exact h
theorem two_B {x z : Int} (h : B32 x) (h2 : B32 z) : ∀ y ∈ [x, z], B32 y := fun y hy => by
  rcases List.mem_cons.1 hy with e | e
  · rw [e]; exact h
  rw [List.mem_singleton.1 e]; exact h2
theorem wCells_B {s : Sta} {k : Nat} {x : Int} (h : ∀ y ∈ s.cells, B32 y) (hx : B32 x) : ∀ y ∈ (s.wCells k x).cells, B32 y := fun y hy => by
  rcases List.mem_or_eq_of_mem_set hy with h1 | h1
  · exact h y h1
  rw [h1]; exact hx
theorem okL.two {m : Mac} (h : okL m) {f : Int → Int → Int} (hf : ∀ b a, B32 b → B32 a → B32 (f b a)) : okL (two10 f m) := h.pop.pop.push (one_B (hf _ _ (popV_B h.pop.sk) (popV_B h.sk)))
theorem mayP_arg {op arg n : Int} (h : mayP op arg n = true) : (1 ≤ op ∧ op ≤ 22) ∧ (op = 1 → B32 arg) ∧ (op = 2 ∨ op = 3 → 0 ≤ arg ∧ arg ≤ 15) ∧ (op = 16 → arg = 0 ∨ arg = 1) ∧ (op = 18 ∨ op = 19 → 0 ≤ arg ∧ arg ≤ n) ∧ (op = 20 → 0 ≤ arg ∧ arg ≤ 2) := by
  unfold mayP at h
  unfold B32
  split at h
  · simp only [Bool.and_eq_true, decide_eq_true_eq] at h; omega
  split at h
  · simp only [Bool.and_eq_true, decide_eq_true_eq] at h; omega
  split at h
  · simp only [Bool.and_eq_true, decide_eq_true_eq] at h; omega
  split at h
  · simp only [Bool.and_eq_true, decide_eq_true_eq] at h; omega
  split at h
  · simp only [Bool.and_eq_true, decide_eq_true_eq] at h; omega
  simp only [Bool.and_eq_true, decide_eq_true_eq] at h; omega
theorem op_cases {op : Int} (h : 1 ≤ op ∧ op ≤ 22) : op = 1 ∨ op = 2 ∨ op = 3 ∨ op = 4 ∨ op = 5 ∨ op = 6 ∨ op = 7 ∨ op = 8 ∨ op = 9 ∨ op = 10 ∨ op = 11 ∨ op = 12 ∨ op = 13 ∨ op = 14 ∨ op = 15 ∨ op = 16 ∨ op = 17 ∨ op = 18 ∨ op = 19 ∨ op = 20 ∨ op = 21 ∨ op = 22 := by omega
section
variable (arg : Int) (m : Mac)
theorem doM_19 : doM 19 arg m = zero10 m arg := rfl
end
theorem doM_low {n op arg : Int} {m : Mac} (h : okL m) (hm : mayP op arg n = true) : okL (doM op arg m) := by
  obtain ⟨ho, h1, h2, h16, h18, h20⟩ := mayP_arg hm
  have u0 := U16_b m.i0
  have u1 := U16_b m.i1
  have hr := rndV_b (mixS m.st.seed)
  rcases op_cases ho with rfl | rfl | rfl | rfl | rfl | rfl | rfl | rfl | rfl | rfl | rfl | rfl | rfl | rfl | rfl | rfl | rfl | rfl | rfl | rfl | rfl | rfl
  · exact h.push (one_B (h1 rfl))
  · exact h.push (one_B (getD_B32 h.cells _))
  · exact ⟨(okL.pop h).sk, wCells_B h.cells (popV_B h.sk), h.fr0, h.fr1⟩
  · exact h.two fun _ _ _ _ => held_b _
  · exact h.two fun _ _ _ _ => held_b _
  · exact h.two fun _ _ _ _ => held_b _
  · exact h.two fun _ _ => divV_B
  · exact h.two fun _ _ => min_B
  · exact h.two fun _ _ => max_B
  · exact h.two fun _ _ _ _ => truthV_B _
  · exact h.two fun _ _ _ _ => truthV_B _
  · exact h.pop.push (one_B (truthV_B _))
  · exact h.pop.push (two_B (popV_B h.sk) (popV_B h.sk))
  · exact h.pop.pop.push (two_B (popV_B h.sk) (popV_B h.pop.sk))
  · exact h.pop
  · exact h.push (one_B (by split <;> (unfold B32; omega)))
  · exact h.push (one_B (by have := h.fr0; have := h.fr1; unfold B32; omega))
  · exact ⟨h.sk, h.cells, h.fr0, h.fr1⟩
  · rw [doM_19]
    unfold zero10
    split
    · exact ⟨h.pop.sk, h.cells, h.fr0, h.fr1⟩
    exact h.pop
  · exact ⟨h.sk, h.cells, h.fr0, h.fr1⟩
  · exact okL.push (m := ⟨m.st.wSeed (mixS m.st.seed), m.i0, m.i1, m.sk, m.pc, m.en, m.bad⟩) ⟨h.sk, h.cells, h.fr0, h.fr1⟩ (one_B (by unfold B32; omega))
  exact ⟨h.sk, h.cells, h.fr0, h.fr1⟩
theorem pushM_pc {m : Mac} {l : List Int} : (pushM m l).pc = m.pc := rfl
theorem pushM_len {m : Mac} {l : List Int} (h : (pushM m l).bad = false) : (pushM m l).sk.length ≤ 32 := by
  unfold pushM at h ⊢
  simp only [Bool.or_eq_false_iff, decide_eq_false_iff_not] at h
  rw [List.length_append]; omega
theorem popM_len {m : Mac} : (popM m).sk.length ≤ m.sk.length := List.length_take_le' _ _
/-- where it goes on, and how high the numbers stand -/
theorem doM_pc {n op arg : Int} {m : Mac} (h0 : 0 ≤ m.pc) (h1 : m.pc ≤ n) (hl : m.sk.length ≤ 32) (hm : mayP op arg n = true) (hb : (doM op arg m).bad = false) : 0 ≤ (doM op arg m).pc ∧ (doM op arg m).pc ≤ n ∧ (doM op arg m).sk.length ≤ 32 := by
  obtain ⟨ho, _, _, _, h18, _⟩ := mayP_arg hm
  have P : ∀ {x : Mac} {l : List Int}, x.pc = m.pc → (pushM x l).bad = false → 0 ≤ (pushM x l).pc ∧ (pushM x l).pc ≤ n ∧ (pushM x l).sk.length ≤ 32 := by
    intro x l hx hb
    exact ⟨by rw [pushM_pc, hx]; exact h0, by rw [pushM_pc, hx]; exact h1, pushM_len hb⟩
  rcases op_cases ho with rfl | rfl | rfl | rfl | rfl | rfl | rfl | rfl | rfl | rfl | rfl | rfl | rfl | rfl | rfl | rfl | rfl | rfl | rfl | rfl | rfl | rfl
  · exact P rfl hb
  · exact P rfl hb
  · exact ⟨h0, h1, Nat.le_trans popM_len hl⟩
  · exact P (x := popM (popM m)) rfl hb
  · exact P (x := popM (popM m)) rfl hb
  · exact P (x := popM (popM m)) rfl hb
  · exact P (x := popM (popM m)) rfl hb
  · exact P (x := popM (popM m)) rfl hb
  · exact P (x := popM (popM m)) rfl hb
  · exact P (x := popM (popM m)) rfl hb
  · exact P (x := popM (popM m)) rfl hb
  · exact P (x := popM m) rfl hb
  · exact P (x := popM m) rfl hb
  · exact P (x := popM (popM m)) rfl hb
  · exact ⟨h0, h1, Nat.le_trans popM_len hl⟩
  · exact P rfl hb
  · exact P rfl hb
  · exact ⟨(h18 (.inl rfl)).1, (h18 (.inl rfl)).2, hl⟩
  · rw [doM_19]
    unfold zero10
    split
    · exact ⟨(h18 (.inr rfl)).1, (h18 (.inr rfl)).2, Nat.le_trans popM_len hl⟩
    exact ⟨h0, h1, Nat.le_trans popM_len hl⟩
  · exact ⟨h0, h1, hl⟩
  · exact P (x := ⟨m.st.wSeed (mixS m.st.seed), m.i0, m.i1, m.sk, m.pc, m.en, m.bad⟩) rfl hb
  exact ⟨h0, h1, hl⟩
@[reducible] def incM (m : Mac) : Mac := ⟨m.st, m.i0, m.i1, m.sk, m.pc + 1, m.en, m.bad⟩
/-- a frame's run: what went wrong, and the machine -/
def runM (code : List (Int × Int)) : Nat → Mac → Int × Mac
  | 0, m => if m.pc < code.length ∧ m.en = false then (10, m) else (0, m)
  | f + 1, m => if m.pc < code.length ∧ m.en = false then
      (if (doM (gi code m.pc.toNat).1 (gi code m.pc.toNat).2 (incM m)).bad = true then (11, doM (gi code m.pc.toNat).1 (gi code m.pc.toNat).2 (incM m))
       else runM code f (doM (gi code m.pc.toNat).1 (gi code m.pc.toNat).2 (incM m))) else (0, m)
end
section
theorem chk_all {l : List (Int × Int)} (h : (chkP l).2 = 0) {i : Nat} (hi : i < l.length) : mayP (gi l i).1 (gi l i).2 l.length = true := by
  unfold chkP at h
  split at h
  · simp at h
  split at h
  · simp at h
  exact firstBad_at (by omega)
/-- how an op is done -/
def doeF (a b c d e f g h : Id) (op : Nat) : C := (doeC a b c d e f g h).getD op .undef
theorem doe_at {a b c d e f g h : Id} {op : Nat} (h2 : op ≤ 22) : (doeC a b c d e f g h)[op]? = some (doeF a b c d e f g h op) := by
  have hl : op < (doeC a b c d e f g h).length := by rw [doe_l]; omega
  unfold doeF
  rw [List.getD_eq_getElem?_getD, List.getElem?_eq_getElem hl]; rfl
@[go_sem ↓ 1300] theorem doe_m {a b c d e f g h : Id} {op : Nat} {K : C → Prop} (h2 : op ≤ 22) : (∃ x, (doeC a b c d e f g h)[op]? = some x ∧ K x) = K (doeF a b c d e f g h op) := ex_some (doe_at h2)
abbrev doeI : List C := doeC (.loc [8, 0, 1, 0, 1]) (.loc [8, 0, 2, 0, 1]) (.loc [8, 0, 3, 0, 1]) (.loc [8, 0, 4, 0, 1]) (.loc [8, 0, 5, 0, 1]) (.loc [8, 0, 6, 0, 1]) (.loc [8, 0, 7, 0, 1]) (.loc [8, 0, 8, 0, 1])
abbrev doeHI : Heap := doeH (.loc [8, 0, 1, 0, 1]) (.loc [8, 0, 2, 0, 1]) (.loc [8, 0, 3, 0, 1]) (.loc [8, 0, 4, 0, 1]) (.loc [8, 0, 5, 0, 1]) (.loc [8, 0, 6, 0, 1]) (.loc [8, 0, 7, 0, 1]) (.loc [8, 0, 8, 0, 1])
set_option maxRecDepth 20000 in
set_option maxHeartbeats 16000000 in
theorem run_h10 (code : List (Int × Int)) (cap : Int) (fuel : Nat) (m : Mac) (hc : (chkP code).2 = 0) (hcl : code.length ≤ 256) (hm : okM code.length m) (hb : m.bad = false) (hf : fuel ≤ 1000000) :
    Holds Tryz.prog 111 [.ptr (.arg 0) 0, .game code cap fuel] [(.arg 0, mB (.arg 0) m)] (fun r h' => r = .int .i64 (runM code fuel m).1 ∧ h' = [(.arg 0, mB (.arg 0) (runM code fuel m).2)]) := by
  refine holds_of_awp Tryz.func111 rfl (by decide +kernel) mixed Tryz.ntmps111 Tryz.results111 ?_
  refine zE ?_
  refine zs ?_;try exact trivial
  refine a_call [] (doers_h) ok0 ?_ ?_ ?_
  · refine zs ?_;try exact trivial
  · refine zs ?_;try exact trivial
  rintro _ _ ⟨rfl, rfl⟩
  refine zs ?_;try exact trivial
  obtain ⟨E, M, hR⟩ : ∃ E M, runM code fuel m = (E, M) := ⟨_, _, rfl⟩
  rw [hR]
  refine a_loopk (fun x : Nat × Mac => ⟨[V.cell (.ptr (.arg 0) 0), .undef, .undef, V.cell (.ptr (.loc [3]) 0), .undef, V.cell (.ptr (.loc [5]) 0), V.int .i64 (x.1 : Int), U, U, U, U, U, U, U, U, U, U, U, U, U, U, U, U, U, U, U, U, U, U, U, U, U, U, U, U, U, U, U, U, U, U, U, U, U, U, U, U, U, U, U, U, U, U, U, U, U, .undef], (.loc [5], doeI) :: (.loc [3], [.lst .no none 2 (ins code), .val (.int .i64 cap), .val (.int .i64 fuel)]) :: (.arg 0, mB (.arg 0) x.2) :: doeHI⟩) (fun x => x.1 ≤ 1000000 ∧ okM code.length x.2 ∧ x.2.bad = false ∧ runM code x.1 x.2 = (E, M)) (fun x => x.1) (fuel, m) ⟨hf, hm, hb, hR⟩ ?_ ?_
  · try (refine zs ?_; try exact trivial)
  rintro ⟨f, m⟩ ⟨h1, h2, h3, h4⟩
  simp only at h1 h2 h3 h4 ⊢
  have p0 := h2.pc0
  have p1 := h2.pc1
  refine zs ?_;try exact trivial
  refine a_quiet (by kernel_rfl) (by kernel_rfl) (by kernel_rfl) ?_
  have stop : (¬ m.pc < code.length ∨ m.en = true) → runM code f m = (0, m) := by
    intro hs
    have hn : ¬ (m.pc < code.length ∧ m.en = false) := by rintro ⟨a, b⟩; rcases hs with h | h; exact h a; rw [b] at h; cases h
    cases f with
    | zero => exact if_neg hn
    | succ f => exact if_neg hn
  cases d1 : decide (m.pc < (code.length : Int))
  · rw [stop (.inl (of_decide_eq_false d1))] at h4
    cases h4
    simp (maxSteps:=2000000) (disch:=omega) only [go_sem,Nat.reduceAdd,Nat.reduceSub,Nat.reduceMul,Nat.reduceBEq,Nat.reduceEqDiff,Nat.reduceLT,Nat.reduceLeDiff,Nat.reduceDiv,reduceIte,reduceCtorEq, d1]
    all_goals exact leCs_refl _
  cases d2 : (!m.en)
  · rw [stop (.inr (by cases hh : m.en <;> simp_all))] at h4
    cases h4
    simp (maxSteps:=2000000) (disch:=omega) only [go_sem,Nat.reduceAdd,Nat.reduceSub,Nat.reduceMul,Nat.reduceBEq,Nat.reduceEqDiff,Nat.reduceLT,Nat.reduceLeDiff,Nat.reduceDiv,reduceIte,reduceCtorEq, d1, d2]
    all_goals exact leCs_refl _
  have hen : m.en = false := by cases hh : m.en <;> simp_all
  have hlt := of_decide_eq_true d1
  simp (maxSteps:=2000000) (disch:=omega) only [go_sem,Nat.reduceAdd,Nat.reduceSub,Nat.reduceMul,Nat.reduceBEq,Nat.reduceEqDiff,Nat.reduceLT,Nat.reduceLeDiff,Nat.reduceDiv,reduceIte,reduceCtorEq, d1, d2]
  refine c_dec (fun g => ?_) (fun g => ?_)
  · have hf0 : f = 0 := by omega
    subst hf0
    have h5 : (10, m) = (E, M) := by rw [← h4]; exact (if_pos ⟨hlt, hen⟩).symm
    cases h5
    refine zs ?_;try exact trivial
    all_goals exact leCs_refl _
  obtain ⟨f, rfl⟩ : ∃ f', f = f' + 1 := ⟨f - 1, by omega⟩
  have hpc : m.pc.toNat < code.length := by omega
  have hmay := chk_all hc hpc
  unfold runM at h4
  rw [if_pos ⟨hlt, hen⟩] at h4
  obtain ⟨op, arg⟩ : Int × Int := (0, 0)
  generalize hx : gi code m.pc.toNat = x at h4 hmay
  clear op arg
  obtain ⟨op, arg⟩ := x
  simp only at h4 hmay
  obtain ⟨ho, ha1, ha2, ha16, ha18, ha20⟩ := mayP_arg hmay
  have hlen : (incM m).sk.length ≤ 1000 := by have := h2.len; show m.sk.length ≤ 1000; omega
  have okI : okL (incM m) := ⟨h2.sk, h2.cells, h2.fr0, h2.fr1⟩
  have bA : B32 (popV (incM m)) := popV_B okI.sk
  have bB : B32 (popV (popM (incM m))) := popV_B okI.pop.sk
  refine zs ?_;try exact trivial
  refine a_drawC (⟨[V.cell (.ptr (.arg 0) 0), .undef, .undef, V.cell (.ptr (.loc [3]) 0), .undef, V.cell (.ptr (.loc [5]) 0), V.int .i64 ((f + 1 : Nat) : Int), V.cell (.ptr (.loc [7]) 0), U, U, U, U, U, U, U, U, U, U, U, U, U, U, U, U, U, U, U, U, U, U, U, U, U, U, U, U, U, U, U, U, U, U, U, U, U, U, U, U, U, U, U, U, U, U, U, U, .undef], (.loc [7], [.val (.int .i64 op), .val (.int .i64 arg)]) :: (.loc [5], doeI) :: (.loc [3], [.lst .no none 2 (ins code), .val (.int .i64 cap), .val (.int .i64 fuel)]) :: (.arg 0, mB (.arg 0) (m)) :: doeHI⟩) (.take 0 (.take 2 (.take 3 (.take 4 (.both [(1, .both [(5, .take 6 (.both [(7, .both [(8, .both [(9, .done)])]), (8, .both [(7, .both [(9, .done)])])])), (8, .both [(5, .take 6 (.both [(7, .both [(9, .done)])]))])]), (5, .both [(1, .take 6 (.both [(7, .both [(8, .both [(9, .done)])]), (8, .both [(7, .both [(9, .done)])])])), (8, .both [(1, .take 6 (.both [(7, .both [(9, .done)])]))])]), (8, .both [(1, .both [(5, .take 6 (.both [(7, .both [(9, .done)])]))]), (5, .both [(1, .take 6 (.both [(7, .both [(9, .done)])]))])])]))))) (by kernel_rfl) (by kernel_rfl) ?_ ?_
  · refine zc ?_;try exact trivial
    all_goals simp [hx]
  refine zc ?_;try exact trivial
  refine a_drawC (⟨[V.cell (.ptr (.arg 0) 0), .undef, .undef, V.cell (.ptr (.loc [3]) 0), .undef, V.cell (.ptr (.loc [5]) 0), V.int .i64 ((f + 1 : Nat) : Int), V.cell (.ptr (.loc [7]) 0), U, U, U, U, U, U, U, U, U, U, U, U, U, U, U, U, U, U, U, U, U, U, U, U, U, U, U, U, U, U, U, U, U, U, U, U, U, U, U, U, U, U, U, U, U, U, U, U, .undef], (.loc [7], [.val (.int .i64 op), .val (.int .i64 arg)]) :: (.loc [5], doeI) :: (.loc [3], [.lst .no none 2 (ins code), .val (.int .i64 cap), .val (.int .i64 fuel)]) :: (.arg 0, mB (.arg 0) (doM op arg (incM m))) :: doeHI⟩) (.take 0 (.take 4 (.take 5 (.both [(1, .take 2 (.both [(3, .both [(6, .both [(7, .done)])]), (6, .both [(3, .both [(7, .done)])])])), (6, .both [(1, .take 2 (.both [(3, .both [(7, .done)])]))])])))) (by kernel_rfl) (by kernel_rfl) ?_ ?_
  · refine zc ?_;try exact trivial
    have hcase : (∃ k : Nat, doeF (.loc [8, 0, 1, 0, 1]) (.loc [8, 0, 2, 0, 1]) (.loc [8, 0, 3, 0, 1]) (.loc [8, 0, 4, 0, 1]) (.loc [8, 0, 5, 0, 1]) (.loc [8, 0, 6, 0, 1]) (.loc [8, 0, 7, 0, 1]) (.loc [8, 0, 8, 0, 1]) op.toNat = .fn (.func k) [] [] ∧ Holds Tryz.prog k [.ptr (.arg 0) 0, .int .i64 arg] [(.arg 0, mB (.arg 0) (incM m))] (fun r h' => r = .tup [] ∧ h' = [(.arg 0, mB (.arg 0) (doM op arg (incM m)))])) ∨ (op = 4 ∨ op = 5 ∨ op = 6 ∨ op = 7 ∨ op = 8 ∨ op = 9 ∨ op = 10 ∨ op = 11) := by
      rcases op_cases ho with rfl | rfl | rfl | rfl | rfl | rfl | rfl | rfl | rfl | rfl | rfl | rfl | rfl | rfl | rfl | rfl | rfl | rfl | rfl | rfl | rfl | rfl
      · exact .inl ⟨114, rfl, number_h10 (incM m) hlen arg (ha1 rfl)⟩
      · exact .inl ⟨115, rfl, load_h10 (incM m) hlen arg (ha2 (.inl rfl)).1 (ha2 (.inl rfl)).2⟩
      · exact .inl ⟨116, rfl, store_h10 (incM m) hlen arg (ha2 (.inr rfl)).1 (ha2 (.inr rfl)).2⟩
      · exact .inr (by omega)
      · exact .inr (by omega)
      · exact .inr (by omega)
      · exact .inr (by omega)
      · exact .inr (by omega)
      · exact .inr (by omega)
      · exact .inr (by omega)
      · exact .inr (by omega)
      · exact .inl ⟨126, rfl, not_h10 (incM m) hlen arg⟩
      · exact .inl ⟨127, rfl, dup_h10 (incM m) hlen arg⟩
      · exact .inl ⟨128, rfl, swap_h10 (incM m) hlen arg⟩
      · exact .inl ⟨129, rfl, drop_h10 (incM m) hlen arg⟩
      · exact .inl ⟨130, rfl, input_h10 (incM m) hlen arg (ha16 rfl)⟩
      · exact .inl ⟨131, rfl, frame_h10 (incM m) hlen arg h2.fr0 h2.fr1⟩
      · exact .inl ⟨132, rfl, jump_h10 (incM m) arg⟩
      · exact .inl ⟨133, rfl, zero_h10 (incM m) hlen arg⟩
      · exact .inl ⟨134, rfl, win_h10 (incM m) arg⟩
      · exact .inl ⟨135, rfl, rand_h10 (incM m) hlen arg⟩
      exact .inl ⟨136, rfl, halt_h10 (incM m) arg⟩
    rcases hcase with ⟨k, hd, ck⟩ | hcase
    · clear stop h4 hx hmay ho ha1 ha2 ha16 ha18 ha20 hlt hpc hen d1 d2 g p0 p1 h3 hR hm hb hf hc hcl h2 h1 hlen okI bA bB
      rw [hd]
      refine zc ?_;try exact trivial
      refine a_call [.arg 0] (ck) (ok1 rfl) ?_ ?_ ?_
      · refine zs ?_;try exact trivial
      · refine zs ?_;try exact trivial
      rintro _ _ ⟨rfl, rfl⟩
      try (refine zs ?_; try exact trivial)
      all_goals exact leCs_refl _
    clear hmay ha1 ha2 ha16 ha18 ha20 ho stop h4 hx hlt hpc hen d1 d2 g p0 p1 h3 hR hm hb hf hc hcl h2 h1
    rcases hcase with rfl | rfl | rfl | rfl | rfl | rfl | rfl | rfl
    · have hd : doeF (.loc [8, 0, 1, 0, 1]) (.loc [8, 0, 2, 0, 1]) (.loc [8, 0, 3, 0, 1]) (.loc [8, 0, 4, 0, 1]) (.loc [8, 0, 5, 0, 1]) (.loc [8, 0, 6, 0, 1]) (.loc [8, 0, 7, 0, 1]) (.loc [8, 0, 8, 0, 1]) (4 : Int).toNat = .fn (.func 139) [] [(.loc [8, 0, 1, 0, 1], 0)] := rfl
      have c4 := two1_h10 (incM m) hlen 118 f4 (add_h _ _ bB bA) arg
      clear hlen okI bA bB
      rw [hd]
      refine zc ?_;try exact trivial
      refine a_call [.arg 0, .loc [8, 0, 1, 0, 1]] (c4) (ok2 (by decide) rfl rfl) ?_ ?_ ?_
      · refine zs ?_;try exact trivial
      · refine zs ?_;try exact trivial
      rintro _ _ ⟨rfl, rfl⟩
      try (refine zs ?_; try exact trivial)
      all_goals exact leCs_refl _
    · have hd : doeF (.loc [8, 0, 1, 0, 1]) (.loc [8, 0, 2, 0, 1]) (.loc [8, 0, 3, 0, 1]) (.loc [8, 0, 4, 0, 1]) (.loc [8, 0, 5, 0, 1]) (.loc [8, 0, 6, 0, 1]) (.loc [8, 0, 7, 0, 1]) (.loc [8, 0, 8, 0, 1]) (5 : Int).toNat = .fn (.func 139) [] [(.loc [8, 0, 2, 0, 1], 0)] := rfl
      have c5 := two1_h10 (incM m) hlen 119 f5 (sub_h _ _ bB bA) arg
      clear hlen okI bA bB
      rw [hd]
      refine zc ?_;try exact trivial
      refine a_call [.arg 0, .loc [8, 0, 2, 0, 1]] (c5) (ok2 (by decide) rfl rfl) ?_ ?_ ?_
      · refine zs ?_;try exact trivial
      · refine zs ?_;try exact trivial
      rintro _ _ ⟨rfl, rfl⟩
      try (refine zs ?_; try exact trivial)
      all_goals exact leCs_refl _
    · have hd : doeF (.loc [8, 0, 1, 0, 1]) (.loc [8, 0, 2, 0, 1]) (.loc [8, 0, 3, 0, 1]) (.loc [8, 0, 4, 0, 1]) (.loc [8, 0, 5, 0, 1]) (.loc [8, 0, 6, 0, 1]) (.loc [8, 0, 7, 0, 1]) (.loc [8, 0, 8, 0, 1]) (6 : Int).toNat = .fn (.func 139) [] [(.loc [8, 0, 3, 0, 1], 0)] := rfl
      have c6 := two1_h10 (incM m) hlen 120 f6 (mul_h _ _ bB bA) arg
      clear hlen okI bA bB
      rw [hd]
      refine zc ?_;try exact trivial
      refine a_call [.arg 0, .loc [8, 0, 3, 0, 1]] (c6) (ok2 (by decide) rfl rfl) ?_ ?_ ?_
      · refine zs ?_;try exact trivial
      · refine zs ?_;try exact trivial
      rintro _ _ ⟨rfl, rfl⟩
      try (refine zs ?_; try exact trivial)
      all_goals exact leCs_refl _
    · have hd : doeF (.loc [8, 0, 1, 0, 1]) (.loc [8, 0, 2, 0, 1]) (.loc [8, 0, 3, 0, 1]) (.loc [8, 0, 4, 0, 1]) (.loc [8, 0, 5, 0, 1]) (.loc [8, 0, 6, 0, 1]) (.loc [8, 0, 7, 0, 1]) (.loc [8, 0, 8, 0, 1]) (7 : Int).toNat = .fn (.func 139) [] [(.loc [8, 0, 4, 0, 1], 0)] := rfl
      have c7 := two1_h10 (incM m) hlen 121 f7 (div_h _ _ bB bA) arg
      clear hlen okI bA bB
      rw [hd]
      refine zc ?_;try exact trivial
      refine a_call [.arg 0, .loc [8, 0, 4, 0, 1]] (c7) (ok2 (by decide) rfl rfl) ?_ ?_ ?_
      · refine zs ?_;try exact trivial
      · refine zs ?_;try exact trivial
      rintro _ _ ⟨rfl, rfl⟩
      try (refine zs ?_; try exact trivial)
      all_goals exact leCs_refl _
    · have hd : doeF (.loc [8, 0, 1, 0, 1]) (.loc [8, 0, 2, 0, 1]) (.loc [8, 0, 3, 0, 1]) (.loc [8, 0, 4, 0, 1]) (.loc [8, 0, 5, 0, 1]) (.loc [8, 0, 6, 0, 1]) (.loc [8, 0, 7, 0, 1]) (.loc [8, 0, 8, 0, 1]) (8 : Int).toNat = .fn (.func 139) [] [(.loc [8, 0, 5, 0, 1], 0)] := rfl
      have c8 := two1_h10 (incM m) hlen 122 f8 (least_h _ _) arg
      clear hlen okI bA bB
      rw [hd]
      refine zc ?_;try exact trivial
      refine a_call [.arg 0, .loc [8, 0, 5, 0, 1]] (c8) (ok2 (by decide) rfl rfl) ?_ ?_ ?_
      · refine zs ?_;try exact trivial
      · refine zs ?_;try exact trivial
      rintro _ _ ⟨rfl, rfl⟩
      try (refine zs ?_; try exact trivial)
      all_goals exact leCs_refl _
    · have hd : doeF (.loc [8, 0, 1, 0, 1]) (.loc [8, 0, 2, 0, 1]) (.loc [8, 0, 3, 0, 1]) (.loc [8, 0, 4, 0, 1]) (.loc [8, 0, 5, 0, 1]) (.loc [8, 0, 6, 0, 1]) (.loc [8, 0, 7, 0, 1]) (.loc [8, 0, 8, 0, 1]) (9 : Int).toNat = .fn (.func 139) [] [(.loc [8, 0, 6, 0, 1], 0)] := rfl
      have c9 := two1_h10 (incM m) hlen 123 f9 (greatest_h _ _) arg
      clear hlen okI bA bB
      rw [hd]
      refine zc ?_;try exact trivial
      refine a_call [.arg 0, .loc [8, 0, 6, 0, 1]] (c9) (ok2 (by decide) rfl rfl) ?_ ?_ ?_
      · refine zs ?_;try exact trivial
      · refine zs ?_;try exact trivial
      rintro _ _ ⟨rfl, rfl⟩
      try (refine zs ?_; try exact trivial)
      all_goals exact leCs_refl _
    · have hd : doeF (.loc [8, 0, 1, 0, 1]) (.loc [8, 0, 2, 0, 1]) (.loc [8, 0, 3, 0, 1]) (.loc [8, 0, 4, 0, 1]) (.loc [8, 0, 5, 0, 1]) (.loc [8, 0, 6, 0, 1]) (.loc [8, 0, 7, 0, 1]) (.loc [8, 0, 8, 0, 1]) (10 : Int).toNat = .fn (.func 139) [] [(.loc [8, 0, 7, 0, 1], 0)] := rfl
      have c10 := two1_h10 (incM m) hlen 124 f10 (less_h _ _) arg
      clear hlen okI bA bB
      rw [hd]
      refine zc ?_;try exact trivial
      refine a_call [.arg 0, .loc [8, 0, 7, 0, 1]] (c10) (ok2 (by decide) rfl rfl) ?_ ?_ ?_
      · refine zs ?_;try exact trivial
      · refine zs ?_;try exact trivial
      rintro _ _ ⟨rfl, rfl⟩
      try (refine zs ?_; try exact trivial)
      all_goals exact leCs_refl _
    have hd : doeF (.loc [8, 0, 1, 0, 1]) (.loc [8, 0, 2, 0, 1]) (.loc [8, 0, 3, 0, 1]) (.loc [8, 0, 4, 0, 1]) (.loc [8, 0, 5, 0, 1]) (.loc [8, 0, 6, 0, 1]) (.loc [8, 0, 7, 0, 1]) (.loc [8, 0, 8, 0, 1]) (11 : Int).toNat = .fn (.func 139) [] [(.loc [8, 0, 8, 0, 1], 0)] := rfl
    have c11 := two1_h10 (incM m) hlen 125 f11 (same10_h _ _) arg
    clear hlen okI bA bB
    rw [hd]
    refine zc ?_;try exact trivial
    refine a_call [.arg 0, .loc [8, 0, 8, 0, 1]] (c11) (ok2 (by decide) rfl rfl) ?_ ?_ ?_
    · refine zs ?_;try exact trivial
    · refine zs ?_;try exact trivial
    rintro _ _ ⟨rfl, rfl⟩
    try (refine zs ?_; try exact trivial)
    all_goals exact leCs_refl _
  refine zc ?_;try exact trivial
  cases d3 : (doM op arg (incM m)).bad
  · rw [if_neg (by rw [d3]; simp)] at h4
    simp (maxSteps:=2000000) (disch:=omega) only [go_sem,Nat.reduceAdd,Nat.reduceSub,Nat.reduceMul,Nat.reduceBEq,Nat.reduceEqDiff,Nat.reduceLT,Nat.reduceLeDiff,Nat.reduceDiv,reduceIte,reduceCtorEq, d3]
    refine ⟨(f, doM op arg (incM m)), by simp, ⟨by simp; omega, ?_, d3, h4⟩, ?_⟩
    · have hpcs := doM_pc (n := code.length) (m := incM m) (by show 0 ≤ m.pc + 1; omega) (by show m.pc + 1 ≤ _; omega) h2.len hmay d3
      have hlow := doM_low okI hmay
      exact ⟨hpcs.1, hpcs.2.1, hpcs.2.2, hlow.sk, hlow.cells, hlow.fr0, hlow.fr1⟩
    try (refine zs ?_; try exact trivial)
    all_goals first | exact leCs_refl _ | (congr 1; omega)
  rw [if_pos d3] at h4
  cases h4
  simp (maxSteps:=2000000) (disch:=omega) only [go_sem,Nat.reduceAdd,Nat.reduceSub,Nat.reduceMul,Nat.reduceBEq,Nat.reduceEqDiff,Nat.reduceLT,Nat.reduceLeDiff,Nat.reduceDiv,reduceIte,reduceCtorEq, d3]
  all_goals exact leCs_refl _
end
end Go.Proofs.YtgeelaafmnedmaaGreat
