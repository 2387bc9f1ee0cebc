/- The logic: states of a game as rows of twenty cells. -/
import Derived.Test.YtamcjecgkfmjkaaOc
open Go Go.RowKit
namespace Go.Proofs.Ytamcjecgkfmjkaa
set_option linter.unusedSimpArgs false
set_option linter.unusedVariables false
/-- a state -/
structure Sta where
  frame : Int
  cells : List Int
  seed : UInt32
  over : Bool
  win : Int
  len : cells.length = 16
theorem Sta.ext' {a b : Sta} (h1 : a.frame = b.frame) (h2 : a.cells = b.cells) (h3 : a.seed = b.seed) (h4 : a.over = b.over) (h5 : a.win = b.win) : a = b := by
  cases a; cases b; simp_all
def c32 (l : List Int) : List D := l.map fun n => .val (.int .i32 n)
def sd (s : Sta) : List D := .val (.int .i64 s.frame) :: (c32 s.cells ++ [.val (.int .u32 (U32 s.seed)), .val (.bool s.over), .val (.int .i64 s.win)])
def sds (l : List Sta) : List D := (l.map sd).flatten
/-- nothing but a frame and a seed -/
def stz (f : Int) (n : UInt32) : Sta := ⟨f, List.replicate 16 0, n, false, 0, rfl⟩
@[go_sem] theorem c32_len {l : List Int} : (c32 l).length = l.length := by simp [c32]
@[go_sem] theorem sd_len {s : Sta} : (sd s).length = 20 := by simp [sd, c32, s.len]
@[go_sem] theorem sds_nil : sds [] = [] := nr rfl
theorem sds_cons {s : Sta} {l : List Sta} : sds (s :: l) = sd s ++ sds l := by simp [sds]
@[go_sem] theorem sds_len {l : List Sta} : (sds l).length = l.length * 20 := by
  induction l with
  | nil => rfl
  | cons s l ih => rw [sds_cons, List.length_append, sd_len, ih, List.length_cons]; omega
@[go_sem] theorem sds_app {a b : List Sta} : sds a ++ sds b = sds (a ++ b) := by simp [sds]
@[go_sem] theorem sds_app1 {a : List Sta} {s : Sta} : sds a ++ sd s = sds (a ++ [s]) := by simp [sds]
theorem sds_one {s : Sta} : sds [s] = sd s := by simp [sds]
theorem sds_take (l : List Sta) (k : Nat) : (sds l).take (k * 20) = sds (l.take k) := by
  induction l generalizing k with
  | nil => simp [sds]
  | cons s l ih =>
    cases k with
    | zero => simp [sds]
    | succ k => rw [sds_cons, List.take_succ_cons, sds_cons, List.take_append, sd_len, List.take_of_length_le (by rw [sd_len]; omega), show (k + 1) * 20 - 20 = k * 20 by omega, ih]
theorem sds_drop (l : List Sta) (k : Nat) : (sds l).drop (k * 20) = sds (l.drop k) := by
  induction l generalizing k with
  | nil => simp [sds]
  | cons s l ih =>
    cases k with
    | zero => simp [sds]
    | succ k => rw [sds_cons, List.drop_succ_cons, List.drop_append, sd_len, List.drop_eq_nil_of_le (by rw [sd_len]; omega), show (k + 1) * 20 - 20 = k * 20 by omega, ih]; rfl
theorem sds_at {l : List Sta} {k : Nat} (h : k < l.length) (d : Sta) : (sds l).drop (k * 20) = sd (l.getD k d) ++ sds (l.drop (k + 1)) := by
  rw [sds_drop, List.drop_eq_getElem_cons h, sds_cons]
  simp [List.getD, h]
theorem c32_inj {a b : List Int} (h : c32 a = c32 b) : a = b := by
  induction a generalizing b with
  | nil => cases b with
    | nil => rfl
    | cons y b => simp [c32] at h
  | cons x a ih => cases b with
    | nil => simp [c32] at h
    | cons y b =>
      simp only [c32, List.map_cons, List.cons.injEq, D.val.injEq, Value.int.injEq, true_and] at h
      rw [ih h.2, h.1]
theorem sd_inj {a b : Sta} (h : sd a = sd b) : a = b := by
  unfold sd at h
  simp only [List.cons.injEq, D.val.injEq, Value.int.injEq, true_and] at h
  obtain ⟨h1, h2⟩ := h
  obtain ⟨h3, h4⟩ := List.append_inj h2 (by simp [c32, a.len, b.len])
  simp only [List.cons.injEq, D.val.injEq, Value.int.injEq, Value.bool.injEq, true_and, and_true] at h4
  exact Sta.ext' h1 (c32_inj h3) (U32_inj.1 h4.1) h4.2.1 h4.2.2
section
variable {P : Program} {V' : V → Prop} {K : C → Prop} {s : Sta} {l : List Sta} {r : List D} {o : Own} {nl : Option Bool} {k : IntKind} {a b : Int} {t : TypeId} {i j : Nat}
/-! ### a state's cells -/
theorem sd0 : ((sd s ++ r).map D.toC)[0]? = some (.val (.int .i64 s.frame)) := nr rfl
theorem sdk (x : D) (h : (sd s)[i]? = some x) : ((sd s ++ r).map D.toC)[i]? = some x.toC := by
  have : i < (sd s).length := (List.getElem?_eq_some_iff.1 h).1
  rw [List.getElem?_map, List.getElem?_append_left this, h]; rfl
theorem sd17 : (sd s)[17]? = some (.val (.int .u32 (U32 s.seed))) := by
  unfold sd
  rw [List.getElem?_cons_succ, List.getElem?_append_right (by simp [c32, s.len])]
  simp [c32, s.len]
theorem sd18 : (sd s)[18]? = some (.val (.bool s.over)) := by
  unfold sd
  rw [List.getElem?_cons_succ, List.getElem?_append_right (by simp [c32, s.len])]
  simp [c32, s.len]
theorem sd19 : (sd s)[19]? = some (.val (.int .i64 s.win)) := by
  unfold sd
  rw [List.getElem?_cons_succ, List.getElem?_append_right (by simp [c32, s.len])]
  simp [c32, s.len]
theorem ex_some {α : Type} {q : Option α} {x : α} {K : α → Prop} (h : q = some x) : (∃ c, q = some c ∧ K c) = K x := by subst h; simp
@[go_sem ↓ 1200] theorem m_sd0 : (∃ c, ((sd s).map D.toC)[0]? = some c ∧ K c) = K (.val (.int .i64 s.frame)) := ex_some rfl
@[go_sem ↓ 1200] theorem m_sd17 : (∃ c, ((sd s).map D.toC)[17]? = some c ∧ K c) = K (.val (.int .u32 (U32 s.seed))) := ex_some (by rw [List.getElem?_map, sd17]; rfl)
@[go_sem ↓ 1200] theorem m_sd18 : (∃ c, ((sd s).map D.toC)[18]? = some c ∧ K c) = K (.val (.bool s.over)) := ex_some (by rw [List.getElem?_map, sd18]; rfl)
@[go_sem ↓ 1200] theorem m_sd19 : (∃ c, ((sd s).map D.toC)[19]? = some c ∧ K c) = K (.val (.int .i64 s.win)) := ex_some (by rw [List.getElem?_map, sd19]; rfl)
@[go_sem ↓ 1200] theorem m_sdr0 : (∃ c, (((sd s ++ r).drop 0).map D.toC)[0]? = some c ∧ K c) = K (.val (.int .i64 s.frame)) := ex_some rfl
@[go_sem ↓ 1200] theorem m_sdr0' : (∃ c, ((sd s ++ r).map D.toC)[0]? = some c ∧ K c) = K (.val (.int .i64 s.frame)) := ex_some rfl
theorem toC_take {xs : List D} {n : Nat} : (xs.map D.toC).take n = (xs.take n).map D.toC := by simp
theorem toC_drop {xs : List D} {n : Nat} : (xs.map D.toC).drop n = (xs.drop n).map D.toC := by simp
/-- the whole of it -/
@[go_sem ↓ 1200] theorem p_sd : aPt (some true) 20 ((sd s).map D.toC) 0 V' = V' (.w (.agg ((sd s).map D.toC))) := by
  simp only [aPt, List.length_map, sd_len, List.drop_zero]
  rw [List.take_of_length_le (by simp [sd_len])]
  simp
@[go_sem ↓ 1200] theorem p_sdr : aPt (some true) 20 ((sd s ++ r).map D.toC) 0 V' = V' (.w (.agg ((sd s).map D.toC))) := by
  simp only [aPt, List.length_map, List.length_append, sd_len, List.drop_zero]
  rw [toC_take, List.take_left' sd_len]
  simp
@[go_sem ↓ 1200] theorem p_sc : aPt (some true) 16 ((sd s).map D.toC) 1 V' = V' (.w (.agg ((c32 s.cells).map D.toC))) := by
  simp only [aPt, List.length_map, sd_len]
  rw [toC_drop, toC_take]
  have : ((sd s).drop 1).take 16 = c32 s.cells := by
    unfold sd
    rw [List.drop_succ_cons, List.drop_zero, List.take_left' (by simp [c32, s.len])]
  rw [this]
  simp
@[go_sem ↓ 1200] theorem p_c32 {l : List Int} (h : i < l.length) : (∃ c, ((c32 l).map D.toC)[i]? = some c ∧ K c) = K (.val (.int .i32 (l.getD i 0))) :=
  ex_some (by simp [c32, h, D.toC])
/-! ### rows of states -/
@[go_sem ↓ 1200] theorem e_IAs {d : Sta} (h0 : 0 ≤ a) (h1 : a < l.length) : aIA (some (none, t, 20)) (.cell (.lst o nl 20 (sds l))) a V' = V' (.cell (.mem (sd (l.getD a.toNat (stz 0 0)) ++ sds (l.drop (a.toNat + 1))))) := by
  have h2 : a.toNat < l.length := by omega
  rw [← sds_at h2]
  simp only [aIA, sds_len, h0, true_and]
  have : a * ((20 : Nat) : Int) < ((l.length * 20 : Nat) : Int) := by omega
  simp only [this, true_and]
@[go_sem ↓ 1200] theorem e_lens : aLen P t (.cell (.lst o nl 20 (sds l))) V' = (isSlcT P t = true ∧ V' (.int .i64 l.length)) := by
  simp only [aLen, sds_len, Nat.mul_div_cancel _ (show 0 < 20 by omega)]
def slB20 (q : Option (Option Nat × TypeId × Nat)) : Prop := match q with
  | some (none, _, 20) => True
  | _ => False
@[go_sem] theorem slB20_1 {e : Nat} : slB20 (some (none, e, 20)) = True := nr rfl
theorem slB20_eq {q : Option (Option Nat × TypeId × Nat)} : slB20 q = ∃ e, q = some (none, e, 20) := by
  unfold slB20
  split
  · exact (eq_true ⟨_, rfl⟩).symm
  · rename_i h; exact (eq_false fun ⟨e, he⟩ => h e he).symm
@[congr] theorem cg_slB20 {q q' : Option (Option Nat × TypeId × Nat)} (h : q = q') : slB20 q = slB20 q' := by rw [h]
@[go_sem ↓] theorem e_slHs (h0 : 0 ≤ b) (h1 : b ≤ l.length) : aSlice P t (.cell (.lst o nl 20 (sds l))) none (some (V.int k b)) V' = (slB20 (idxT P t) ∧ V' (.cell (.lst .no nl 20 (sds (l.take b.toNat))))) := by
  rw [slB20_eq]
  refine propext ⟨fun ⟨e, he, l, h, hl, hh, _, _, _, hk⟩ => ⟨⟨e, he⟩, ?_⟩, fun ⟨⟨e, he⟩, hk⟩ => ⟨e, he, 0, b, rfl, rfl, by omega, h0, by rw [sds_len]; omega, ?_⟩⟩
  · cases hl; cases hh; simpa [sds_take] using hk
  · simpa [sds_take] using hk
@[go_sem ↓] theorem e_slLs (h0 : 0 ≤ a) (h1 : a ≤ l.length) : aSlice P t (.cell (.lst o nl 20 (sds l))) (some (V.int k a)) none V' = (slB20 (idxT P t) ∧ V' (.cell (.lst (cutO o) nl 20 (sds (l.drop a.toNat))))) := by
  rw [slB20_eq]
  have e1 : (sds l).length / 20 = l.length := by rw [sds_len]; omega
  have e2 : List.take (l.length * 20) (sds l) = sds l := List.take_of_length_le (by rw [sds_len]; omega)
  cases o <;> (refine propext ⟨fun ⟨e, he, l, h, hl, hh, _, _, _, hk⟩ => ⟨⟨e, he⟩, ?_⟩, fun ⟨⟨e, he⟩, hk⟩ => ⟨e, he, a, l.length, rfl, by simp [bnd, e1], by omega, h1, by rw [sds_len]; omega, ?_⟩⟩) <;> first | (cases hl; cases hh; simpa [e1, e2, sds_drop, cutO] using hk) | (simpa [e1, e2, sds_drop, cutO] using hk)
/-! ### states in a box -/
@[go_sem ↓ 1200] theorem q_sd (h : j < l.length) : aPt (some true) 20 ((sds l).map D.toC) (j * 20) V' = V' (.w (.agg ((sd (l.getD j (stz 0 0))).map D.toC))) := by
  simp only [aPt, List.length_map, sds_len]
  rw [toC_drop, toC_take, sds_at h (stz 0 0), List.take_left' sd_len]
  have : j * 20 + 20 ≤ l.length * 20 := by omega
  simp [this]
theorem sds_set (h : j < l.length) : (sds l).take (j * 20) ++ sd s ++ (sds l).drop (j * 20 + 20) = sds (l.set j s) := by
  rw [show j * 20 + 20 = (j + 1) * 20 by omega, sds_take, sds_drop, sds_app1, sds_app, List.set_eq_take_append_cons_drop, if_pos h]
  simp
@[go_sem ↓ 1200] theorem spl_sds (h : j < l.length) : spl ((sds l).map D.toC) (j * 20) ((sd s).map D.toC) = (sds (l.set j s)).map D.toC := by
  rw [spl_eq (by simp [sds_len, sd_len]; omega)]
  rw [List.length_map, sd_len, toC_take, toC_drop, ← List.map_append, ← List.map_append, sds_set h]
theorem toC_rep (n : Nat) : (List.replicate n ((sd (stz 0 0)).map D.toC)).flatten = (sds (List.replicate n (stz 0 0))).map D.toC := by
  simp only [sds, List.map_flatten, List.map_replicate]
end
@[go_sem] theorem toC_len {xs : List D} : (xs.map D.toC).length = xs.length := by simp
@[go_sem] theorem t_sc {s : Sta} : (((sd s).map D.toC).drop 1).take 16 = (c32 s.cells).map D.toC := by
  rw [toC_drop, toC_take]
  unfold sd
  rw [List.drop_succ_cons, List.drop_zero, List.take_left' (by simp [c32, s.len])]
@[go_sem] theorem t_sd {s : Sta} : (((sd s).map D.toC).drop 0).take 20 = (sd s).map D.toC := by
  rw [List.drop_zero, List.take_of_length_le (by simp [sd_len])]
@[go_sem] theorem t_sd' {s : Sta} : ((sd s).map D.toC).take 20 = (sd s).map D.toC := by
  rw [List.take_of_length_le (by simp [sd_len])]
@[go_sem] theorem t_sdr {s : Sta} {r : List D} : (((sd s ++ r).map D.toC).drop 0).take 20 = (sd s).map D.toC := by
  rw [List.drop_zero, toC_take, List.take_left' sd_len]
@[go_sem] theorem t_sds {l : List Sta} {j : Nat} (h : j < l.length) : (((sds l).map D.toC).drop (j * 20)).take 20 = (sd (l.getD j (stz 0 0))).map D.toC := by
  rw [toC_drop, toC_take, sds_at h (stz 0 0), List.take_left' sd_len]
attribute [go_sem] List.length_append
theorem allD_map {xs : List D} : allD (xs.map D.toC) = some xs := by
  induction xs with
  | nil => rfl
  | cons x xs ih => rw [List.map_cons, e_aD, ih]; cases x <;> rfl
attribute [go_sem] allD_map
/-! ### states that are written down -/
@[go_sem 900] theorem f_stz {f z : Int} (h0 : 0 ≤ z) (h1 : z < 4294967296) : W.agg [.val (.int .i64 f), .val (.int .i32 0), .val (.int .i32 0), .val (.int .i32 0), .val (.int .i32 0), .val (.int .i32 0), .val (.int .i32 0), .val (.int .i32 0), .val (.int .i32 0), .val (.int .i32 0), .val (.int .i32 0), .val (.int .i32 0), .val (.int .i32 0), .val (.int .i32 0), .val (.int .i32 0), .val (.int .i32 0), .val (.int .i32 0), .val (.int .u32 z), .val (.bool false), .val (.int .i64 0)] = W.agg ((sd (stz f (UInt32.ofNat z.toNat))).map D.toC) := by
  have : U32 (UInt32.ofNat z.toNat) = z := by unfold U32; rw [UInt32.toNat_ofNat']; omega
  unfold sd stz
  rw [this]
  rfl
@[go_sem] theorem f_stzU {f : Int} {n : UInt32} : W.agg [.val (.int .i64 f), .val (.int .i32 0), .val (.int .i32 0), .val (.int .i32 0), .val (.int .i32 0), .val (.int .i32 0), .val (.int .i32 0), .val (.int .i32 0), .val (.int .i32 0), .val (.int .i32 0), .val (.int .i32 0), .val (.int .i32 0), .val (.int .i32 0), .val (.int .i32 0), .val (.int .i32 0), .val (.int .i32 0), .val (.int .i32 0), .val (.int .u32 (U32 n)), .val (.bool false), .val (.int .i64 0)] = W.agg ((sd (stz f n)).map D.toC) := nr rfl
@[go_sem] theorem f_stz0 {f : Int} : W.agg [.val (.int .i64 f), .val (.int .i32 0), .val (.int .i32 0), .val (.int .i32 0), .val (.int .i32 0), .val (.int .i32 0), .val (.int .i32 0), .val (.int .i32 0), .val (.int .i32 0), .val (.int .i32 0), .val (.int .i32 0), .val (.int .i32 0), .val (.int .i32 0), .val (.int .i32 0), .val (.int .i32 0), .val (.int .i32 0), .val (.int .i32 0), .val (.int .u32 0), .val (.bool false), .val (.int .i64 0)] = W.agg ((sd (stz f 0)).map D.toC) := nr rfl
theorem spl_sd' {x : Sta} {y : Sta} {l : List C} (h : l = (sd y).map D.toC) : spl ((sd x).map D.toC) 0 l = (sd y).map D.toC := by
  rw [h, spl_eq (by simp [sd_len]), List.take_zero, List.nil_append, List.drop_eq_nil_of_le (by simp [sd_len]), List.append_nil]
@[go_sem 1150] theorem spl_stz {x : Sta} {f z : Int} (h0 : 0 ≤ z) (h1 : z < 4294967296) : spl ((sd x).map D.toC) 0 [.val (.int .i64 f), .val (.int .i32 0), .val (.int .i32 0), .val (.int .i32 0), .val (.int .i32 0), .val (.int .i32 0), .val (.int .i32 0), .val (.int .i32 0), .val (.int .i32 0), .val (.int .i32 0), .val (.int .i32 0), .val (.int .i32 0), .val (.int .i32 0), .val (.int .i32 0), .val (.int .i32 0), .val (.int .i32 0), .val (.int .i32 0), .val (.int .u32 z), .val (.bool false), .val (.int .i64 0)] = (sd (stz f (UInt32.ofNat z.toNat))).map D.toC := by
  have : U32 (UInt32.ofNat z.toNat) = z := by unfold U32; rw [UInt32.toNat_ofNat']; omega
  refine spl_sd' ?_
  unfold sd stz
  rw [this]
  rfl
@[go_sem 1200] theorem spl_stzU {x : Sta} {f : Int} {n : UInt32} : spl ((sd x).map D.toC) 0 [.val (.int .i64 f), .val (.int .i32 0), .val (.int .i32 0), .val (.int .i32 0), .val (.int .i32 0), .val (.int .i32 0), .val (.int .i32 0), .val (.int .i32 0), .val (.int .i32 0), .val (.int .i32 0), .val (.int .i32 0), .val (.int .i32 0), .val (.int .i32 0), .val (.int .i32 0), .val (.int .i32 0), .val (.int .i32 0), .val (.int .i32 0), .val (.int .u32 (U32 n)), .val (.bool false), .val (.int .i64 0)] = (sd (stz f n)).map D.toC := spl_sd' rfl
@[go_sem 1200] theorem spl_stz0 {x : Sta} {f : Int} : spl ((sd x).map D.toC) 0 [.val (.int .i64 f), .val (.int .i32 0), .val (.int .i32 0), .val (.int .i32 0), .val (.int .i32 0), .val (.int .i32 0), .val (.int .i32 0), .val (.int .i32 0), .val (.int .i32 0), .val (.int .i32 0), .val (.int .i32 0), .val (.int .i32 0), .val (.int .i32 0), .val (.int .i32 0), .val (.int .i32 0), .val (.int .i32 0), .val (.int .i32 0), .val (.int .u32 0), .val (.bool false), .val (.int .i64 0)] = (sd (stz f 0)).map D.toC := spl_sd' rfl
@[go_sem] theorem b_stzU {i : Id} {f : Int} {n : UInt32} : ((i, [.val (.int .i64 f), .val (.int .i32 0), .val (.int .i32 0), .val (.int .i32 0), .val (.int .i32 0), .val (.int .i32 0), .val (.int .i32 0), .val (.int .i32 0), .val (.int .i32 0), .val (.int .i32 0), .val (.int .i32 0), .val (.int .i32 0), .val (.int .i32 0), .val (.int .i32 0), .val (.int .i32 0), .val (.int .i32 0), .val (.int .i32 0), .val (.int .u32 (U32 n)), .val (.bool false), .val (.int .i64 0)]) : Id × List C) = (i, (sd (stz f n)).map D.toC) := nr rfl
@[go_sem] theorem b_stz0 {i : Id} {f : Int} : ((i, [.val (.int .i64 f), .val (.int .i32 0), .val (.int .i32 0), .val (.int .i32 0), .val (.int .i32 0), .val (.int .i32 0), .val (.int .i32 0), .val (.int .i32 0), .val (.int .i32 0), .val (.int .i32 0), .val (.int .i32 0), .val (.int .i32 0), .val (.int .i32 0), .val (.int .i32 0), .val (.int .i32 0), .val (.int .i32 0), .val (.int .i32 0), .val (.int .u32 0), .val (.bool false), .val (.int .i64 0)]) : Id × List C) = (i, (sd (stz f 0)).map D.toC) := nr rfl
@[go_sem] theorem t_lit0 {f : Int} : List.take 20 (List.drop 0 ([.val (.int .i64 f), .val (.int .i32 0), .val (.int .i32 0), .val (.int .i32 0), .val (.int .i32 0), .val (.int .i32 0), .val (.int .i32 0), .val (.int .i32 0), .val (.int .i32 0), .val (.int .i32 0), .val (.int .i32 0), .val (.int .i32 0), .val (.int .i32 0), .val (.int .i32 0), .val (.int .i32 0), .val (.int .i32 0), .val (.int .i32 0), .val (.int .u32 0), .val (.bool false), .val (.int .i64 0)] : List C)) = (sd (stz f 0)).map D.toC := nr rfl
@[go_sem] theorem t_litU {f : Int} {n : UInt32} : List.take 20 (List.drop 0 ([.val (.int .i64 f), .val (.int .i32 0), .val (.int .i32 0), .val (.int .i32 0), .val (.int .i32 0), .val (.int .i32 0), .val (.int .i32 0), .val (.int .i32 0), .val (.int .i32 0), .val (.int .i32 0), .val (.int .i32 0), .val (.int .i32 0), .val (.int .i32 0), .val (.int .i32 0), .val (.int .i32 0), .val (.int .i32 0), .val (.int .i32 0), .val (.int .u32 (U32 n)), .val (.bool false), .val (.int .i64 0)] : List C)) = (sd (stz f n)).map D.toC := nr rfl
@[go_sem 1200] theorem spl_lit0 {f : Int} {y : Sta} : spl ([.val (.int .i64 f), .val (.int .i32 0), .val (.int .i32 0), .val (.int .i32 0), .val (.int .i32 0), .val (.int .i32 0), .val (.int .i32 0), .val (.int .i32 0), .val (.int .i32 0), .val (.int .i32 0), .val (.int .i32 0), .val (.int .i32 0), .val (.int .i32 0), .val (.int .i32 0), .val (.int .i32 0), .val (.int .i32 0), .val (.int .i32 0), .val (.int .u32 0), .val (.bool false), .val (.int .i64 0)] : List C) 0 ((sd y).map D.toC) = (sd y).map D.toC := spl_sd' (x := stz f 0) rfl
@[go_sem 1200] theorem spl_litU {f : Int} {n : UInt32} {y : Sta} : spl ([.val (.int .i64 f), .val (.int .i32 0), .val (.int .i32 0), .val (.int .i32 0), .val (.int .i32 0), .val (.int .i32 0), .val (.int .i32 0), .val (.int .i32 0), .val (.int .i32 0), .val (.int .i32 0), .val (.int .i32 0), .val (.int .i32 0), .val (.int .i32 0), .val (.int .i32 0), .val (.int .i32 0), .val (.int .i32 0), .val (.int .i32 0), .val (.int .u32 (U32 n)), .val (.bool false), .val (.int .i64 0)] : List C) 0 ((sd y).map D.toC) = (sd y).map D.toC := spl_sd' (x := stz f n) rfl
@[go_sem ↓ 1200] theorem spl_sd {x y : Sta} : spl ((sd x).map D.toC) 0 ((sd y).map D.toC) = (sd y).map D.toC := by
  rw [spl_eq (by simp [sd_len]), List.take_zero, List.nil_append, List.drop_eq_nil_of_le (by simp [sd_len]), List.append_nil]
end Go.Proofs.Ytamcjecgkfmjkaa
