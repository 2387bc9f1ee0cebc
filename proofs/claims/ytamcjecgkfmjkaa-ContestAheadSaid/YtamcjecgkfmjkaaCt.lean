/- Chapter 18: the cells of a Contest (written by genbox.py) -/
import Derived.Test.YtamcjecgkfmjkaaBx
open Go Go.RowKit
namespace Go.Proofs.Ytamcjecgkfmjkaa
set_option linter.unusedSimpArgs false
set_option linter.unusedVariables false
set_option maxRecDepth 20000
theorem leCs_app {a b c d : List C} (h1 : leCs a b) (h2 : leCs c d) : leCs (a ++ c) (b ++ d) := by
  induction a generalizing b with
  | nil => cases b with
    | nil => exact h2
    | cons y b => cases h1
  | cons x a ih => cases b with
    | nil => cases h1
    | cons y b => exact ⟨h1.1, ih h1.2⟩
def ctC (rc : C) (cap : Int) (fuel : Int) (p0 : Int) (p1 : Int) (seed : UInt32) (l0 : Int) (l1 : Int) (c0 : Int) (c1 : Int) (over : Bool) (winner : Int) (why : Int) (opn : Bool) (r0 : C) (r1 : C) (rp : C) (s : Sta) (re : C) : List C := [rc, .val (.int .i64 cap), .val (.int .i64 fuel), .val (.int .i64 p0), .val (.int .i64 p1), .val (.int .u32 (U32 seed)), .val (.int .i64 l0), .val (.int .i64 l1), .val (.int .i64 c0), .val (.int .i64 c1), .val (.bool over), .val (.int .i64 winner), .val (.int .i64 why), .val (.bool opn), r0, r1, rp] ++ ((sd s).map D.toC ++ [re])
section
variable {rc : C} {cap : Int} {fuel : Int} {p0 : Int} {p1 : Int} {seed : UInt32} {l0 : Int} {l1 : Int} {c0 : Int} {c1 : Int} {over : Bool} {winner : Int} {why : Int} {opn : Bool} {r0 : C} {r1 : C} {rp : C} {s : Sta} {re : C} {V' : V → Prop} {K : C → Prop} {ks : List Id} {m : Nat}
@[go_sem] theorem ct_l : (ctC rc cap fuel p0 p1 seed l0 l1 c0 c1 over winner why opn r0 r1 rp s re).length = 38 := by
  unfold ctC
  simp only [List.length_append, List.length_map, sd_len, List.length_cons, List.length_nil]
@[go_sem] theorem ct_k {bi : Id → Bool} {bt : Tag → Bool} : (ctC rc cap fuel p0 p1 seed l0 l1 c0 c1 over winner why opn r0 r1 rp s re).map (C.clean bi bt) = (ctC (C.clean bi bt rc) cap fuel p0 p1 seed l0 l1 c0 c1 over winner why opn (C.clean bi bt r0) (C.clean bi bt r1) (C.clean bi bt rp) s (C.clean bi bt re)) := by
  unfold ctC
  simp only [List.map_append, List.map_cons, List.map_nil, go_sem]
@[go_sem] theorem ct_r  : (ctC rc cap fuel p0 p1 seed l0 l1 c0 c1 over winner why opn r0 r1 rp s re).map (C.ren ks m) = (ctC (C.ren ks m rc) cap fuel p0 p1 seed l0 l1 c0 c1 over winner why opn (C.ren ks m r0) (C.ren ks m r1) (C.ren ks m rp) s (C.ren ks m re)) := by
  unfold ctC
  simp only [List.map_append, List.map_cons, List.map_nil, go_sem]
@[go_sem] theorem ct_t {ta tb : Tag} : (ctC rc cap fuel p0 p1 seed l0 l1 c0 c1 over winner why opn r0 r1 rp s re).map (C.retag ta tb) = (ctC (C.retag ta tb rc) cap fuel p0 p1 seed l0 l1 c0 c1 over winner why opn (C.retag ta tb r0) (C.retag ta tb r1) (C.retag ta tb rp) s (C.retag ta tb re)) := by
  unfold ctC
  simp only [List.map_append, List.map_cons, List.map_nil, go_sem]
@[go_sem] theorem ct_n : (ctC rc cap fuel p0 p1 seed l0 l1 c0 c1 over winner why opn r0 r1 rp s re).all known = (known rc && known r0 && known r1 && known rp && known re) := by
  unfold ctC
  simp only [List.all_append, List.all_cons, List.all_nil, go_sem, Bool.true_and, Bool.and_true, Bool.and_assoc]
@[go_sem ↓ 1300] theorem ct_m_rc : (∃ c, (ctC rc cap fuel p0 p1 seed l0 l1 c0 c1 over winner why opn r0 r1 rp s re)[0]? = some c ∧ K c) = K (rc) := ex_some (by
  unfold ctC
  first | rfl | (rw [List.getElem?_append_left (by simp)]; rfl))
@[go_sem ↓ 1300] theorem ct_m_cap : (∃ c, (ctC rc cap fuel p0 p1 seed l0 l1 c0 c1 over winner why opn r0 r1 rp s re)[1]? = some c ∧ K c) = K (.val (.int .i64 cap)) := ex_some (by
  unfold ctC
  first | rfl | (rw [List.getElem?_append_left (by simp)]; rfl))
@[go_sem ↓ 1300] theorem ct_m_fuel : (∃ c, (ctC rc cap fuel p0 p1 seed l0 l1 c0 c1 over winner why opn r0 r1 rp s re)[2]? = some c ∧ K c) = K (.val (.int .i64 fuel)) := ex_some (by
  unfold ctC
  first | rfl | (rw [List.getElem?_append_left (by simp)]; rfl))
@[go_sem ↓ 1300] theorem ct_m_p0 : (∃ c, (ctC rc cap fuel p0 p1 seed l0 l1 c0 c1 over winner why opn r0 r1 rp s re)[3]? = some c ∧ K c) = K (.val (.int .i64 p0)) := ex_some (by
  unfold ctC
  first | rfl | (rw [List.getElem?_append_left (by simp)]; rfl))
@[go_sem ↓ 1300] theorem ct_m_p1 : (∃ c, (ctC rc cap fuel p0 p1 seed l0 l1 c0 c1 over winner why opn r0 r1 rp s re)[4]? = some c ∧ K c) = K (.val (.int .i64 p1)) := ex_some (by
  unfold ctC
  first | rfl | (rw [List.getElem?_append_left (by simp)]; rfl))
@[go_sem ↓ 1300] theorem ct_m_seed : (∃ c, (ctC rc cap fuel p0 p1 seed l0 l1 c0 c1 over winner why opn r0 r1 rp s re)[5]? = some c ∧ K c) = K (.val (.int .u32 (U32 seed))) := ex_some (by
  unfold ctC
  first | rfl | (rw [List.getElem?_append_left (by simp)]; rfl))
@[go_sem ↓ 1300] theorem ct_m_l0 : (∃ c, (ctC rc cap fuel p0 p1 seed l0 l1 c0 c1 over winner why opn r0 r1 rp s re)[6]? = some c ∧ K c) = K (.val (.int .i64 l0)) := ex_some (by
  unfold ctC
  first | rfl | (rw [List.getElem?_append_left (by simp)]; rfl))
@[go_sem ↓ 1300] theorem ct_m_l1 : (∃ c, (ctC rc cap fuel p0 p1 seed l0 l1 c0 c1 over winner why opn r0 r1 rp s re)[7]? = some c ∧ K c) = K (.val (.int .i64 l1)) := ex_some (by
  unfold ctC
  first | rfl | (rw [List.getElem?_append_left (by simp)]; rfl))
@[go_sem ↓ 1300] theorem ct_m_c0 : (∃ c, (ctC rc cap fuel p0 p1 seed l0 l1 c0 c1 over winner why opn r0 r1 rp s re)[8]? = some c ∧ K c) = K (.val (.int .i64 c0)) := ex_some (by
  unfold ctC
  first | rfl | (rw [List.getElem?_append_left (by simp)]; rfl))
@[go_sem ↓ 1300] theorem ct_m_c1 : (∃ c, (ctC rc cap fuel p0 p1 seed l0 l1 c0 c1 over winner why opn r0 r1 rp s re)[9]? = some c ∧ K c) = K (.val (.int .i64 c1)) := ex_some (by
  unfold ctC
  first | rfl | (rw [List.getElem?_append_left (by simp)]; rfl))
@[go_sem ↓ 1300] theorem ct_m_over : (∃ c, (ctC rc cap fuel p0 p1 seed l0 l1 c0 c1 over winner why opn r0 r1 rp s re)[10]? = some c ∧ K c) = K (.val (.bool over)) := ex_some (by
  unfold ctC
  first | rfl | (rw [List.getElem?_append_left (by simp)]; rfl))
@[go_sem ↓ 1300] theorem ct_m_winner : (∃ c, (ctC rc cap fuel p0 p1 seed l0 l1 c0 c1 over winner why opn r0 r1 rp s re)[11]? = some c ∧ K c) = K (.val (.int .i64 winner)) := ex_some (by
  unfold ctC
  first | rfl | (rw [List.getElem?_append_left (by simp)]; rfl))
@[go_sem ↓ 1300] theorem ct_m_why : (∃ c, (ctC rc cap fuel p0 p1 seed l0 l1 c0 c1 over winner why opn r0 r1 rp s re)[12]? = some c ∧ K c) = K (.val (.int .i64 why)) := ex_some (by
  unfold ctC
  first | rfl | (rw [List.getElem?_append_left (by simp)]; rfl))
@[go_sem ↓ 1300] theorem ct_m_opn : (∃ c, (ctC rc cap fuel p0 p1 seed l0 l1 c0 c1 over winner why opn r0 r1 rp s re)[13]? = some c ∧ K c) = K (.val (.bool opn)) := ex_some (by
  unfold ctC
  first | rfl | (rw [List.getElem?_append_left (by simp)]; rfl))
@[go_sem ↓ 1300] theorem ct_m_r0 : (∃ c, (ctC rc cap fuel p0 p1 seed l0 l1 c0 c1 over winner why opn r0 r1 rp s re)[14]? = some c ∧ K c) = K (r0) := ex_some (by
  unfold ctC
  first | rfl | (rw [List.getElem?_append_left (by simp)]; rfl))
@[go_sem ↓ 1300] theorem ct_m_r1 : (∃ c, (ctC rc cap fuel p0 p1 seed l0 l1 c0 c1 over winner why opn r0 r1 rp s re)[15]? = some c ∧ K c) = K (r1) := ex_some (by
  unfold ctC
  first | rfl | (rw [List.getElem?_append_left (by simp)]; rfl))
@[go_sem ↓ 1300] theorem ct_m_rp : (∃ c, (ctC rc cap fuel p0 p1 seed l0 l1 c0 c1 over winner why opn r0 r1 rp s re)[16]? = some c ∧ K c) = K (rp) := ex_some (by
  unfold ctC
  first | rfl | (rw [List.getElem?_append_left (by simp)]; rfl))
theorem ct_gs_frame : (ctC rc cap fuel p0 p1 seed l0 l1 c0 c1 over winner why opn r0 r1 rp s re)[17]? = some (.val (.int .i64 s.frame)) := by
  unfold ctC
  rw [List.getElem?_append_right (by first | simp only [List.length_cons, List.length_nil, List.length_map, sd_len]; omega | simp [sd_len])]
  simp only [List.length_cons, List.length_nil, List.length_map, sd_len, Nat.reduceAdd, Nat.reduceSub]
  first | exact get_frame | (rw [List.getElem?_append_left (by rw [sdC_len]; omega)]; exact get_frame)
@[go_sem ↓ 1300] theorem ct_ms_frame : (∃ c, (ctC rc cap fuel p0 p1 seed l0 l1 c0 c1 over winner why opn r0 r1 rp s re)[17]? = some c ∧ K c) = K (.val (.int .i64 s.frame)) := ex_some ct_gs_frame
theorem ct_gs_seed : (ctC rc cap fuel p0 p1 seed l0 l1 c0 c1 over winner why opn r0 r1 rp s re)[34]? = some (.val (.int .u32 (U32 s.seed))) := by
  unfold ctC
  rw [List.getElem?_append_right (by first | simp only [List.length_cons, List.length_nil, List.length_map, sd_len]; omega | simp [sd_len])]
  simp only [List.length_cons, List.length_nil, List.length_map, sd_len, Nat.reduceAdd, Nat.reduceSub]
  first | exact get_seed | (rw [List.getElem?_append_left (by rw [sdC_len]; omega)]; exact get_seed)
@[go_sem ↓ 1300] theorem ct_ms_seed : (∃ c, (ctC rc cap fuel p0 p1 seed l0 l1 c0 c1 over winner why opn r0 r1 rp s re)[34]? = some c ∧ K c) = K (.val (.int .u32 (U32 s.seed))) := ex_some ct_gs_seed
theorem ct_gs_over : (ctC rc cap fuel p0 p1 seed l0 l1 c0 c1 over winner why opn r0 r1 rp s re)[35]? = some (.val (.bool s.over)) := by
  unfold ctC
  rw [List.getElem?_append_right (by first | simp only [List.length_cons, List.length_nil, List.length_map, sd_len]; omega | simp [sd_len])]
  simp only [List.length_cons, List.length_nil, List.length_map, sd_len, Nat.reduceAdd, Nat.reduceSub]
  first | exact get_over | (rw [List.getElem?_append_left (by rw [sdC_len]; omega)]; exact get_over)
@[go_sem ↓ 1300] theorem ct_ms_over : (∃ c, (ctC rc cap fuel p0 p1 seed l0 l1 c0 c1 over winner why opn r0 r1 rp s re)[35]? = some c ∧ K c) = K (.val (.bool s.over)) := ex_some ct_gs_over
theorem ct_gs_win : (ctC rc cap fuel p0 p1 seed l0 l1 c0 c1 over winner why opn r0 r1 rp s re)[36]? = some (.val (.int .i64 s.win)) := by
  unfold ctC
  rw [List.getElem?_append_right (by first | simp only [List.length_cons, List.length_nil, List.length_map, sd_len]; omega | simp [sd_len])]
  simp only [List.length_cons, List.length_nil, List.length_map, sd_len, Nat.reduceAdd, Nat.reduceSub]
  first | exact get_win | (rw [List.getElem?_append_left (by rw [sdC_len]; omega)]; exact get_win)
@[go_sem ↓ 1300] theorem ct_ms_win : (∃ c, (ctC rc cap fuel p0 p1 seed l0 l1 c0 c1 over winner why opn r0 r1 rp s re)[36]? = some c ∧ K c) = K (.val (.int .i64 s.win)) := ex_some ct_gs_win
@[go_sem 1300] theorem ct_as : ((ctC rc cap fuel p0 p1 seed l0 l1 c0 c1 over winner why opn r0 r1 rp s re).drop 17).take 20 = (sd s).map D.toC := by
  unfold ctC
  show List.take 20 ((sd s).map D.toC ++ _) = _
  rw [List.take_left' sdC_len]
@[go_sem ↓ 1300] theorem ct_ps : aPt (some true) 20 (ctC rc cap fuel p0 p1 seed l0 l1 c0 c1 over winner why opn r0 r1 rp s re) 17 V' = V' (.w (.agg ((sd s).map D.toC))) := by
  simp only [aPt, ct_l, ct_as, Nat.reduceAdd, Nat.reduceLeDiff, true_and]
@[go_sem ↓ 1300] theorem ct_m_re : (∃ c, (ctC rc cap fuel p0 p1 seed l0 l1 c0 c1 over winner why opn r0 r1 rp s re)[37]? = some c ∧ K c) = K (re) := ex_some (by
  unfold ctC
  rw [List.getElem?_append_right (by first | simp only [List.length_cons, List.length_nil, List.length_map, sd_len]; omega | simp [sd_len])]
  simp only [List.length_cons, List.length_nil, List.length_map, sd_len, Nat.reduceAdd, Nat.reduceSub]
  rw [List.getElem?_append_right (by first | simp only [List.length_cons, List.length_nil, List.length_map, sd_len]; omega | simp [sd_len])]
  simp only [List.length_cons, List.length_nil, List.length_map, sd_len, Nat.reduceAdd, Nat.reduceSub]
  first | rfl | (rw [List.getElem?_append_left (by simp)]; rfl))
@[go_sem 1300] theorem ct_d0_3 : ((ctC rc cap fuel p0 p1 seed l0 l1 c0 c1 over winner why opn r0 r1 rp s re).drop 0).take 3 = [rc, .val (.int .i64 cap), .val (.int .i64 fuel)] := by
    first
      | rfl
      | (unfold ctC
         rw [show (0 : Nat) = ((sd s).map D.toC).length + 0 from by rw [sdC_len], List.drop_append, List.drop_eq_nil_of_le (by omega), Nat.add_sub_cancel_left]
         rfl)
@[go_sem ↓ 1300] theorem ct_p0_3 : aPt (some true) 3 (ctC rc cap fuel p0 p1 seed l0 l1 c0 c1 over winner why opn r0 r1 rp s re) 0 V' = V' (.w (.agg [rc, .val (.int .i64 cap), .val (.int .i64 fuel)])) := by
  simp only [aPt, ct_l, ct_d0_3, Nat.reduceAdd, Nat.reduceLeDiff, true_and]
@[go_sem 1300] theorem ct_d3_11 : ((ctC rc cap fuel p0 p1 seed l0 l1 c0 c1 over winner why opn r0 r1 rp s re).drop 3).take 11 = [.val (.int .i64 p0), .val (.int .i64 p1), .val (.int .u32 (U32 seed)), .val (.int .i64 l0), .val (.int .i64 l1), .val (.int .i64 c0), .val (.int .i64 c1), .val (.bool over), .val (.int .i64 winner), .val (.int .i64 why), .val (.bool opn)] := by
    first
      | rfl
      | (unfold ctC
         rw [show (3 : Nat) = ((sd s).map D.toC).length + 0 from by rw [sdC_len], List.drop_append, List.drop_eq_nil_of_le (by omega), Nat.add_sub_cancel_left]
         rfl)
@[go_sem ↓ 1300] theorem ct_p3_11 : aPt (some true) 11 (ctC rc cap fuel p0 p1 seed l0 l1 c0 c1 over winner why opn r0 r1 rp s re) 3 V' = V' (.w (.agg [.val (.int .i64 p0), .val (.int .i64 p1), .val (.int .u32 (U32 seed)), .val (.int .i64 l0), .val (.int .i64 l1), .val (.int .i64 c0), .val (.int .i64 c1), .val (.bool over), .val (.int .i64 winner), .val (.int .i64 why), .val (.bool opn)])) := by
  simp only [aPt, ct_l, ct_d3_11, Nat.reduceAdd, Nat.reduceLeDiff, true_and]
@[go_sem 1300] theorem ct_d3_2 : ((ctC rc cap fuel p0 p1 seed l0 l1 c0 c1 over winner why opn r0 r1 rp s re).drop 3).take 2 = [.val (.int .i64 p0), .val (.int .i64 p1)] := by
    first
      | rfl
      | (unfold ctC
         rw [show (3 : Nat) = ((sd s).map D.toC).length + 0 from by rw [sdC_len], List.drop_append, List.drop_eq_nil_of_le (by omega), Nat.add_sub_cancel_left]
         rfl)
@[go_sem ↓ 1300] theorem ct_p3_2 : aPt (some true) 2 (ctC rc cap fuel p0 p1 seed l0 l1 c0 c1 over winner why opn r0 r1 rp s re) 3 V' = V' (.w (.agg [.val (.int .i64 p0), .val (.int .i64 p1)])) := by
  simp only [aPt, ct_l, ct_d3_2, Nat.reduceAdd, Nat.reduceLeDiff, true_and]
@[go_sem 1300] theorem ct_d6_2 : ((ctC rc cap fuel p0 p1 seed l0 l1 c0 c1 over winner why opn r0 r1 rp s re).drop 6).take 2 = [.val (.int .i64 l0), .val (.int .i64 l1)] := by
    first
      | rfl
      | (unfold ctC
         rw [show (6 : Nat) = ((sd s).map D.toC).length + 0 from by rw [sdC_len], List.drop_append, List.drop_eq_nil_of_le (by omega), Nat.add_sub_cancel_left]
         rfl)
@[go_sem ↓ 1300] theorem ct_p6_2 : aPt (some true) 2 (ctC rc cap fuel p0 p1 seed l0 l1 c0 c1 over winner why opn r0 r1 rp s re) 6 V' = V' (.w (.agg [.val (.int .i64 l0), .val (.int .i64 l1)])) := by
  simp only [aPt, ct_l, ct_d6_2, Nat.reduceAdd, Nat.reduceLeDiff, true_and]
@[go_sem 1300] theorem ct_d8_2 : ((ctC rc cap fuel p0 p1 seed l0 l1 c0 c1 over winner why opn r0 r1 rp s re).drop 8).take 2 = [.val (.int .i64 c0), .val (.int .i64 c1)] := by
    first
      | rfl
      | (unfold ctC
         rw [show (8 : Nat) = ((sd s).map D.toC).length + 0 from by rw [sdC_len], List.drop_append, List.drop_eq_nil_of_le (by omega), Nat.add_sub_cancel_left]
         rfl)
@[go_sem ↓ 1300] theorem ct_p8_2 : aPt (some true) 2 (ctC rc cap fuel p0 p1 seed l0 l1 c0 c1 over winner why opn r0 r1 rp s re) 8 V' = V' (.w (.agg [.val (.int .i64 c0), .val (.int .i64 c1)])) := by
  simp only [aPt, ct_l, ct_d8_2, Nat.reduceAdd, Nat.reduceLeDiff, true_and]
@[go_sem 1300] theorem ct_s_rc {x : C} : spl (ctC rc cap fuel p0 p1 seed l0 l1 c0 c1 over winner why opn r0 r1 rp s re) 0 [x] = (ctC (x) cap fuel p0 p1 seed l0 l1 c0 c1 over winner why opn r0 r1 rp s re) := rfl
@[go_sem 1300] theorem ct_u_rc {x : C} : (ctC rc cap fuel p0 p1 seed l0 l1 c0 c1 over winner why opn r0 r1 rp s re).set 0 (x) = (ctC (x) cap fuel p0 p1 seed l0 l1 c0 c1 over winner why opn r0 r1 rp s re) := show spl (ctC rc cap fuel p0 p1 seed l0 l1 c0 c1 over winner why opn r0 r1 rp s re) 0 [x] = _ from ct_s_rc
@[go_sem 1300] theorem ct_s_cap {x : Int} : spl (ctC rc cap fuel p0 p1 seed l0 l1 c0 c1 over winner why opn r0 r1 rp s re) 1 [.val (.int .i64 x)] = (ctC rc (x) fuel p0 p1 seed l0 l1 c0 c1 over winner why opn r0 r1 rp s re) := rfl
@[go_sem 1300] theorem ct_u_cap {x : Int} : (ctC rc cap fuel p0 p1 seed l0 l1 c0 c1 over winner why opn r0 r1 rp s re).set 1 (.val (.int .i64 x)) = (ctC rc (x) fuel p0 p1 seed l0 l1 c0 c1 over winner why opn r0 r1 rp s re) := show spl (ctC rc cap fuel p0 p1 seed l0 l1 c0 c1 over winner why opn r0 r1 rp s re) 1 [.val (.int .i64 x)] = _ from ct_s_cap
@[go_sem 1300] theorem ct_s_fuel {x : Int} : spl (ctC rc cap fuel p0 p1 seed l0 l1 c0 c1 over winner why opn r0 r1 rp s re) 2 [.val (.int .i64 x)] = (ctC rc cap (x) p0 p1 seed l0 l1 c0 c1 over winner why opn r0 r1 rp s re) := rfl
@[go_sem 1300] theorem ct_u_fuel {x : Int} : (ctC rc cap fuel p0 p1 seed l0 l1 c0 c1 over winner why opn r0 r1 rp s re).set 2 (.val (.int .i64 x)) = (ctC rc cap (x) p0 p1 seed l0 l1 c0 c1 over winner why opn r0 r1 rp s re) := show spl (ctC rc cap fuel p0 p1 seed l0 l1 c0 c1 over winner why opn r0 r1 rp s re) 2 [.val (.int .i64 x)] = _ from ct_s_fuel
@[go_sem 1300] theorem ct_s_p0 {x : Int} : spl (ctC rc cap fuel p0 p1 seed l0 l1 c0 c1 over winner why opn r0 r1 rp s re) 3 [.val (.int .i64 x)] = (ctC rc cap fuel (x) p1 seed l0 l1 c0 c1 over winner why opn r0 r1 rp s re) := rfl
@[go_sem 1300] theorem ct_u_p0 {x : Int} : (ctC rc cap fuel p0 p1 seed l0 l1 c0 c1 over winner why opn r0 r1 rp s re).set 3 (.val (.int .i64 x)) = (ctC rc cap fuel (x) p1 seed l0 l1 c0 c1 over winner why opn r0 r1 rp s re) := show spl (ctC rc cap fuel p0 p1 seed l0 l1 c0 c1 over winner why opn r0 r1 rp s re) 3 [.val (.int .i64 x)] = _ from ct_s_p0
@[go_sem 1300] theorem ct_s_p1 {x : Int} : spl (ctC rc cap fuel p0 p1 seed l0 l1 c0 c1 over winner why opn r0 r1 rp s re) 4 [.val (.int .i64 x)] = (ctC rc cap fuel p0 (x) seed l0 l1 c0 c1 over winner why opn r0 r1 rp s re) := rfl
@[go_sem 1300] theorem ct_u_p1 {x : Int} : (ctC rc cap fuel p0 p1 seed l0 l1 c0 c1 over winner why opn r0 r1 rp s re).set 4 (.val (.int .i64 x)) = (ctC rc cap fuel p0 (x) seed l0 l1 c0 c1 over winner why opn r0 r1 rp s re) := show spl (ctC rc cap fuel p0 p1 seed l0 l1 c0 c1 over winner why opn r0 r1 rp s re) 4 [.val (.int .i64 x)] = _ from ct_s_p1
@[go_sem 1300] theorem ct_s_seed {x : UInt32} : spl (ctC rc cap fuel p0 p1 seed l0 l1 c0 c1 over winner why opn r0 r1 rp s re) 5 [.val (.int .u32 (U32 x))] = (ctC rc cap fuel p0 p1 (x) l0 l1 c0 c1 over winner why opn r0 r1 rp s re) := rfl
@[go_sem 1300] theorem ct_u_seed {x : UInt32} : (ctC rc cap fuel p0 p1 seed l0 l1 c0 c1 over winner why opn r0 r1 rp s re).set 5 (.val (.int .u32 (U32 x))) = (ctC rc cap fuel p0 p1 (x) l0 l1 c0 c1 over winner why opn r0 r1 rp s re) := show spl (ctC rc cap fuel p0 p1 seed l0 l1 c0 c1 over winner why opn r0 r1 rp s re) 5 [.val (.int .u32 (U32 x))] = _ from ct_s_seed
@[go_sem 1300] theorem ct_s_l0 {x : Int} : spl (ctC rc cap fuel p0 p1 seed l0 l1 c0 c1 over winner why opn r0 r1 rp s re) 6 [.val (.int .i64 x)] = (ctC rc cap fuel p0 p1 seed (x) l1 c0 c1 over winner why opn r0 r1 rp s re) := rfl
@[go_sem 1300] theorem ct_u_l0 {x : Int} : (ctC rc cap fuel p0 p1 seed l0 l1 c0 c1 over winner why opn r0 r1 rp s re).set 6 (.val (.int .i64 x)) = (ctC rc cap fuel p0 p1 seed (x) l1 c0 c1 over winner why opn r0 r1 rp s re) := show spl (ctC rc cap fuel p0 p1 seed l0 l1 c0 c1 over winner why opn r0 r1 rp s re) 6 [.val (.int .i64 x)] = _ from ct_s_l0
@[go_sem 1300] theorem ct_s_l1 {x : Int} : spl (ctC rc cap fuel p0 p1 seed l0 l1 c0 c1 over winner why opn r0 r1 rp s re) 7 [.val (.int .i64 x)] = (ctC rc cap fuel p0 p1 seed l0 (x) c0 c1 over winner why opn r0 r1 rp s re) := rfl
@[go_sem 1300] theorem ct_u_l1 {x : Int} : (ctC rc cap fuel p0 p1 seed l0 l1 c0 c1 over winner why opn r0 r1 rp s re).set 7 (.val (.int .i64 x)) = (ctC rc cap fuel p0 p1 seed l0 (x) c0 c1 over winner why opn r0 r1 rp s re) := show spl (ctC rc cap fuel p0 p1 seed l0 l1 c0 c1 over winner why opn r0 r1 rp s re) 7 [.val (.int .i64 x)] = _ from ct_s_l1
@[go_sem 1300] theorem ct_s_c0 {x : Int} : spl (ctC rc cap fuel p0 p1 seed l0 l1 c0 c1 over winner why opn r0 r1 rp s re) 8 [.val (.int .i64 x)] = (ctC rc cap fuel p0 p1 seed l0 l1 (x) c1 over winner why opn r0 r1 rp s re) := rfl
@[go_sem 1300] theorem ct_u_c0 {x : Int} : (ctC rc cap fuel p0 p1 seed l0 l1 c0 c1 over winner why opn r0 r1 rp s re).set 8 (.val (.int .i64 x)) = (ctC rc cap fuel p0 p1 seed l0 l1 (x) c1 over winner why opn r0 r1 rp s re) := show spl (ctC rc cap fuel p0 p1 seed l0 l1 c0 c1 over winner why opn r0 r1 rp s re) 8 [.val (.int .i64 x)] = _ from ct_s_c0
@[go_sem 1300] theorem ct_s_c1 {x : Int} : spl (ctC rc cap fuel p0 p1 seed l0 l1 c0 c1 over winner why opn r0 r1 rp s re) 9 [.val (.int .i64 x)] = (ctC rc cap fuel p0 p1 seed l0 l1 c0 (x) over winner why opn r0 r1 rp s re) := rfl
@[go_sem 1300] theorem ct_u_c1 {x : Int} : (ctC rc cap fuel p0 p1 seed l0 l1 c0 c1 over winner why opn r0 r1 rp s re).set 9 (.val (.int .i64 x)) = (ctC rc cap fuel p0 p1 seed l0 l1 c0 (x) over winner why opn r0 r1 rp s re) := show spl (ctC rc cap fuel p0 p1 seed l0 l1 c0 c1 over winner why opn r0 r1 rp s re) 9 [.val (.int .i64 x)] = _ from ct_s_c1
@[go_sem 1300] theorem ct_s_over {x : Bool} : spl (ctC rc cap fuel p0 p1 seed l0 l1 c0 c1 over winner why opn r0 r1 rp s re) 10 [.val (.bool x)] = (ctC rc cap fuel p0 p1 seed l0 l1 c0 c1 (x) winner why opn r0 r1 rp s re) := rfl
@[go_sem 1300] theorem ct_u_over {x : Bool} : (ctC rc cap fuel p0 p1 seed l0 l1 c0 c1 over winner why opn r0 r1 rp s re).set 10 (.val (.bool x)) = (ctC rc cap fuel p0 p1 seed l0 l1 c0 c1 (x) winner why opn r0 r1 rp s re) := show spl (ctC rc cap fuel p0 p1 seed l0 l1 c0 c1 over winner why opn r0 r1 rp s re) 10 [.val (.bool x)] = _ from ct_s_over
@[go_sem 1300] theorem ct_s_winner {x : Int} : spl (ctC rc cap fuel p0 p1 seed l0 l1 c0 c1 over winner why opn r0 r1 rp s re) 11 [.val (.int .i64 x)] = (ctC rc cap fuel p0 p1 seed l0 l1 c0 c1 over (x) why opn r0 r1 rp s re) := rfl
@[go_sem 1300] theorem ct_u_winner {x : Int} : (ctC rc cap fuel p0 p1 seed l0 l1 c0 c1 over winner why opn r0 r1 rp s re).set 11 (.val (.int .i64 x)) = (ctC rc cap fuel p0 p1 seed l0 l1 c0 c1 over (x) why opn r0 r1 rp s re) := show spl (ctC rc cap fuel p0 p1 seed l0 l1 c0 c1 over winner why opn r0 r1 rp s re) 11 [.val (.int .i64 x)] = _ from ct_s_winner
@[go_sem 1300] theorem ct_s_why {x : Int} : spl (ctC rc cap fuel p0 p1 seed l0 l1 c0 c1 over winner why opn r0 r1 rp s re) 12 [.val (.int .i64 x)] = (ctC rc cap fuel p0 p1 seed l0 l1 c0 c1 over winner (x) opn r0 r1 rp s re) := rfl
@[go_sem 1300] theorem ct_u_why {x : Int} : (ctC rc cap fuel p0 p1 seed l0 l1 c0 c1 over winner why opn r0 r1 rp s re).set 12 (.val (.int .i64 x)) = (ctC rc cap fuel p0 p1 seed l0 l1 c0 c1 over winner (x) opn r0 r1 rp s re) := show spl (ctC rc cap fuel p0 p1 seed l0 l1 c0 c1 over winner why opn r0 r1 rp s re) 12 [.val (.int .i64 x)] = _ from ct_s_why
@[go_sem 1300] theorem ct_s_opn {x : Bool} : spl (ctC rc cap fuel p0 p1 seed l0 l1 c0 c1 over winner why opn r0 r1 rp s re) 13 [.val (.bool x)] = (ctC rc cap fuel p0 p1 seed l0 l1 c0 c1 over winner why (x) r0 r1 rp s re) := rfl
@[go_sem 1300] theorem ct_u_opn {x : Bool} : (ctC rc cap fuel p0 p1 seed l0 l1 c0 c1 over winner why opn r0 r1 rp s re).set 13 (.val (.bool x)) = (ctC rc cap fuel p0 p1 seed l0 l1 c0 c1 over winner why (x) r0 r1 rp s re) := show spl (ctC rc cap fuel p0 p1 seed l0 l1 c0 c1 over winner why opn r0 r1 rp s re) 13 [.val (.bool x)] = _ from ct_s_opn
@[go_sem 1300] theorem ct_s_r0 {x : C} : spl (ctC rc cap fuel p0 p1 seed l0 l1 c0 c1 over winner why opn r0 r1 rp s re) 14 [x] = (ctC rc cap fuel p0 p1 seed l0 l1 c0 c1 over winner why opn (x) r1 rp s re) := rfl
@[go_sem 1300] theorem ct_u_r0 {x : C} : (ctC rc cap fuel p0 p1 seed l0 l1 c0 c1 over winner why opn r0 r1 rp s re).set 14 (x) = (ctC rc cap fuel p0 p1 seed l0 l1 c0 c1 over winner why opn (x) r1 rp s re) := show spl (ctC rc cap fuel p0 p1 seed l0 l1 c0 c1 over winner why opn r0 r1 rp s re) 14 [x] = _ from ct_s_r0
@[go_sem 1300] theorem ct_s_r1 {x : C} : spl (ctC rc cap fuel p0 p1 seed l0 l1 c0 c1 over winner why opn r0 r1 rp s re) 15 [x] = (ctC rc cap fuel p0 p1 seed l0 l1 c0 c1 over winner why opn r0 (x) rp s re) := rfl
@[go_sem 1300] theorem ct_u_r1 {x : C} : (ctC rc cap fuel p0 p1 seed l0 l1 c0 c1 over winner why opn r0 r1 rp s re).set 15 (x) = (ctC rc cap fuel p0 p1 seed l0 l1 c0 c1 over winner why opn r0 (x) rp s re) := show spl (ctC rc cap fuel p0 p1 seed l0 l1 c0 c1 over winner why opn r0 r1 rp s re) 15 [x] = _ from ct_s_r1
@[go_sem 1300] theorem ct_s_rp {x : C} : spl (ctC rc cap fuel p0 p1 seed l0 l1 c0 c1 over winner why opn r0 r1 rp s re) 16 [x] = (ctC rc cap fuel p0 p1 seed l0 l1 c0 c1 over winner why opn r0 r1 (x) s re) := rfl
@[go_sem 1300] theorem ct_u_rp {x : C} : (ctC rc cap fuel p0 p1 seed l0 l1 c0 c1 over winner why opn r0 r1 rp s re).set 16 (x) = (ctC rc cap fuel p0 p1 seed l0 l1 c0 c1 over winner why opn r0 r1 (x) s re) := show spl (ctC rc cap fuel p0 p1 seed l0 l1 c0 c1 over winner why opn r0 r1 rp s re) 16 [x] = _ from ct_s_rp
@[go_sem 1300] theorem ct_ss_frame {x : Int} : spl (ctC rc cap fuel p0 p1 seed l0 l1 c0 c1 over winner why opn r0 r1 rp s re) 17 [.val (.int .i64 x)] = (ctC rc cap fuel p0 p1 seed l0 l1 c0 c1 over winner why opn r0 r1 rp (s.wFrame x) re) := by
  unfold ctC
  rw [show (17 : Nat) = ([rc, .val (.int .i64 cap), .val (.int .i64 fuel), .val (.int .i64 p0), .val (.int .i64 p1), .val (.int .u32 (U32 seed)), .val (.int .i64 l0), .val (.int .i64 l1), .val (.int .i64 c0), .val (.int .i64 c1), .val (.bool over), .val (.int .i64 winner), .val (.int .i64 why), .val (.bool opn), r0, r1, rp] : List C).length + 0 from rfl, spl_appR (by simp only [List.length_append, List.length_cons, List.length_nil, sdC_len]; omega)]
  rw [spl_appL (by simp only [List.length_cons, List.length_nil, sdC_len]; omega), spl_frame]
@[go_sem 1300] theorem ct_us_frame {x : Int} : (ctC rc cap fuel p0 p1 seed l0 l1 c0 c1 over winner why opn r0 r1 rp s re).set 17 (.val (.int .i64 x)) = (ctC rc cap fuel p0 p1 seed l0 l1 c0 c1 over winner why opn r0 r1 rp (s.wFrame x) re) := show spl (ctC rc cap fuel p0 p1 seed l0 l1 c0 c1 over winner why opn r0 r1 rp s re) 17 [.val (.int .i64 x)] = _ from ct_ss_frame
@[go_sem 1300] theorem ct_ss_seed {x : UInt32} : spl (ctC rc cap fuel p0 p1 seed l0 l1 c0 c1 over winner why opn r0 r1 rp s re) 34 [.val (.int .u32 (U32 x))] = (ctC rc cap fuel p0 p1 seed l0 l1 c0 c1 over winner why opn r0 r1 rp (s.wSeed x) re) := by
  unfold ctC
  rw [show (34 : Nat) = ([rc, .val (.int .i64 cap), .val (.int .i64 fuel), .val (.int .i64 p0), .val (.int .i64 p1), .val (.int .u32 (U32 seed)), .val (.int .i64 l0), .val (.int .i64 l1), .val (.int .i64 c0), .val (.int .i64 c1), .val (.bool over), .val (.int .i64 winner), .val (.int .i64 why), .val (.bool opn), r0, r1, rp] : List C).length + 17 from rfl, spl_appR (by simp only [List.length_append, List.length_cons, List.length_nil, sdC_len]; omega)]
  rw [spl_appL (by simp only [List.length_cons, List.length_nil, sdC_len]; omega), spl_seed]
@[go_sem 1300] theorem ct_us_seed {x : UInt32} : (ctC rc cap fuel p0 p1 seed l0 l1 c0 c1 over winner why opn r0 r1 rp s re).set 34 (.val (.int .u32 (U32 x))) = (ctC rc cap fuel p0 p1 seed l0 l1 c0 c1 over winner why opn r0 r1 rp (s.wSeed x) re) := show spl (ctC rc cap fuel p0 p1 seed l0 l1 c0 c1 over winner why opn r0 r1 rp s re) 34 [.val (.int .u32 (U32 x))] = _ from ct_ss_seed
@[go_sem 1300] theorem ct_ss_over {x : Bool} : spl (ctC rc cap fuel p0 p1 seed l0 l1 c0 c1 over winner why opn r0 r1 rp s re) 35 [.val (.bool x)] = (ctC rc cap fuel p0 p1 seed l0 l1 c0 c1 over winner why opn r0 r1 rp (s.wOver x) re) := by
  unfold ctC
  rw [show (35 : Nat) = ([rc, .val (.int .i64 cap), .val (.int .i64 fuel), .val (.int .i64 p0), .val (.int .i64 p1), .val (.int .u32 (U32 seed)), .val (.int .i64 l0), .val (.int .i64 l1), .val (.int .i64 c0), .val (.int .i64 c1), .val (.bool over), .val (.int .i64 winner), .val (.int .i64 why), .val (.bool opn), r0, r1, rp] : List C).length + 18 from rfl, spl_appR (by simp only [List.length_append, List.length_cons, List.length_nil, sdC_len]; omega)]
  rw [spl_appL (by simp only [List.length_cons, List.length_nil, sdC_len]; omega), spl_over]
@[go_sem 1300] theorem ct_us_over {x : Bool} : (ctC rc cap fuel p0 p1 seed l0 l1 c0 c1 over winner why opn r0 r1 rp s re).set 35 (.val (.bool x)) = (ctC rc cap fuel p0 p1 seed l0 l1 c0 c1 over winner why opn r0 r1 rp (s.wOver x) re) := show spl (ctC rc cap fuel p0 p1 seed l0 l1 c0 c1 over winner why opn r0 r1 rp s re) 35 [.val (.bool x)] = _ from ct_ss_over
@[go_sem 1300] theorem ct_ss_win {x : Int} : spl (ctC rc cap fuel p0 p1 seed l0 l1 c0 c1 over winner why opn r0 r1 rp s re) 36 [.val (.int .i64 x)] = (ctC rc cap fuel p0 p1 seed l0 l1 c0 c1 over winner why opn r0 r1 rp (s.wWin x) re) := by
  unfold ctC
  rw [show (36 : Nat) = ([rc, .val (.int .i64 cap), .val (.int .i64 fuel), .val (.int .i64 p0), .val (.int .i64 p1), .val (.int .u32 (U32 seed)), .val (.int .i64 l0), .val (.int .i64 l1), .val (.int .i64 c0), .val (.int .i64 c1), .val (.bool over), .val (.int .i64 winner), .val (.int .i64 why), .val (.bool opn), r0, r1, rp] : List C).length + 19 from rfl, spl_appR (by simp only [List.length_append, List.length_cons, List.length_nil, sdC_len]; omega)]
  rw [spl_appL (by simp only [List.length_cons, List.length_nil, sdC_len]; omega), spl_win]
@[go_sem 1300] theorem ct_us_win {x : Int} : (ctC rc cap fuel p0 p1 seed l0 l1 c0 c1 over winner why opn r0 r1 rp s re).set 36 (.val (.int .i64 x)) = (ctC rc cap fuel p0 p1 seed l0 l1 c0 c1 over winner why opn r0 r1 rp (s.wWin x) re) := show spl (ctC rc cap fuel p0 p1 seed l0 l1 c0 c1 over winner why opn r0 r1 rp s re) 36 [.val (.int .i64 x)] = _ from ct_ss_win
@[go_sem 1300] theorem ct_ss {x : Sta} : spl (ctC rc cap fuel p0 p1 seed l0 l1 c0 c1 over winner why opn r0 r1 rp s re) 17 ((sd x).map D.toC) = (ctC rc cap fuel p0 p1 seed l0 l1 c0 c1 over winner why opn r0 r1 rp (x) re) := by
  unfold ctC
  rw [show (17 : Nat) = ([rc, .val (.int .i64 cap), .val (.int .i64 fuel), .val (.int .i64 p0), .val (.int .i64 p1), .val (.int .u32 (U32 seed)), .val (.int .i64 l0), .val (.int .i64 l1), .val (.int .i64 c0), .val (.int .i64 c1), .val (.bool over), .val (.int .i64 winner), .val (.int .i64 why), .val (.bool opn), r0, r1, rp] : List C).length + 0 from rfl, spl_appR (by simp only [List.length_append, List.length_cons, List.length_nil, sdC_len]; omega)]
  rw [spl_appL (by simp only [sdC_len]; omega), spl_all (by simp only [sdC_len])]
@[go_sem 1300] theorem ct_s_re {x : C} : spl (ctC rc cap fuel p0 p1 seed l0 l1 c0 c1 over winner why opn r0 r1 rp s re) 37 [x] = (ctC rc cap fuel p0 p1 seed l0 l1 c0 c1 over winner why opn r0 r1 rp s (x)) := by
  unfold ctC
  rw [show (37 : Nat) = ([rc, .val (.int .i64 cap), .val (.int .i64 fuel), .val (.int .i64 p0), .val (.int .i64 p1), .val (.int .u32 (U32 seed)), .val (.int .i64 l0), .val (.int .i64 l1), .val (.int .i64 c0), .val (.int .i64 c1), .val (.bool over), .val (.int .i64 winner), .val (.int .i64 why), .val (.bool opn), r0, r1, rp] : List C).length + 20 from by first | rfl | rw [sdC_len], spl_appR (by simp only [List.length_append, List.length_cons, List.length_nil, sdC_len]; omega)]
  rw [show (20 : Nat) = ((sd s).map D.toC).length + 0 from by first | rfl | rw [sdC_len], spl_appR (by simp only [List.length_append, List.length_cons, List.length_nil, sdC_len]; omega)]
  rfl
@[go_sem 1300] theorem ct_u_re {x : C} : (ctC rc cap fuel p0 p1 seed l0 l1 c0 c1 over winner why opn r0 r1 rp s re).set 37 (x) = (ctC rc cap fuel p0 p1 seed l0 l1 c0 c1 over winner why opn r0 r1 rp s (x)) := show spl (ctC rc cap fuel p0 p1 seed l0 l1 c0 c1 over winner why opn r0 r1 rp s re) 37 [x] = _ from ct_s_re
@[go_sem 1300] theorem ct_w3_11 {y0 : Int} {y1 : Int} {y2 : UInt32} {y3 : Int} {y4 : Int} {y5 : Int} {y6 : Int} {y7 : Bool} {y8 : Int} {y9 : Int} {y10 : Bool} : spl (ctC rc cap fuel p0 p1 seed l0 l1 c0 c1 over winner why opn r0 r1 rp s re) 3 [.val (.int .i64 y0), .val (.int .i64 y1), .val (.int .u32 (U32 y2)), .val (.int .i64 y3), .val (.int .i64 y4), .val (.int .i64 y5), .val (.int .i64 y6), .val (.bool y7), .val (.int .i64 y8), .val (.int .i64 y9), .val (.bool y10)] = (ctC rc cap fuel y0 y1 y2 y3 y4 y5 y6 y7 y8 y9 y10 r0 r1 rp s re) := by
  first
    | rfl
    | (unfold ctC
       rw [show (3 : Nat) = ((sd s).map D.toC).length + 0 from by rw [sdC_len], spl_appR (by simp only [List.length_cons, List.length_nil]; omega)]
       rfl)
@[go_sem 1300] theorem ct_w3_2 {y0 : Int} {y1 : Int} : spl (ctC rc cap fuel p0 p1 seed l0 l1 c0 c1 over winner why opn r0 r1 rp s re) 3 [.val (.int .i64 y0), .val (.int .i64 y1)] = (ctC rc cap fuel y0 y1 seed l0 l1 c0 c1 over winner why opn r0 r1 rp s re) := by
  first
    | rfl
    | (unfold ctC
       rw [show (3 : Nat) = ((sd s).map D.toC).length + 0 from by rw [sdC_len], spl_appR (by simp only [List.length_cons, List.length_nil]; omega)]
       rfl)
@[go_sem 1300] theorem ct_w6_2 {y0 : Int} {y1 : Int} : spl (ctC rc cap fuel p0 p1 seed l0 l1 c0 c1 over winner why opn r0 r1 rp s re) 6 [.val (.int .i64 y0), .val (.int .i64 y1)] = (ctC rc cap fuel p0 p1 seed y0 y1 c0 c1 over winner why opn r0 r1 rp s re) := by
  first
    | rfl
    | (unfold ctC
       rw [show (6 : Nat) = ((sd s).map D.toC).length + 0 from by rw [sdC_len], spl_appR (by simp only [List.length_cons, List.length_nil]; omega)]
       rfl)
@[go_sem 1300] theorem ct_w8_2 {y0 : Int} {y1 : Int} : spl (ctC rc cap fuel p0 p1 seed l0 l1 c0 c1 over winner why opn r0 r1 rp s re) 8 [.val (.int .i64 y0), .val (.int .i64 y1)] = (ctC rc cap fuel p0 p1 seed l0 l1 y0 y1 over winner why opn r0 r1 rp s re) := by
  first
    | rfl
    | (unfold ctC
       rw [show (8 : Nat) = ((sd s).map D.toC).length + 0 from by rw [sdC_len], spl_appR (by simp only [List.length_cons, List.length_nil]; omega)]
       rfl)
@[go_sem ↓] theorem ct_w {l : List V} {hp : Heap} {i : Id} {off : Nat} {cs : List C} : St.stow ⟨l, hp⟩ i off cs (ctC rc cap fuel p0 p1 seed l0 l1 c0 c1 over winner why opn r0 r1 rp s re) = ⟨l, hset hp i (spl cs off (ctC (C.clean (fun _ => false) (fun _ => true) rc) cap fuel p0 p1 seed l0 l1 c0 c1 over winner why opn (C.clean (fun _ => false) (fun _ => true) r0) (C.clean (fun _ => false) (fun _ => true) r1) (C.clean (fun _ => false) (fun _ => true) rp) s (C.clean (fun _ => false) (fun _ => true) re)))⟩ := by
  rw [stow_big (by rw [ct_l]; omega), ct_k]
@[go_sem ↓ 1300] theorem ct_p : aPt (some true) 38 (ctC rc cap fuel p0 p1 seed l0 l1 c0 c1 over winner why opn r0 r1 rp s re) 0 V' = V' (.w (.agg (ctC rc cap fuel p0 p1 seed l0 l1 c0 c1 over winner why opn r0 r1 rp s re))) := by
  have e : ((ctC rc cap fuel p0 p1 seed l0 l1 c0 c1 over winner why opn r0 r1 rp s re).drop 0).take 38 = (ctC rc cap fuel p0 p1 seed l0 l1 c0 c1 over winner why opn r0 r1 rp s re) := by rw [List.drop_zero, List.take_of_length_le (by rw [ct_l]; omega)]
  simp only [aPt, ct_l, e, Nat.reduceAdd, Nat.reduceLeDiff, true_and]
theorem ct_le {rc' : C} {cap' : Int} {fuel' : Int} {p0' : Int} {p1' : Int} {seed' : UInt32} {l0' : Int} {l1' : Int} {c0' : Int} {c1' : Int} {over' : Bool} {winner' : Int} {why' : Int} {opn' : Bool} {r0' : C} {r1' : C} {rp' : C} {s' : Sta} {re' : C} (h : leC rc rc' ∧ cap = cap' ∧ fuel = fuel' ∧ p0 = p0' ∧ p1 = p1' ∧ seed = seed' ∧ l0 = l0' ∧ l1 = l1' ∧ c0 = c0' ∧ c1 = c1' ∧ over = over' ∧ winner = winner' ∧ why = why' ∧ opn = opn' ∧ leC r0 r0' ∧ leC r1 r1' ∧ leC rp rp' ∧ s = s' ∧ leC re re') : leCs (ctC rc cap fuel p0 p1 seed l0 l1 c0 c1 over winner why opn r0 r1 rp s re) (ctC rc' cap' fuel' p0' p1' seed' l0' l1' c0' c1' over' winner' why' opn' r0' r1' rp' s' re') := by
  obtain ⟨h0, h1, h2, h3, h4, h5, h6, h7, h8, h9, h10, h11, h12, h13, h14, h15, h16, h17, h18⟩ := h
  subst h1
  subst h2
  subst h3
  subst h4
  subst h5
  subst h6
  subst h7
  subst h8
  subst h9
  subst h10
  subst h11
  subst h12
  subst h13
  subst h17
  unfold ctC
  try simp only [List.cons_append, List.nil_append, List.append_assoc]
  exact ⟨h0, ⟨leC_refl _, ⟨leC_refl _, ⟨leC_refl _, ⟨leC_refl _, ⟨leC_refl _, ⟨leC_refl _, ⟨leC_refl _, ⟨leC_refl _, ⟨leC_refl _, ⟨leC_refl _, ⟨leC_refl _, ⟨leC_refl _, ⟨leC_refl _, ⟨h14, ⟨h15, ⟨h16, (leCs_app (leCs_refl _) ⟨h18, trivial⟩)⟩⟩⟩⟩⟩⟩⟩⟩⟩⟩⟩⟩⟩⟩⟩⟩⟩
@[go_sem ↓ 1300] theorem ct_ler : leCs (ctC rc cap fuel p0 p1 seed l0 l1 c0 c1 over winner why opn r0 r1 rp s re) (ctC rc cap fuel p0 p1 seed l0 l1 c0 c1 over winner why opn r0 r1 rp s re) = True := eq_true (leCs_refl _)
end
end Go.Proofs.Ytamcjecgkfmjkaa
