/- Parts of a proof: Chapter 10: the cells of the other machine (written by genbox.py), Chapter 10: the other machine: its numbers taken and laid, its instructions. (written by gen10d.py), Chapter 10: the other machine's instructions. (written by gen10e.py), Chapter 10: both machines come to the same state, Chapter 10: the other machine's instructions. (written by gen10e.py), Chapter 10: the other machine's instructions. (written by gen10e.py), Chapter 10: the other machine's instructions. (written by gen10e.py), Chapter 10: the other machine's instruction, whichever it is, Chapter 10: what holds of the other machine all the while; its guards, Chapter 10: a frame's step, Chapter 10: the other machine's step. -/
import Derived.Test.YtgeelaafmnedmaaGreatMJ3
set_option linter.unusedSimpArgs false
set_option linter.unusedVariables false
open Go Go.RowKit
namespace Go.Proofs.YtgeelaafmnedmaaGreat
section
set_option maxRecDepth 20000
def rmC (s : Sta) (i0 : UInt16) (i1 : UInt16) (sk : C) (atP : Int) (won : Int) (bad : Bool) : List C := ((sd s).map D.toC ++ [.val (.int .u16 (U16 i0)), .val (.int .u16 (U16 i1)), sk, .val (.int .i64 atP), .val (.int .i64 won), .val (.bool bad)])
section
variable {s : Sta} {i0 : UInt16} {i1 : UInt16} {sk : C} {atP : Int} {won : Int} {bad : Bool} {V' : V → Prop} {K : C → Prop} {ks : List Id} {m : Nat}
@[go_sem] theorem rm_l : (rmC s i0 i1 sk atP won bad).length = 26 := by
  unfold rmC
  simp only [List.length_append, List.length_map, sd_len, List.length_cons, List.length_nil]
@[go_sem] theorem rm_k {bi : Id → Bool} {bt : Tag → Bool} : (rmC s i0 i1 sk atP won bad).map (C.clean bi bt) = (rmC s i0 i1 (C.clean bi bt sk) atP won bad) := by
  unfold rmC
  simp only [List.map_append, List.map_cons, List.map_nil, go_sem]
@[go_sem] theorem rm_r  : (rmC s i0 i1 sk atP won bad).map (C.ren ks m) = (rmC s i0 i1 (C.ren ks m sk) atP won bad) := by
  unfold rmC
  simp only [List.map_append, List.map_cons, List.map_nil, go_sem]
theorem rm_gs_frame : (rmC s i0 i1 sk atP won bad)[0]? = some (.val (.int .i64 s.frame)) := by
  unfold rmC
  first | exact get_frame | (rw [List.getElem?_append_left (by rw [sdC_len]; omega)]; exact get_frame)
@[go_sem ↓ 1300] theorem rm_ms_frame : (∃ c, (rmC s i0 i1 sk atP won bad)[0]? = some c ∧ K c) = K (.val (.int .i64 s.frame)) := ex_some rm_gs_frame
theorem rm_gs_seed : (rmC s i0 i1 sk atP won bad)[17]? = some (.val (.int .u32 (U32 s.seed))) := by
  unfold rmC
  first | exact get_seed | (rw [List.getElem?_append_left (by rw [sdC_len]; omega)]; exact get_seed)
@[go_sem ↓ 1300] theorem rm_ms_seed : (∃ c, (rmC s i0 i1 sk atP won bad)[17]? = some c ∧ K c) = K (.val (.int .u32 (U32 s.seed))) := ex_some rm_gs_seed
@[go_sem 1300] theorem rm_as : ((rmC s i0 i1 sk atP won bad).drop 0).take 20 = (sd s).map D.toC := by
  unfold rmC
  show List.take 20 ((sd s).map D.toC ++ _) = _
  rw [List.take_left' sdC_len]
@[go_sem ↓ 1300] theorem rm_ps : aPt (some true) 20 (rmC s i0 i1 sk atP won bad) 0 V' = V' (.w (.agg ((sd s).map D.toC))) := by
  simp only [aPt, rm_l, rm_as, Nat.reduceAdd, Nat.reduceLeDiff, true_and]
@[go_sem ↓ 1300] theorem rm_m_i0 : (∃ c, (rmC s i0 i1 sk atP won bad)[20]? = some c ∧ K c) = K (.val (.int .u16 (U16 i0))) := ex_some (by
  unfold rmC
  rw [List.getElem?_append_right (by first | simp only [List.length_cons, List.length_nil, List.length_map, sd_len]; omega | simp [sd_len])]
  simp only [List.length_cons, List.length_nil, List.length_map, sd_len, Nat.reduceAdd, Nat.reduceSub]
  first | rfl | (rw [List.getElem?_append_left (by simp)]; rfl))
@[go_sem ↓ 1300] theorem rm_m_i1 : (∃ c, (rmC s i0 i1 sk atP won bad)[21]? = some c ∧ K c) = K (.val (.int .u16 (U16 i1))) := ex_some (by
  unfold rmC
  rw [List.getElem?_append_right (by first | simp only [List.length_cons, List.length_nil, List.length_map, sd_len]; omega | simp [sd_len])]
  simp only [List.length_cons, List.length_nil, List.length_map, sd_len, Nat.reduceAdd, Nat.reduceSub]
  first | rfl | (rw [List.getElem?_append_left (by simp)]; rfl))
@[go_sem ↓ 1300] theorem rm_m_sk : (∃ c, (rmC s i0 i1 sk atP won bad)[22]? = some c ∧ K c) = K (sk) := ex_some (by
  unfold rmC
  rw [List.getElem?_append_right (by first | simp only [List.length_cons, List.length_nil, List.length_map, sd_len]; omega | simp [sd_len])]
  simp only [List.length_cons, List.length_nil, List.length_map, sd_len, Nat.reduceAdd, Nat.reduceSub]
  first | rfl | (rw [List.getElem?_append_left (by simp)]; rfl))
@[go_sem ↓ 1300] theorem rm_m_atP : (∃ c, (rmC s i0 i1 sk atP won bad)[23]? = some c ∧ K c) = K (.val (.int .i64 atP)) := ex_some (by
  unfold rmC
  rw [List.getElem?_append_right (by first | simp only [List.length_cons, List.length_nil, List.length_map, sd_len]; omega | simp [sd_len])]
  simp only [List.length_cons, List.length_nil, List.length_map, sd_len, Nat.reduceAdd, Nat.reduceSub]
  first | rfl | (rw [List.getElem?_append_left (by simp)]; rfl))
@[go_sem ↓ 1300] theorem rm_m_won : (∃ c, (rmC s i0 i1 sk atP won bad)[24]? = some c ∧ K c) = K (.val (.int .i64 won)) := ex_some (by
  unfold rmC
  rw [List.getElem?_append_right (by first | simp only [List.length_cons, List.length_nil, List.length_map, sd_len]; omega | simp [sd_len])]
  simp only [List.length_cons, List.length_nil, List.length_map, sd_len, Nat.reduceAdd, Nat.reduceSub]
  first | rfl | (rw [List.getElem?_append_left (by simp)]; rfl))
@[go_sem ↓ 1300] theorem rm_m_bad : (∃ c, (rmC s i0 i1 sk atP won bad)[25]? = some c ∧ K c) = K (.val (.bool bad)) := ex_some (by
  unfold rmC
  rw [List.getElem?_append_right (by first | simp only [List.length_cons, List.length_nil, List.length_map, sd_len]; omega | simp [sd_len])]
  simp only [List.length_cons, List.length_nil, List.length_map, sd_len, Nat.reduceAdd, Nat.reduceSub]
  first | rfl | (rw [List.getElem?_append_left (by simp)]; rfl))
@[go_sem 1300] theorem rm_ss_frame {x : Int} : spl (rmC s i0 i1 sk atP won bad) 0 [.val (.int .i64 x)] = (rmC (s.wFrame x) i0 i1 sk atP won bad) := by
  unfold rmC
  rw [spl_appL (by simp only [List.length_cons, List.length_nil, sdC_len]; omega), spl_frame]
@[go_sem 1300] theorem rm_us_frame {x : Int} : (rmC s i0 i1 sk atP won bad).set 0 (.val (.int .i64 x)) = (rmC (s.wFrame x) i0 i1 sk atP won bad) := show spl (rmC s i0 i1 sk atP won bad) 0 [.val (.int .i64 x)] = _ from rm_ss_frame
@[go_sem 1300] theorem rm_ss_seed {x : UInt32} : spl (rmC s i0 i1 sk atP won bad) 17 [.val (.int .u32 (U32 x))] = (rmC (s.wSeed x) i0 i1 sk atP won bad) := by
  unfold rmC
  rw [spl_appL (by simp only [List.length_cons, List.length_nil, sdC_len]; omega), spl_seed]
@[go_sem 1300] theorem rm_us_seed {x : UInt32} : (rmC s i0 i1 sk atP won bad).set 17 (.val (.int .u32 (U32 x))) = (rmC (s.wSeed x) i0 i1 sk atP won bad) := show spl (rmC s i0 i1 sk atP won bad) 17 [.val (.int .u32 (U32 x))] = _ from rm_ss_seed
@[go_sem 1300] theorem rm_ss_over {x : Bool} : spl (rmC s i0 i1 sk atP won bad) 18 [.val (.bool x)] = (rmC (s.wOver x) i0 i1 sk atP won bad) := by
  unfold rmC
  rw [spl_appL (by simp only [List.length_cons, List.length_nil, sdC_len]; omega), spl_over]
@[go_sem 1300] theorem rm_us_over {x : Bool} : (rmC s i0 i1 sk atP won bad).set 18 (.val (.bool x)) = (rmC (s.wOver x) i0 i1 sk atP won bad) := show spl (rmC s i0 i1 sk atP won bad) 18 [.val (.bool x)] = _ from rm_ss_over
@[go_sem 1300] theorem rm_ss_win {x : Int} : spl (rmC s i0 i1 sk atP won bad) 19 [.val (.int .i64 x)] = (rmC (s.wWin x) i0 i1 sk atP won bad) := by
  unfold rmC
  rw [spl_appL (by simp only [List.length_cons, List.length_nil, sdC_len]; omega), spl_win]
@[go_sem 1300] theorem rm_us_win {x : Int} : (rmC s i0 i1 sk atP won bad).set 19 (.val (.int .i64 x)) = (rmC (s.wWin x) i0 i1 sk atP won bad) := show spl (rmC s i0 i1 sk atP won bad) 19 [.val (.int .i64 x)] = _ from rm_ss_win
@[go_sem 1300] theorem rm_ss {x : Sta} : spl (rmC s i0 i1 sk atP won bad) 0 ((sd x).map D.toC) = (rmC (x) i0 i1 sk atP won bad) := by
  unfold rmC
  rw [spl_appL (by simp only [sdC_len]; omega), spl_all (by simp only [sdC_len])]
@[go_sem 1300] theorem rm_s_i0 {x : UInt16} : spl (rmC s i0 i1 sk atP won bad) 20 [.val (.int .u16 (U16 x))] = (rmC s (x) i1 sk atP won bad) := by
  unfold rmC
  rw [show (20 : Nat) = ((sd s).map D.toC).length + 0 from by first | rfl | rw [sdC_len], spl_appR (by simp only [List.length_append, List.length_cons, List.length_nil, sdC_len]; omega)]
  rfl
@[go_sem 1300] theorem rm_u_i0 {x : UInt16} : (rmC s i0 i1 sk atP won bad).set 20 (.val (.int .u16 (U16 x))) = (rmC s (x) i1 sk atP won bad) := show spl (rmC s i0 i1 sk atP won bad) 20 [.val (.int .u16 (U16 x))] = _ from rm_s_i0
@[go_sem 1300] theorem rm_s_i1 {x : UInt16} : spl (rmC s i0 i1 sk atP won bad) 21 [.val (.int .u16 (U16 x))] = (rmC s i0 (x) sk atP won bad) := by
  unfold rmC
  rw [show (21 : Nat) = ((sd s).map D.toC).length + 1 from by first | rfl | rw [sdC_len], spl_appR (by simp only [List.length_append, List.length_cons, List.length_nil, sdC_len]; omega)]
  rfl
@[go_sem 1300] theorem rm_u_i1 {x : UInt16} : (rmC s i0 i1 sk atP won bad).set 21 (.val (.int .u16 (U16 x))) = (rmC s i0 (x) sk atP won bad) := show spl (rmC s i0 i1 sk atP won bad) 21 [.val (.int .u16 (U16 x))] = _ from rm_s_i1
@[go_sem 1300] theorem rm_s_sk {x : C} : spl (rmC s i0 i1 sk atP won bad) 22 [x] = (rmC s i0 i1 (x) atP won bad) := by
  unfold rmC
  rw [show (22 : Nat) = ((sd s).map D.toC).length + 2 from by first | rfl | rw [sdC_len], spl_appR (by simp only [List.length_append, List.length_cons, List.length_nil, sdC_len]; omega)]
  rfl
@[go_sem 1300] theorem rm_u_sk {x : C} : (rmC s i0 i1 sk atP won bad).set 22 (x) = (rmC s i0 i1 (x) atP won bad) := show spl (rmC s i0 i1 sk atP won bad) 22 [x] = _ from rm_s_sk
@[go_sem 1300] theorem rm_s_atP {x : Int} : spl (rmC s i0 i1 sk atP won bad) 23 [.val (.int .i64 x)] = (rmC s i0 i1 sk (x) won bad) := by
  unfold rmC
  rw [show (23 : Nat) = ((sd s).map D.toC).length + 3 from by first | rfl | rw [sdC_len], spl_appR (by simp only [List.length_append, List.length_cons, List.length_nil, sdC_len]; omega)]
  rfl
@[go_sem 1300] theorem rm_u_atP {x : Int} : (rmC s i0 i1 sk atP won bad).set 23 (.val (.int .i64 x)) = (rmC s i0 i1 sk (x) won bad) := show spl (rmC s i0 i1 sk atP won bad) 23 [.val (.int .i64 x)] = _ from rm_s_atP
@[go_sem 1300] theorem rm_s_won {x : Int} : spl (rmC s i0 i1 sk atP won bad) 24 [.val (.int .i64 x)] = (rmC s i0 i1 sk atP (x) bad) := by
  unfold rmC
  rw [show (24 : Nat) = ((sd s).map D.toC).length + 4 from by first | rfl | rw [sdC_len], spl_appR (by simp only [List.length_append, List.length_cons, List.length_nil, sdC_len]; omega)]
  rfl
@[go_sem 1300] theorem rm_u_won {x : Int} : (rmC s i0 i1 sk atP won bad).set 24 (.val (.int .i64 x)) = (rmC s i0 i1 sk atP (x) bad) := show spl (rmC s i0 i1 sk atP won bad) 24 [.val (.int .i64 x)] = _ from rm_s_won
@[go_sem 1300] theorem rm_s_bad {x : Bool} : spl (rmC s i0 i1 sk atP won bad) 25 [.val (.bool x)] = (rmC s i0 i1 sk atP won (x)) := by
  unfold rmC
  rw [show (25 : Nat) = ((sd s).map D.toC).length + 5 from by first | rfl | rw [sdC_len], spl_appR (by simp only [List.length_append, List.length_cons, List.length_nil, sdC_len]; omega)]
  rfl
@[go_sem 1300] theorem rm_u_bad {x : Bool} : (rmC s i0 i1 sk atP won bad).set 25 (.val (.bool x)) = (rmC s i0 i1 sk atP won (x)) := show spl (rmC s i0 i1 sk atP won bad) 25 [.val (.bool x)] = _ from rm_s_bad
theorem rm_le {s' : Sta} {i0' : UInt16} {i1' : UInt16} {sk' : C} {atP' : Int} {won' : Int} {bad' : Bool} (h : s = s' ∧ i0 = i0' ∧ i1 = i1' ∧ leC sk sk' ∧ atP = atP' ∧ won = won' ∧ bad = bad') : leCs (rmC s i0 i1 sk atP won bad) (rmC s' i0' i1' sk' atP' won' bad') := by
  obtain ⟨h0, h1, h2, h3, h4, h5, h6⟩ := h
  subst h0
  subst h1
  subst h2
  subst h4
  subst h5
  subst h6
  unfold rmC
  try simp only [List.cons_append, List.nil_append, List.append_assoc]
  exact (leCs_app (leCs_refl _) ⟨leC_refl _, ⟨leC_refl _, ⟨h3, ⟨leC_refl _, ⟨leC_refl _, ⟨leC_refl _, trivial⟩⟩⟩⟩⟩⟩)
end
end
section
structure Rac where
  st : Sta
  i0 : UInt16
  i1 : UInt16
  sk : List Int
  pc : Int
  won : Int
  bad : Bool
abbrev rB (i : Id) (m : Rac) : List C := rmC m.st m.i0 m.i1 (.stk (.cell i 22) 1 (c32 m.sk)) m.pc m.won m.bad
section
variable {s : Sta} {i0 i1 : UInt16} {sk : C} {atP won : Int} {bad : Bool} {K : C → Prop}
theorem rm_gcell {k : Nat} (h : k < 16) : (rmC s i0 i1 sk atP won bad)[k + 1]? = some (.val (.int .i32 (s.cells.getD k 0))) := by
  unfold rmC
  rw [List.getElem?_append_left (by rw [sdC_len]; omega)]
  exact get_cells h
@[go_sem ↓ 1300] theorem rm_mcell {k : Nat} (h : k < 16) : (∃ c, (rmC s i0 i1 sk atP won bad)[1 + k]? = some c ∧ K c) = K (.val (.int .i32 (s.cells.getD k 0))) := by
  rw [Nat.add_comm]; exact ex_some (rm_gcell h)
theorem rm_scell0 {k : Nat} {x : Int} (h : k < 16) : spl (rmC s i0 i1 sk atP won bad) (k + 1) [.val (.int .i32 x)] = rmC (s.wCells k x) i0 i1 sk atP won bad := by
  unfold rmC
  rw [spl_appL (by rw [sdC_len]; simp; omega), spl_cells h]
@[go_sem 1300] theorem rm_scell {k : Nat} {x : Int} (h : k < 16) : (rmC s i0 i1 sk atP won bad).set (1 + k) (.val (.int .i32 x)) = rmC (s.wCells k x) i0 i1 sk atP won bad := by
  rw [Nat.add_comm]; exact rm_scell0 h
end
def rpopV (m : Rac) : Int := m.sk.getD (m.sk.length - 1) 0
def rpopM (m : Rac) : Rac := ⟨m.st, m.i0, m.i1, m.sk.take (m.sk.length - 1), m.pc, m.won, m.bad || decide (m.sk.length = 0)⟩
def rpushM (m : Rac) (x : Int) : Rac := if 32 ≤ m.sk.length then ⟨m.st, m.i0, m.i1, m.sk, m.pc, m.won, true⟩ else ⟨m.st, m.i0, m.i1, m.sk ++ [x], m.pc, m.won, m.bad⟩
theorem rpush_len (m : Rac) (x : Int) : (rpushM m x).sk.length ≤ m.sk.length + 1 := by unfold rpushM; split <;> simp
theorem rpop_h (m : Rac) (hl : m.sk.length ≤ 100000) : Holds Tryz.prog 66 [.ptr (.arg 0) 0] [(.arg 0, rB (.arg 0) m)] (fun r h' => r = .int .i32 (rpopV m) ∧ h' = [(.arg 0, rB (.arg 0) (rpopM m))]) := by
  obtain ⟨st, i0, i1, sk, pc, won, bad⟩ := m
  simp only at hl
  refine holds_of_awp Tryz.func66 rfl (by decide +kernel) mixed Tryz.ntmps66 Tryz.results66 ?_
  refine zE ?_
  refine zc ?_;try exact trivial
  refine c_dec (fun h => ?_) (fun h => ?_)
  · have h0 : sk = [] := List.eq_nil_of_length_eq_zero (by omega)
    subst h0
    simp only [rpopV, rpopM, List.length_nil, List.take_nil, List.getD_nil, decide_true, Bool.or_true]
    refine zc ?_;try exact trivial
    exact leCs_refl _
  have e1 : ((sk.length : Int) - 1).toNat = sk.length - 1 := by omega
  have e2 : rpopM ⟨st, i0, i1, sk, pc, won, bad⟩ = ⟨st, i0, i1, sk.take (sk.length - 1), pc, won, bad⟩ := by
    unfold rpopM
    rw [decide_eq_false (show ¬ sk.length = 0 by omega), Bool.or_false]
  rw [e2]
  simp only [rpopV]
  simp (maxSteps:=2000000) (disch:=omega) only [go_sem,Nat.reduceAdd,Nat.reduceSub,Nat.reduceMul,Nat.reduceBEq,Nat.reduceEqDiff,Nat.reduceLT,Nat.reduceLeDiff,Nat.reduceDiv,reduceIte,reduceCtorEq, e1]
  omega
theorem rpush_h (m : Rac) (x : Int) (hl : m.sk.length ≤ 100000) : Holds Tryz.prog 65 [.ptr (.arg 0) 0, .int .i32 x] [(.arg 0, rB (.arg 0) m)] (fun r h' => r = .tup [] ∧ h' = [(.arg 0, rB (.arg 0) (rpushM m x))]) := by
  obtain ⟨st, i0, i1, sk, pc, won, bad⟩ := m
  simp only at hl
  refine holds_of_awp Tryz.func65 rfl (by decide +kernel) mixed Tryz.ntmps65 Tryz.results65 ?_
  refine zE ?_
  refine zc ?_;try exact trivial
  refine c_dec (fun h => ?_) (fun h => ?_)
  · have e : rpushM ⟨st, i0, i1, sk, pc, won, bad⟩ x = ⟨st, i0, i1, sk, pc, won, true⟩ := by unfold rpushM; exact if_pos (by simp only; omega)
    rw [e]
    refine zc ?_;try exact trivial
  have e : rpushM ⟨st, i0, i1, sk, pc, won, bad⟩ x = ⟨st, i0, i1, sk ++ [x], pc, won, bad⟩ := by unfold rpushM; exact if_neg (by simp only; omega)
  rw [e]
  refine zc ?_;try exact trivial
  omega
theorem rtruth_h (b : Bool) : Holds Tryz.prog 67 [.c (.val (.bool b))] [] (fun r h' => r = .int .i32 (truthV b) ∧ h' = []) := by
  refine holds_of_awp Tryz.func67 rfl (by decide +kernel) mixed Tryz.ntmps67 Tryz.results67 ?_
  refine zE ?_
  cases b
  · refine zc ?_;try exact trivial
    rfl
  refine zc ?_;try exact trivial
  rfl
@[go_sem ↓ 1160] theorem e_and16 {a : UInt32} {V' : V → Prop} : aInt .and .u32 (U32 a) .u32 65535 V' = V' (.int .u32 (rndV a)) := by
  rw [e_and]
  refine congrArg (fun z => V' (.int .u32 z)) ?_
  unfold rndV U32
  have ha := a.toNat_lt
  have e : BitVec.ofInt IntKind.u32.bits ((a.toNat : Nat) : Int) &&& BitVec.ofInt IntKind.u32.bits 65535 = BitVec.ofNat 32 (a.toNat % 65536) := by
    show BitVec.ofInt 32 _ &&& BitVec.ofInt 32 _ = _
    apply BitVec.eq_of_toNat_eq
    rw [BitVec.toNat_and, BitVec.ofInt_natCast, show (65535 : Int) = ((65535 : Nat) : Int) by rfl, BitVec.ofInt_natCast, BitVec.toNat_ofNat, BitVec.toNat_ofNat, BitVec.toNat_ofNat]
    rw [Nat.mod_eq_of_lt (show a.toNat < 2 ^ 32 by omega), Nat.mod_eq_of_lt (show 65535 < 2 ^ 32 by omega), show 65535 = 2 ^ 16 - 1 by rfl, Nat.and_two_pow_sub_one_eq_mod]
    omega
  rw [e]
  show IntKind.u32.wrap ((BitVec.ofNat 32 (a.toNat % 65536)).toNat : Int) = _
  rw [BitVec.toNat_ofNat]
  simp only [IntKind.wrap, IntKind.bits, IntKind.signed]
  simp
  omega

def takesP (op : Int) : Nat := if op = 3 ∨ op = 12 ∨ op = 13 ∨ op = 15 ∨ op = 19 then 1 else if op = 4 ∨ op = 5 ∨ op = 6 ∨ op = 7 ∨ op = 8 ∨ op = 9 ∨ op = 10 ∨ op = 11 ∨ op = 14 then 2 else 0
theorem takes1_h : Holds Tryz.prog 64 [.int .i64 1] [] (fun r h' => r = .int .i64 0 ∧ h' = []) := by
  refine holds_of_awp Tryz.func64 rfl (by decide +kernel) mixed Tryz.ntmps64 Tryz.results64 ?_
  refine zE ?_
  refine zc ?_;try exact trivial
theorem takes2_h : Holds Tryz.prog 64 [.int .i64 2] [] (fun r h' => r = .int .i64 0 ∧ h' = []) := by
  refine holds_of_awp Tryz.func64 rfl (by decide +kernel) mixed Tryz.ntmps64 Tryz.results64 ?_
  refine zE ?_
  refine zc ?_;try exact trivial
theorem takes3_h : Holds Tryz.prog 64 [.int .i64 3] [] (fun r h' => r = .int .i64 1 ∧ h' = []) := by
  refine holds_of_awp Tryz.func64 rfl (by decide +kernel) mixed Tryz.ntmps64 Tryz.results64 ?_
  refine zE ?_
  refine zc ?_;try exact trivial
theorem takes4_h : Holds Tryz.prog 64 [.int .i64 4] [] (fun r h' => r = .int .i64 2 ∧ h' = []) := by
  refine holds_of_awp Tryz.func64 rfl (by decide +kernel) mixed Tryz.ntmps64 Tryz.results64 ?_
  refine zE ?_
  refine zc ?_;try exact trivial
theorem takes5_h : Holds Tryz.prog 64 [.int .i64 5] [] (fun r h' => r = .int .i64 2 ∧ h' = []) := by
  refine holds_of_awp Tryz.func64 rfl (by decide +kernel) mixed Tryz.ntmps64 Tryz.results64 ?_
  refine zE ?_
  refine zc ?_;try exact trivial
theorem takes6_h : Holds Tryz.prog 64 [.int .i64 6] [] (fun r h' => r = .int .i64 2 ∧ h' = []) := by
  refine holds_of_awp Tryz.func64 rfl (by decide +kernel) mixed Tryz.ntmps64 Tryz.results64 ?_
  refine zE ?_
  refine zc ?_;try exact trivial
theorem takes7_h : Holds Tryz.prog 64 [.int .i64 7] [] (fun r h' => r = .int .i64 2 ∧ h' = []) := by
  refine holds_of_awp Tryz.func64 rfl (by decide +kernel) mixed Tryz.ntmps64 Tryz.results64 ?_
  refine zE ?_
  refine zc ?_;try exact trivial
theorem takes8_h : Holds Tryz.prog 64 [.int .i64 8] [] (fun r h' => r = .int .i64 2 ∧ h' = []) := by
  refine holds_of_awp Tryz.func64 rfl (by decide +kernel) mixed Tryz.ntmps64 Tryz.results64 ?_
  refine zE ?_
  refine zc ?_;try exact trivial
theorem takes9_h : Holds Tryz.prog 64 [.int .i64 9] [] (fun r h' => r = .int .i64 2 ∧ h' = []) := by
  refine holds_of_awp Tryz.func64 rfl (by decide +kernel) mixed Tryz.ntmps64 Tryz.results64 ?_
  refine zE ?_
  refine zc ?_;try exact trivial
theorem takes10_h : Holds Tryz.prog 64 [.int .i64 10] [] (fun r h' => r = .int .i64 2 ∧ h' = []) := by
  refine holds_of_awp Tryz.func64 rfl (by decide +kernel) mixed Tryz.ntmps64 Tryz.results64 ?_
  refine zE ?_
  refine zc ?_;try exact trivial
theorem takes11_h : Holds Tryz.prog 64 [.int .i64 11] [] (fun r h' => r = .int .i64 2 ∧ h' = []) := by
  refine holds_of_awp Tryz.func64 rfl (by decide +kernel) mixed Tryz.ntmps64 Tryz.results64 ?_
  refine zE ?_
  refine zc ?_;try exact trivial
theorem takes12_h : Holds Tryz.prog 64 [.int .i64 12] [] (fun r h' => r = .int .i64 1 ∧ h' = []) := by
  refine holds_of_awp Tryz.func64 rfl (by decide +kernel) mixed Tryz.ntmps64 Tryz.results64 ?_
  refine zE ?_
  refine zc ?_;try exact trivial
theorem takes13_h : Holds Tryz.prog 64 [.int .i64 13] [] (fun r h' => r = .int .i64 1 ∧ h' = []) := by
  refine holds_of_awp Tryz.func64 rfl (by decide +kernel) mixed Tryz.ntmps64 Tryz.results64 ?_
  refine zE ?_
  refine zc ?_;try exact trivial
theorem takes14_h : Holds Tryz.prog 64 [.int .i64 14] [] (fun r h' => r = .int .i64 2 ∧ h' = []) := by
  refine holds_of_awp Tryz.func64 rfl (by decide +kernel) mixed Tryz.ntmps64 Tryz.results64 ?_
  refine zE ?_
  refine zc ?_;try exact trivial
theorem takes15_h : Holds Tryz.prog 64 [.int .i64 15] [] (fun r h' => r = .int .i64 1 ∧ h' = []) := by
  refine holds_of_awp Tryz.func64 rfl (by decide +kernel) mixed Tryz.ntmps64 Tryz.results64 ?_
  refine zE ?_
  refine zc ?_;try exact trivial
theorem takes16_h : Holds Tryz.prog 64 [.int .i64 16] [] (fun r h' => r = .int .i64 0 ∧ h' = []) := by
  refine holds_of_awp Tryz.func64 rfl (by decide +kernel) mixed Tryz.ntmps64 Tryz.results64 ?_
  refine zE ?_
  refine zc ?_;try exact trivial
theorem takes17_h : Holds Tryz.prog 64 [.int .i64 17] [] (fun r h' => r = .int .i64 0 ∧ h' = []) := by
  refine holds_of_awp Tryz.func64 rfl (by decide +kernel) mixed Tryz.ntmps64 Tryz.results64 ?_
  refine zE ?_
  refine zc ?_;try exact trivial
theorem takes18_h : Holds Tryz.prog 64 [.int .i64 18] [] (fun r h' => r = .int .i64 0 ∧ h' = []) := by
  refine holds_of_awp Tryz.func64 rfl (by decide +kernel) mixed Tryz.ntmps64 Tryz.results64 ?_
  refine zE ?_
  refine zc ?_;try exact trivial
theorem takes19_h : Holds Tryz.prog 64 [.int .i64 19] [] (fun r h' => r = .int .i64 1 ∧ h' = []) := by
  refine holds_of_awp Tryz.func64 rfl (by decide +kernel) mixed Tryz.ntmps64 Tryz.results64 ?_
  refine zE ?_
  refine zc ?_;try exact trivial
theorem takes20_h : Holds Tryz.prog 64 [.int .i64 20] [] (fun r h' => r = .int .i64 0 ∧ h' = []) := by
  refine holds_of_awp Tryz.func64 rfl (by decide +kernel) mixed Tryz.ntmps64 Tryz.results64 ?_
  refine zE ?_
  refine zc ?_;try exact trivial
theorem takes21_h : Holds Tryz.prog 64 [.int .i64 21] [] (fun r h' => r = .int .i64 0 ∧ h' = []) := by
  refine holds_of_awp Tryz.func64 rfl (by decide +kernel) mixed Tryz.ntmps64 Tryz.results64 ?_
  refine zE ?_
  refine zc ?_;try exact trivial
theorem takes22_h : Holds Tryz.prog 64 [.int .i64 22] [] (fun r h' => r = .int .i64 0 ∧ h' = []) := by
  refine holds_of_awp Tryz.func64 rfl (by decide +kernel) mixed Tryz.ntmps64 Tryz.results64 ?_
  refine zE ?_
  refine zc ?_;try exact trivial
theorem two4_h10 (b a : Int) (hb : B32 b) (ha : B32 a) : Holds Tryz.prog 68 [.int .i64 4, .int .i32 b, .int .i32 a] [] (fun r h' => r = .int .i32 (held (b + a)) ∧ h' = []) := by
  refine holds_of_awp Tryz.func68 rfl (by decide +kernel) mixed Tryz.ntmps68 Tryz.results68 ?_
  refine zE ?_
  refine zc ?_;try exact trivial
  refine a_call [] (radd_h b a hb ha) ok0 ?_ ?_ ?_
  · refine zs ?_;try exact trivial
  · refine zs ?_;try exact trivial
  rintro _ _ ⟨rfl, rfl⟩
  refine zs ?_;try exact trivial
theorem two5_h10 (b a : Int) (hb : B32 b) (ha : B32 a) : Holds Tryz.prog 68 [.int .i64 5, .int .i32 b, .int .i32 a] [] (fun r h' => r = .int .i32 (held (b - a)) ∧ h' = []) := by
  refine holds_of_awp Tryz.func68 rfl (by decide +kernel) mixed Tryz.ntmps68 Tryz.results68 ?_
  refine zE ?_
  refine zc ?_;try exact trivial
  refine a_call [] (rsub_h b a hb ha) ok0 ?_ ?_ ?_
  · refine zs ?_;try exact trivial
  · refine zs ?_;try exact trivial
  rintro _ _ ⟨rfl, rfl⟩
  refine zs ?_;try exact trivial
theorem two6_h10 (b a : Int) (hb : B32 b) (ha : B32 a) : Holds Tryz.prog 68 [.int .i64 6, .int .i32 b, .int .i32 a] [] (fun r h' => r = .int .i32 (held (b * a / 65536)) ∧ h' = []) := by
  refine holds_of_awp Tryz.func68 rfl (by decide +kernel) mixed Tryz.ntmps68 Tryz.results68 ?_
  refine zE ?_
  refine zc ?_;try exact trivial
  refine a_call [] (rmul_h b a hb ha) ok0 ?_ ?_ ?_
  · refine zs ?_;try exact trivial
  · refine zs ?_;try exact trivial
  rintro _ _ ⟨rfl, rfl⟩
  refine zs ?_;try exact trivial
theorem two7_h10 (b a : Int) (hb : B32 b) (ha : B32 a) : Holds Tryz.prog 68 [.int .i64 7, .int .i32 b, .int .i32 a] [] (fun r h' => r = .int .i32 (divV b a) ∧ h' = []) := by
  refine holds_of_awp Tryz.func68 rfl (by decide +kernel) mixed Tryz.ntmps68 Tryz.results68 ?_
  refine zE ?_
  refine zc ?_;try exact trivial
  refine a_call [] (rdiv_h b a hb ha) ok0 ?_ ?_ ?_
  · refine zs ?_;try exact trivial
  · refine zs ?_;try exact trivial
  rintro _ _ ⟨rfl, rfl⟩
  refine zs ?_;try exact trivial
theorem two8_h10 (b a : Int) (hb : B32 b) (ha : B32 a) : Holds Tryz.prog 68 [.int .i64 8, .int .i32 b, .int .i32 a] [] (fun r h' => r = .int .i32 (min b a) ∧ h' = []) := by
  refine holds_of_awp Tryz.func68 rfl (by decide +kernel) mixed Tryz.ntmps68 Tryz.results68 ?_
  refine zE ?_
  refine zc ?_;try exact trivial
  all_goals (try rw [Int.min_comm])
theorem two9_h10 (b a : Int) (hb : B32 b) (ha : B32 a) : Holds Tryz.prog 68 [.int .i64 9, .int .i32 b, .int .i32 a] [] (fun r h' => r = .int .i32 (max b a) ∧ h' = []) := by
  refine holds_of_awp Tryz.func68 rfl (by decide +kernel) mixed Tryz.ntmps68 Tryz.results68 ?_
  refine zE ?_
  refine zc ?_;try exact trivial
  all_goals (try rw [Int.max_comm])
theorem two10_h10 (b a : Int) (hb : B32 b) (ha : B32 a) : Holds Tryz.prog 68 [.int .i64 10, .int .i32 b, .int .i32 a] [] (fun r h' => r = .int .i32 (truthV (decide (b < a))) ∧ h' = []) := by
  refine holds_of_awp Tryz.func68 rfl (by decide +kernel) mixed Tryz.ntmps68 Tryz.results68 ?_
  refine zE ?_
  refine zc ?_;try exact trivial
  refine a_call [] (rtruth_h (decide (b < a))) ok0 ?_ ?_ ?_
  · refine zs ?_;try exact trivial
  · refine zs ?_;try exact trivial
  rintro _ _ ⟨rfl, rfl⟩
  refine zc ?_;try exact trivial
theorem two11_h10 (b a : Int) (hb : B32 b) (ha : B32 a) : Holds Tryz.prog 68 [.int .i64 11, .int .i32 b, .int .i32 a] [] (fun r h' => r = .int .i32 (truthV (decide (b = a))) ∧ h' = []) := by
  refine holds_of_awp Tryz.func68 rfl (by decide +kernel) mixed Tryz.ntmps68 Tryz.results68 ?_
  refine zE ?_
  refine zc ?_;try exact trivial
  refine a_call [] (rtruth_h (decide (b = a))) ok0 ?_ ?_ ?_
  · refine zs ?_;try exact trivial
  · refine zs ?_;try exact trivial
  rintro _ _ ⟨rfl, rfl⟩
  refine zc ?_;try exact trivial
end
section
set_option maxRecDepth 20000
/-- the next instruction is another one -/
@[reducible] def incR (m : Rac) : Rac := ⟨m.st, m.i0, m.i1, m.sk, m.pc + 1, m.won, m.bad⟩
def badR (m : Rac) : Rac := ⟨m.st, m.i0, m.i1, m.sk, m.pc, m.won, true⟩
def rtwo (f : Int → Int → Int) (m : Rac) : Rac := rpushM (rpopM (rpopM m)) (f (rpopV (rpopM m)) (rpopV m))
def rload (m : Rac) (arg : Int) : Rac := rpushM m (m.st.cells.getD arg.toNat 0)
def rstore (m : Rac) (arg : Int) : Rac := ⟨m.st.wCells arg.toNat (rpopV m), m.i0, m.i1, (rpopM m).sk, m.pc, m.won, (rpopM m).bad⟩
def rnot (m : Rac) : Rac := rpushM (rpopM m) (truthV (decide (rpopV m = 0)))
def rdup (m : Rac) : Rac := rpushM (rpushM (rpopM m) (rpopV m)) (rpopV m)
def rswap (m : Rac) : Rac := rpushM (rpushM (rpopM (rpopM m)) (rpopV m)) (rpopV (rpopM m))
def rinput (m : Rac) (arg : Int) : Rac := rpushM m (if arg = 0 then (U16 m.i0 : Int) else U16 m.i1)
def rjump (m : Rac) (arg : Int) : Rac := ⟨m.st, m.i0, m.i1, m.sk, arg, m.won, m.bad⟩
def rzero (m : Rac) (arg : Int) : Rac := if rpopV m = 0 then rjump (rpopM m) arg else rpopM m
def rwin (m : Rac) (arg : Int) : Rac := ⟨m.st, m.i0, m.i1, m.sk, m.pc, arg, m.bad⟩
def rrand (m : Rac) : Rac := rpushM ⟨m.st.wSeed (mixS m.st.seed), m.i0, m.i1, m.sk, m.pc, m.won, m.bad⟩ (rndV (mixS m.st.seed))
def goB (m : Rac) (n : Int) : Bool := !m.bad && decide (m.pc < n)
theorem rpop_len (m : Rac) : (rpopM m).sk.length ≤ m.sk.length := List.length_take_le' _ _
end
section
/-- the other machine's instruction, and whether it goes on -/
def rdoK (op arg : Int) (r : Rac) : Rac :=
  if op = 1 then rpushM (incR r) arg
  else if op = 2 then rload (incR r) arg
  else if op = 3 then rstore (incR r) arg
  else if op = 4 then rtwo f4 (incR r)
  else if op = 5 then rtwo f5 (incR r)
  else if op = 6 then rtwo f6 (incR r)
  else if op = 7 then rtwo f7 (incR r)
  else if op = 8 then rtwo f8 (incR r)
  else if op = 9 then rtwo f9 (incR r)
  else if op = 10 then rtwo f10 (incR r)
  else if op = 11 then rtwo f11 (incR r)
  else if op = 12 then rnot (incR r)
  else if op = 13 then rdup (incR r)
  else if op = 14 then rswap (incR r)
  else if op = 15 then rpopM (incR r)
  else if op = 16 then rinput (incR r) arg
  else if op = 17 then rpushM (incR r) r.st.frame
  else if op = 18 then rjump (incR r) arg
  else if op = 19 then rzero (incR r) arg
  else if op = 20 then rwin (incR r) arg
  else if op = 21 then rrand (incR r)
  else incR r
def rdoM (op arg : Int) (r : Rac) : Rac := if r.sk.length < takesP op then badR r else rdoK op arg r
def rdoB (op arg n : Int) (r : Rac) : Bool := if r.sk.length < takesP op ∨ op = 20 ∨ op = 22 then false else goB (rdoM op arg r) n
def rrunM (code : List (Int × Int)) : Nat → Rac → Rac
  | 0, r => if r.pc < code.length then badR r else r
  | f + 1, r => if r.pc < code.length then
      (if rdoB (gi code r.pc.toNat).1 (gi code r.pc.toNat).2 code.length r = true then rrunM code f (rdoM (gi code r.pc.toNat).1 (gi code r.pc.toNat).2 r) else rdoM (gi code r.pc.toNat).1 (gi code r.pc.toNat).2 r) else r
/-- the two machines stand alike -/
structure Rl (m : Mac) (r : Rac) : Prop where
  st : r.st = m.st
  i0 : r.i0 = m.i0
  i1 : r.i1 = m.i1
  sk : r.sk = m.sk
  pc : r.pc = m.pc
  mb : m.bad = false
  rb : r.bad = false
  en : m.en = false
  won : r.won = -1
theorem Rl.inc {m : Mac} {r : Rac} (h : Rl m r) : Rl (incM m) (incR r) := ⟨h.st, h.i0, h.i1, h.sk, by show r.pc + 1 = m.pc + 1; rw [h.pc], h.mb, h.rb, h.en, h.won⟩
theorem Rl.popV {m : Mac} {r : Rac} (h : Rl m r) : rpopV r = popV m := by unfold rpopV Proofs.YtgeelaafmnedmaaGreat.popV; rw [h.sk]
theorem Rl.pop {m : Mac} {r : Rac} (h : Rl m r) (hl : m.sk.length ≠ 0) : Rl (popM m) (rpopM r) := ⟨h.st, h.i0, h.i1, by show r.sk.take _ = m.sk.take _; rw [h.sk], h.pc, by simp [popM, h.mb, hl], by simp [rpopM, h.rb, h.sk, hl], h.en, h.won⟩
/-- numbers laid -/
def Out (m : Mac) (r : Rac) : Prop := (m.bad = true ∧ r.bad = true) ∨ Rl m r
theorem Rl.push {m : Mac} {r : Rac} (h : Rl m r) (x : Int) : Out (pushM m [x]) (rpushM r x) := by
  unfold pushM rpushM
  by_cases hl : 32 ≤ r.sk.length
  · rw [if_pos hl]
    refine .inl ⟨?_, rfl⟩
    rw [h.sk] at hl
    have : decide (32 < m.sk.length + [x].length) = true := by simp; omega
    simp only [this, Bool.or_true]
  rw [if_neg hl]
  rw [h.sk] at hl
  have : decide (32 < m.sk.length + [x].length) = false := by simp; omega
  exact .inr ⟨h.st, h.i0, h.i1, by show r.sk ++ [x] = m.sk ++ [x]; rw [h.sk], h.pc, by simp only [this, h.mb, Bool.or_false], h.rb, h.en, h.won⟩
theorem Rl.push2 {m : Mac} {r : Rac} (h : Rl m r) (x y : Int) : Out (pushM m [x, y]) (rpushM (rpushM r x) y) := by
  by_cases hl : 32 ≤ r.sk.length
  · have e : rpushM r x = ⟨r.st, r.i0, r.i1, r.sk, r.pc, r.won, true⟩ := by unfold rpushM; rw [if_pos hl]
    refine .inl ⟨?_, ?_⟩
    · rw [h.sk] at hl
      have : decide (32 < m.sk.length + [x, y].length) = true := by simp; omega
      unfold pushM
      simp only [this, Bool.or_true]
    rw [e]; unfold rpushM; split <;> rfl
  have e : rpushM r x = ⟨r.st, r.i0, r.i1, r.sk ++ [x], r.pc, r.won, r.bad⟩ := by unfold rpushM; rw [if_neg hl]
  rw [e]
  unfold rpushM pushM
  rw [h.sk] at hl
  by_cases h2 : 32 ≤ (r.sk ++ [x]).length
  · rw [if_pos h2]
    refine .inl ⟨?_, rfl⟩
    have : decide (32 < m.sk.length + [x, y].length) = true := by
      rw [List.length_append, h.sk] at h2; simp at h2 ⊢; omega
    simp only [this, Bool.or_true]
  rw [if_neg h2]
  have : decide (32 < m.sk.length + [x, y].length) = false := by
    rw [List.length_append, h.sk] at h2; simp at h2 ⊢; omega
  exact .inr ⟨h.st, h.i0, h.i1, by show r.sk ++ [x] ++ [y] = m.sk ++ [x, y]; rw [h.sk]; simp, h.pc, by simp only [this, h.mb, Bool.or_false], h.rb, h.en, h.won⟩
theorem Rl.two {m : Mac} {r : Rac} (h : Rl m r) (hl : 2 ≤ m.sk.length) (f : Int → Int → Int) : Out (two10 f m) (rtwo f r) := by
  have h1 := h.pop (by omega)
  have h2 := h1.pop (by simp [popM]; omega)
  unfold two10 rtwo
  rw [h.popV, h1.popV]
  exact h2.push _
theorem bad_push {m : Mac} (l : List Int) (h : m.bad = true) : (pushM m l).bad = true := by simp [pushM, h]
theorem bad_pop {m : Mac} (h : m.bad = true ∨ m.sk.length = 0) : (popM m).bad = true := by
  rcases h with h | h <;> simp [popM, h]
theorem bad_two {m : Mac} (f : Int → Int → Int) (h : m.sk.length < 2) : (two10 f m).bad = true := bad_push _ (bad_pop (.inr (by simp [popM]; omega)))
/-- too few numbers -/
theorem few_bad {op arg : Int} {m : Mac} (h : 1 ≤ op ∧ op ≤ 22) (hl : m.sk.length < takesP op) : (doM op arg m).bad = true := by
  rcases op_cases h with rfl | rfl | rfl | rfl | rfl | rfl | rfl | rfl | rfl | rfl | rfl | rfl | rfl | rfl | rfl | rfl | rfl | rfl | rfl | rfl | rfl | rfl
  · replace hl : m.sk.length < 0 := hl
    omega
  · replace hl : m.sk.length < 0 := hl
    omega
  · replace hl : m.sk.length < 1 := hl
    exact bad_pop (.inr (by omega))
  · replace hl : m.sk.length < 2 := hl
    exact bad_two _ hl
  · replace hl : m.sk.length < 2 := hl
    exact bad_two _ hl
  · replace hl : m.sk.length < 2 := hl
    exact bad_two _ hl
  · replace hl : m.sk.length < 2 := hl
    exact bad_two _ hl
  · replace hl : m.sk.length < 2 := hl
    exact bad_two _ hl
  · replace hl : m.sk.length < 2 := hl
    exact bad_two _ hl
  · replace hl : m.sk.length < 2 := hl
    exact bad_two _ hl
  · replace hl : m.sk.length < 2 := hl
    exact bad_two _ hl
  · replace hl : m.sk.length < 1 := hl
    exact bad_push _ (bad_pop (.inr (by omega)))
  · replace hl : m.sk.length < 1 := hl
    exact bad_push _ (bad_pop (.inr (by omega)))
  · replace hl : m.sk.length < 2 := hl
    exact bad_push _ (bad_pop (.inr (by have : (popM m).sk.length = min (m.sk.length - 1) m.sk.length := List.length_take; omega)))
  · replace hl : m.sk.length < 1 := hl
    exact bad_pop (.inr (by omega))
  · replace hl : m.sk.length < 0 := hl
    omega
  · replace hl : m.sk.length < 0 := hl
    omega
  · replace hl : m.sk.length < 0 := hl
    omega
  · replace hl : m.sk.length < 1 := hl
    rw [doM_19]
    unfold zero10
    have hb : (popM m).bad = true := bad_pop (.inr (by omega))
    split <;> exact hb
  · replace hl : m.sk.length < 0 := hl
    omega
  · replace hl : m.sk.length < 0 := hl
    omega
  replace hl : m.sk.length < 0 := hl
  omega
/-- one instruction, in both -/
theorem do_both {op arg n : Int} {m : Mac} {r : Rac} (h : Rl m r) (hm : mayP op arg n = true) :
    ((doM op arg (incM m)).bad = true ∧ (rdoM op arg r).bad = true ∧ rdoB op arg n r = false) ∨
    (Rl (doM op arg (incM m)) (rdoM op arg r) ∧ rdoB op arg n r = decide ((doM op arg (incM m)).pc < n) ∧ (rdoM op arg r).bad = false) ∨
    (op = 20 ∧ (doM op arg (incM m)).bad = false ∧ (doM op arg (incM m)).en = true ∧ (doM op arg (incM m)).st = (m.st.wOver true).wWin arg ∧ (rdoM op arg r).st = m.st ∧ (rdoM op arg r).won = arg ∧ (rdoM op arg r).bad = false ∧ rdoB op arg n r = false) ∨
    (op = 22 ∧ (doM op arg (incM m)).bad = false ∧ (doM op arg (incM m)).en = true ∧ (doM op arg (incM m)).st = m.st ∧ (rdoM op arg r).st = m.st ∧ (rdoM op arg r).won = -1 ∧ (rdoM op arg r).bad = false ∧ rdoB op arg n r = false) := by
  obtain ⟨ho, _⟩ := mayP_arg hm
  have hi := h.inc
  have hsk : (incM m).sk = m.sk := rfl
  by_cases hl : r.sk.length < takesP op
  · refine .inl ⟨few_bad ho (by rw [hsk, ← h.sk]; exact hl), ?_, ?_⟩
    · unfold rdoM; rw [if_pos hl]; rfl
    unfold rdoB; rw [if_pos (.inl hl)]
  have hl' : ¬ (incM m).sk.length < takesP op := by rw [hsk, ← h.sk]; exact hl
  have key : ∀ (hop : ¬ (op = 20 ∨ op = 22)) (m' : Mac) (r' : Rac), doM op arg (incM m) = m' → rdoM op arg r = r' → Out m' r' → ((doM op arg (incM m)).bad = true ∧ (rdoM op arg r).bad = true ∧ rdoB op arg n r = false) ∨
      (Rl (doM op arg (incM m)) (rdoM op arg r) ∧ rdoB op arg n r = decide ((doM op arg (incM m)).pc < n) ∧ (rdoM op arg r).bad = false) := by
    rintro hop m' r' e1 e2 ho
    have eB : rdoB op arg n r = goB r' n := by unfold rdoB; rw [if_neg (by rintro (h | h); exact hl h; exact hop h), e2]
    rw [e1, e2, eB]
    rcases ho with ⟨a, b⟩ | a
    · exact .inl ⟨a, b, by unfold goB; rw [b]; rfl⟩
    exact .inr ⟨a, by unfold goB; rw [a.rb, a.pc]; simp, a.rb⟩
  have nd : ∀ (m' : Mac) (r' : Rac), ¬ (op = 20 ∨ op = 22) → doM op arg (incM m) = m' → rdoM op arg r = r' → Out m' r' → _ := fun m' r' hop e1 e2 ho => (key hop m' r' e1 e2 ho).imp id (fun h => Or.inl (b := (op = 20 ∧ (doM op arg (incM m)).bad = false ∧ (doM op arg (incM m)).en = true ∧ (doM op arg (incM m)).st = (m.st.wOver true).wWin arg ∧ (rdoM op arg r).st = m.st ∧ (rdoM op arg r).won = arg ∧ (rdoM op arg r).bad = false ∧ rdoB op arg n r = false) ∨
    (op = 22 ∧ (doM op arg (incM m)).bad = false ∧ (doM op arg (incM m)).en = true ∧ (doM op arg (incM m)).st = m.st ∧ (rdoM op arg r).st = m.st ∧ (rdoM op arg r).won = -1 ∧ (rdoM op arg r).bad = false ∧ rdoB op arg n r = false)) h)
  have hrl : ¬ r.sk.length < takesP op := hl
  clear key
  rcases op_cases ho with rfl | rfl | rfl | rfl | rfl | rfl | rfl | rfl | rfl | rfl | rfl | rfl | rfl | rfl | rfl | rfl | rfl | rfl | rfl | rfl | rfl | rfl
  · have ek : rdoM 1 arg r = rdoK 1 arg r := if_neg hrl
    replace hl' : ¬ (incM m).sk.length < 0 := hl'
    exact nd _ _ (by omega) rfl ek (hi.push arg)
  · have ek : rdoM 2 arg r = rdoK 2 arg r := if_neg hrl
    replace hl' : ¬ (incM m).sk.length < 0 := hl'
    exact nd _ _ (by omega) rfl ek (by
      show Out (load10 (incM m) arg) (rload (incR r) arg)
      unfold rload load10
      have e : (incR r).st = (incM m).st := hi.st
      rw [e]
      exact hi.push _)
  · have ek : rdoM 3 arg r = rdoK 3 arg r := if_neg hrl
    replace hl' : ¬ (incM m).sk.length < 1 := hl'
    have h1 := hi.pop (by omega)
    exact nd _ _ (by omega) rfl ek (.inr (by
      refine ⟨?_, h1.i0, h1.i1, h1.sk, h1.pc, h1.mb, h1.rb, h1.en, h1.won⟩
      show (incR r).st.wCells _ _ = (incM m).st.wCells _ _
      rw [hi.st, hi.popV]))
  · have ek : rdoM 4 arg r = rdoK 4 arg r := if_neg hrl
    replace hl' : ¬ (incM m).sk.length < 2 := hl'
    exact nd _ _ (by omega) rfl ek (hi.two (by omega) _)
  · have ek : rdoM 5 arg r = rdoK 5 arg r := if_neg hrl
    replace hl' : ¬ (incM m).sk.length < 2 := hl'
    exact nd _ _ (by omega) rfl ek (hi.two (by omega) _)
  · have ek : rdoM 6 arg r = rdoK 6 arg r := if_neg hrl
    replace hl' : ¬ (incM m).sk.length < 2 := hl'
    exact nd _ _ (by omega) rfl ek (hi.two (by omega) _)
  · have ek : rdoM 7 arg r = rdoK 7 arg r := if_neg hrl
    replace hl' : ¬ (incM m).sk.length < 2 := hl'
    exact nd _ _ (by omega) rfl ek (hi.two (by omega) _)
  · have ek : rdoM 8 arg r = rdoK 8 arg r := if_neg hrl
    replace hl' : ¬ (incM m).sk.length < 2 := hl'
    exact nd _ _ (by omega) rfl ek (hi.two (by omega) _)
  · have ek : rdoM 9 arg r = rdoK 9 arg r := if_neg hrl
    replace hl' : ¬ (incM m).sk.length < 2 := hl'
    exact nd _ _ (by omega) rfl ek (hi.two (by omega) _)
  · have ek : rdoM 10 arg r = rdoK 10 arg r := if_neg hrl
    replace hl' : ¬ (incM m).sk.length < 2 := hl'
    exact nd _ _ (by omega) rfl ek (hi.two (by omega) _)
  · have ek : rdoM 11 arg r = rdoK 11 arg r := if_neg hrl
    replace hl' : ¬ (incM m).sk.length < 2 := hl'
    exact nd _ _ (by omega) rfl ek (hi.two (by omega) _)
  · have ek : rdoM 12 arg r = rdoK 12 arg r := if_neg hrl
    replace hl' : ¬ (incM m).sk.length < 1 := hl'
    have h1 := hi.pop (by omega)
    exact nd _ _ (by omega) rfl ek (by
      show Out (not10 (incM m)) (rnot (incR r))
      unfold not10 rnot
      rw [hi.popV]
      exact h1.push _)
  · have ek : rdoM 13 arg r = rdoK 13 arg r := if_neg hrl
    replace hl' : ¬ (incM m).sk.length < 1 := hl'
    have h1 := hi.pop (by omega)
    exact nd _ _ (by omega) rfl ek (by
      show Out (dup10 (incM m)) (rdup (incR r))
      unfold dup10 rdup
      rw [hi.popV]
      exact h1.push2 _ _)
  · have ek : rdoM 14 arg r = rdoK 14 arg r := if_neg hrl
    replace hl' : ¬ (incM m).sk.length < 2 := hl'
    have h1 := hi.pop (by omega)
    have h2 := h1.pop (by have : (popM (incM m)).sk.length = min ((incM m).sk.length - 1) (incM m).sk.length := List.length_take; omega)
    exact nd _ _ (by omega) rfl ek (by
      show Out (swap10 (incM m)) (rswap (incR r))
      unfold swap10 rswap
      rw [hi.popV, h1.popV]
      exact h2.push2 _ _)
  · have ek : rdoM 15 arg r = rdoK 15 arg r := if_neg hrl
    replace hl' : ¬ (incM m).sk.length < 1 := hl'
    exact nd _ _ (by omega) rfl ek (.inr (hi.pop (by omega)))
  · have ek : rdoM 16 arg r = rdoK 16 arg r := if_neg hrl
    replace hl' : ¬ (incM m).sk.length < 0 := hl'
    exact nd _ _ (by omega) rfl ek (by
      show Out (input10 (incM m) arg) (rinput (incR r) arg)
      unfold input10 rinput
      rw [hi.i0, hi.i1]
      exact hi.push _)
  · have ek : rdoM 17 arg r = rdoK 17 arg r := if_neg hrl
    replace hl' : ¬ (incM m).sk.length < 0 := hl'
    exact nd _ _ (by omega) rfl ek (by
      show Out (frame10 (incM m)) (rpushM (incR r) r.st.frame)
      unfold frame10
      rw [h.st]
      exact hi.push _)
  · have ek : rdoM 18 arg r = rdoK 18 arg r := if_neg hrl
    replace hl' : ¬ (incM m).sk.length < 0 := hl'
    exact nd _ _ (by omega) rfl ek (.inr ⟨hi.st, hi.i0, hi.i1, hi.sk, rfl, hi.mb, hi.rb, hi.en, hi.won⟩)
  · have ek : rdoM 19 arg r = rdoK 19 arg r := if_neg hrl
    replace hl' : ¬ (incM m).sk.length < 1 := hl'
    have h1 := hi.pop (by omega)
    exact nd _ _ (by omega) rfl ek (.inr (by
      show Rl (zero10 (incM m) arg) (rzero (incR r) arg)
      unfold zero10 rzero
      rw [hi.popV]
      split
      · exact ⟨h1.st, h1.i0, h1.i1, h1.sk, rfl, h1.mb, h1.rb, h1.en, h1.won⟩
      exact h1))
  · have ek : rdoM 20 arg r = rdoK 20 arg r := if_neg hrl
    replace hl' : ¬ (incM m).sk.length < 0 := hl'
    have e2 : rdoM 20 arg r = rwin (incR r) arg := ek
    refine .inr (.inr (.inl ⟨rfl, hi.mb, rfl, rfl, ?_, ?_, ?_, ?_⟩))
    · rw [e2]; exact h.st
    · rw [e2]; rfl
    · rw [e2]; exact h.rb
    unfold rdoB; rw [if_pos (.inr (.inl rfl))]
  · have ek : rdoM 21 arg r = rdoK 21 arg r := if_neg hrl
    replace hl' : ¬ (incM m).sk.length < 0 := hl'
    exact nd _ _ (by omega) rfl ek (by
      show Out (rand10 (incM m)) (rrand (incR r))
      have e : rrand (incR r) = rpushM ⟨m.st.wSeed (mixS m.st.seed), r.i0, r.i1, r.sk, r.pc + 1, r.won, r.bad⟩ (rndV (mixS m.st.seed)) := by
        show rpushM ⟨r.st.wSeed (mixS r.st.seed), r.i0, r.i1, r.sk, r.pc + 1, r.won, r.bad⟩ (rndV (mixS r.st.seed)) = _
        rw [h.st]
      rw [e]
      exact Rl.push (m := ⟨m.st.wSeed (mixS m.st.seed), m.i0, m.i1, m.sk, m.pc + 1, m.en, m.bad⟩) (r := ⟨m.st.wSeed (mixS m.st.seed), r.i0, r.i1, r.sk, r.pc + 1, r.won, r.bad⟩) ⟨rfl, hi.i0, hi.i1, hi.sk, hi.pc, hi.mb, hi.rb, hi.en, hi.won⟩ _)
  have ek : rdoM 22 arg r = rdoK 22 arg r := if_neg hrl
  replace hl' : ¬ (incM m).sk.length < 0 := hl'
  have e2 : rdoM 22 arg r = incR r := ek
  refine .inr (.inr (.inr ⟨rfl, hi.mb, rfl, rfl, ?_, ?_, ?_, ?_⟩))
  · rw [e2]; exact h.st
  · rw [e2]; exact h.won
  · rw [e2]; exact h.rb
  unfold rdoB; rw [if_pos (.inr (.inr rfl))]
/-! ### the ends -/
def winS (s : Sta) : Int := if s.cells.getD 1 0 < s.cells.getD 0 0 then 0 else if s.cells.getD 0 0 < s.cells.getD 1 0 then 1 else 2
def endS (cap : Int) (s : Sta) : Sta := if cap ≤ s.frame + 1 ∧ s.over = false then ((s.wFrame (s.frame + 1)).wOver true).wWin (winS s) else s.wFrame (s.frame + 1)
@[reducible] def mac0 (s : Sta) (i0 i1 : UInt16) : Mac := ⟨s, i0, i1, [], 0, false, false⟩
def stepM (code : List (Int × Int)) (cap : Int) (fuel : Nat) (s : Sta) (i0 i1 : UInt16) : Sta := endS cap (if (runM code fuel (mac0 s i0 i1)).1 = 0 then (runM code fuel (mac0 s i0 i1)).2.st else s)
@[reducible] def rac0 (s : Sta) (i0 i1 : UInt16) : Rac := ⟨s, i0, i1, [], 0, -1, false⟩
/-- what a frame that failed leaves -/
def undoR (s : Sta) (r : Rac) : Rac := if r.bad = true then ⟨⟨r.st.frame, s.cells, s.seed, r.st.over, r.st.win, s.len⟩, r.i0, r.i1, r.sk, r.pc, -1, r.bad⟩ else r
def refE (cap : Int) (r : Rac) : Sta := if 0 ≤ r.won then ((r.st.wFrame (r.st.frame + 1)).wOver true).wWin r.won else if r.st.frame + 1 = cap then
    (if r.st.cells.getD 0 0 = r.st.cells.getD 1 0 then ((r.st.wFrame (r.st.frame + 1)).wOver true).wWin 2 else if r.st.cells.getD 0 0 < r.st.cells.getD 1 0 then ((r.st.wFrame (r.st.frame + 1)).wOver true).wWin 1 else (r.st.wFrame (r.st.frame + 1)).wOver true) else r.st.wFrame (r.st.frame + 1)
def rstepM (code : List (Int × Int)) (cap : Int) (fuel : Nat) (s : Sta) (i0 i1 : UInt16) : Sta := refE cap (undoR s (rrunM code fuel (rac0 s i0 i1)))
/-- what the other machine never touches -/
structure Kp (s : Sta) (r : Rac) : Prop where
  frame : r.st.frame = s.frame
  over : r.st.over = s.over
  win : r.st.win = s.win
theorem Kp.rpush {s : Sta} {r : Rac} (h : Kp s r) (x : Int) : Kp s (rpushM r x) := by unfold rpushM; split <;> exact ⟨h.frame, h.over, h.win⟩
theorem Kp.do {s : Sta} {r : Rac} (h : Kp s r) (op arg : Int) : Kp s (rdoM op arg r) := by
  have hp : Kp s (rpopM (incR r)) := ⟨h.frame, h.over, h.win⟩
  have hp2 : Kp s (rpopM (rpopM (incR r))) := ⟨h.frame, h.over, h.win⟩
  have hi : Kp s (incR r) := ⟨h.frame, h.over, h.win⟩
  unfold rdoM
  split
  · exact ⟨h.frame, h.over, h.win⟩
  by_cases ho : 1 ≤ op ∧ op ≤ 22
  · rcases op_cases ho with rfl | rfl | rfl | rfl | rfl | rfl | rfl | rfl | rfl | rfl | rfl | rfl | rfl | rfl | rfl | rfl | rfl | rfl | rfl | rfl | rfl | rfl
    · exact hi.rpush _
    · exact hi.rpush _
    · exact ⟨h.frame, h.over, h.win⟩
    · exact hp2.rpush _
    · exact hp2.rpush _
    · exact hp2.rpush _
    · exact hp2.rpush _
    · exact hp2.rpush _
    · exact hp2.rpush _
    · exact hp2.rpush _
    · exact hp2.rpush _
    · exact hp.rpush _
    · exact (hp.rpush _).rpush _
    · exact (hp2.rpush _).rpush _
    · exact hp
    · exact hi.rpush _
    · exact hi.rpush _
    · exact ⟨h.frame, h.over, h.win⟩
    · show Kp s (rzero (incR r) arg)
      unfold rzero
      split <;> exact ⟨h.frame, h.over, h.win⟩
    · exact ⟨h.frame, h.over, h.win⟩
    · exact Kp.rpush (r := ⟨r.st.wSeed (mixS r.st.seed), r.i0, r.i1, r.sk, r.pc + 1, r.won, r.bad⟩) ⟨h.frame, h.over, h.win⟩ _
    exact hi
  have e : rdoK op arg r = incR r := by
    unfold rdoK
    iterate 21 rw [if_neg (by omega)]
  rw [e]; exact hi
theorem badE {s : Sta} {cap : Int} {r : Rac} (hk : Kp s r) (hb : r.bad = true) (hw : s.win = 0) (ho : s.over = false) (hc : s.frame < cap) : refE cap (undoR s r) = endS cap s := by
  have e : undoR s r = ⟨s, r.i0, r.i1, r.sk, r.pc, -1, r.bad⟩ := by
    unfold undoR
    rw [if_pos hb]
    congr 1
    exact Sta.ext' hk.frame rfl rfl hk.over hk.win
  rw [e]
  unfold refE endS winS
  rw [if_neg (show ¬ (0 : Int) ≤ -1 by omega)]
  simp only
  by_cases h1 : s.frame + 1 = cap
  · have hA : cap ≤ s.frame + 1 ∧ s.over = false := ⟨by omega, ho⟩
    rw [if_pos h1, if_pos hA]
    by_cases h2 : s.cells.getD 0 0 = s.cells.getD 1 0
    · rw [if_pos h2, if_neg (by omega), if_neg (by omega)]
    rw [if_neg h2]
    by_cases h3 : s.cells.getD 0 0 < s.cells.getD 1 0
    · rw [if_pos h3, if_neg (by omega), if_pos h3]
    rw [if_neg h3, if_pos (by omega)]
    exact Sta.ext' rfl rfl rfl rfl hw
  rw [if_neg h1, if_neg (by omega)]
theorem okE {s : Sta} {cap : Int} {r : Rac} {m : Mac} (hr : r.bad = false) (hs : r.st = m.st) (hwn : r.won = -1) (hf : m.st.frame < cap) (hw : m.st.win = 0) (ho : m.st.over = false) : refE cap (undoR s r) = endS cap m.st := by
  have e : undoR s r = r := by unfold undoR; rw [if_neg (by rw [hr]; simp)]
  have := badE (s := m.st) (cap := cap) (r := ⟨m.st, r.i0, r.i1, r.sk, r.pc, -1, true⟩) ⟨rfl, rfl, rfl⟩ rfl hw ho hf
  rw [e, ← this]
  unfold undoR
  rw [if_pos rfl]
  unfold refE
  simp only [hs, hwn]
theorem doM_pc0 {n op arg : Int} {m : Mac} (h0 : 0 ≤ m.pc) (hm : mayP op arg n = true) : 0 ≤ (doM op arg m).pc := by
  obtain ⟨ho, _, _, _, h18, _⟩ := mayP_arg hm
  rcases op_cases ho with rfl | rfl | rfl | rfl | rfl | rfl | rfl | rfl | rfl | rfl | rfl | rfl | rfl | rfl | rfl | rfl | rfl | rfl | rfl | rfl | rfl | rfl
  all_goals first | exact h0 | exact (h18 (.inl rfl)).1 | skip
  rw [doM_19]
  unfold zero10
  split
  · exact (h18 (.inr rfl)).1
  exact h0
theorem run_eq {code : List (Int × Int)} {cap : Int} {s : Sta} (hc : (chkP code).2 = 0) (hso : s.over = false) (hsw : s.win = 0) (hsf : s.frame < cap) : ∀ (f : Nat) (m : Mac) (r : Rac), Rl m r → Kp s r → 0 ≤ m.pc →
    refE cap (undoR s (rrunM code f r)) = endS cap (if (runM code f m).1 = 0 then (runM code f m).2.st else s) := by
  have stop : ∀ (m : Mac) (r : Rac), Rl m r → Kp s r → refE cap (undoR s r) = endS cap m.st := by
    intro m r h hk
    exact okE h.rb h.st h.won (by rw [← h.st, hk.frame]; exact hsf) (by rw [← h.st, hk.win]; exact hsw) (by rw [← h.st, hk.over]; exact hso)
  intro f
  induction f with
  | zero =>
    intro m r h hk h0
    have hpc := h.pc
    by_cases hp : m.pc < code.length
    · have e1 : runM code 0 m = (10, m) := if_pos ⟨hp, h.en⟩
      have e2 : rrunM code 0 r = badR r := if_pos (by rw [hpc]; exact hp)
      rw [e1, e2, if_neg (show ¬ ((10, m) : Int × Mac).1 = 0 by simp)]
      exact badE ⟨hk.frame, hk.over, hk.win⟩ rfl hsw hso hsf
    have e1 : runM code 0 m = (0, m) := if_neg (fun h => hp h.1)
    have e2 : rrunM code 0 r = r := if_neg (by rw [hpc]; exact hp)
    rw [e1, e2, if_pos rfl]
    exact stop m r h hk
  | succ f ih =>
    intro m r h hk h0
    have hpc := h.pc
    by_cases hp : m.pc < code.length
    · have e1 : runM code (f + 1) m = (if (doM (gi code m.pc.toNat).1 (gi code m.pc.toNat).2 (incM m)).bad = true then (11, doM (gi code m.pc.toNat).1 (gi code m.pc.toNat).2 (incM m))
          else runM code f (doM (gi code m.pc.toNat).1 (gi code m.pc.toNat).2 (incM m))) := if_pos ⟨hp, h.en⟩
      have e2 : rrunM code (f + 1) r = (if rdoB (gi code m.pc.toNat).1 (gi code m.pc.toNat).2 code.length r = true then rrunM code f (rdoM (gi code m.pc.toNat).1 (gi code m.pc.toNat).2 r) else rdoM (gi code m.pc.toNat).1 (gi code m.pc.toNat).2 r) := by
        rw [← hpc]
        exact if_pos (by rw [hpc]; exact hp)
      rw [e1, e2]
      clear e1 e2
      have hmay := chk_all hc (i := m.pc.toNat) (by omega)
      generalize (gi code m.pc.toNat).1 = op at hmay ⊢
      generalize (gi code m.pc.toNat).2 = arg at hmay ⊢
      have hk' := hk.do op arg
      rcases do_both h hmay with ⟨a, b, c⟩ | ⟨a, b, c⟩ | ⟨ho, hb, he, hst, a, b, c, d⟩ | ⟨ho, hb, he, hst, a, b, c, d⟩
      · have hc2 : ¬ rdoB op arg code.length r = true := by rw [c]; simp
        rw [if_neg hc2, if_pos a, if_neg (show ¬ ((11, doM op arg (incM m)) : Int × Mac).1 = 0 by simp)]
        exact badE hk' b hsw hso hsf
      · rw [if_neg (show ¬ (doM op arg (incM m)).bad = true by rw [a.mb]; simp)]
        by_cases hq : (doM op arg (incM m)).pc < code.length
        · have hb2 : rdoB op arg code.length r = true := by rw [b]; exact decide_eq_true hq
          rw [if_pos hb2]
          exact ih _ _ a hk' (doM_pc0 (by show 0 ≤ m.pc + 1; omega) hmay)
        have hb2 : ¬ rdoB op arg code.length r = true := by rw [b]; simp; omega
        rw [if_neg hb2, stop _ _ a hk']
        have e : runM code f (doM op arg (incM m)) = (0, doM op arg (incM m)) := by
          cases f <;> exact if_neg (fun h => hq h.1)
        rw [e, if_pos rfl]
      · have hd2 : ¬ rdoB op arg code.length r = true := by rw [d]; simp
        have hb2 : ¬ (doM op arg (incM m)).bad = true := by rw [hb]; simp
        rw [if_neg hd2, if_neg hb2]
        have e : runM code f (doM op arg (incM m)) = (0, doM op arg (incM m)) := by
          cases f <;> exact if_neg (fun h => by rw [he] at h; cases h.2)
        rw [e, if_pos rfl, hst]
        have e2 : undoR s (rdoM op arg r) = rdoM op arg r := by unfold undoR; rw [if_neg (by rw [c]; simp)]
        rw [e2]
        obtain ⟨_, _, _, _, _, h20⟩ := mayP_arg hmay
        unfold refE endS
        rw [b, if_pos (h20 ho).1, if_neg (by rintro ⟨_, h⟩; cases h), a]
        rfl
      have hd2 : ¬ rdoB op arg code.length r = true := by rw [d]; simp
      have hb2 : ¬ (doM op arg (incM m)).bad = true := by rw [hb]; simp
      rw [if_neg hd2, if_neg hb2]
      have e : runM code f (doM op arg (incM m)) = (0, doM op arg (incM m)) := by
        cases f <;> exact if_neg (fun h => by rw [he] at h; cases h.2)
      rw [e, if_pos rfl]
      exact okE c (by rw [a, hst]) b (by rw [hst, ← h.st, hk.frame]; exact hsf) (by rw [hst, ← h.st, hk.win]; exact hsw) (by rw [hst, ← h.st, hk.over]; exact hso)
    have e1 : runM code (f + 1) m = (0, m) := if_neg (fun h => hp h.1)
    have e2 : rrunM code (f + 1) r = r := if_neg (by rw [hpc]; exact hp)
    rw [e1, e2, if_pos rfl]
    exact stop m r h hk
theorem step_eq {code : List (Int × Int)} {cap : Int} {fuel : Nat} {s : Sta} {i0 i1 : UInt16} (hc : (chkP code).2 = 0) (hso : s.over = false) (hsw : s.win = 0) (hsf : s.frame < cap) : rstepM code cap fuel s i0 i1 = stepM code cap fuel s i0 i1 :=
  run_eq hc hso hsw hsf fuel (mac0 s i0 i1) (rac0 s i0 i1) ⟨rfl, rfl, rfl, rfl, rfl, rfl, rfl, rfl, rfl⟩ ⟨rfl, rfl, rfl⟩ (by show (0 : Int) ≤ 0; omega)
end
section
set_option maxRecDepth 20000
set_option maxHeartbeats 4000000 in
theorem does1_h (m : Rac) (arg n : Int) (hl : m.sk.length ≤ 1000) (hp : 0 ≤ m.pc ∧ m.pc ≤ 1000) (ha : B32 arg) (ht : 0 ≤ m.sk.length) : Holds Tryz.prog 50 [.ptr (.arg 0) 0, .agg [.val (.int .i64 1), .val (.int .i64 arg)], .int .i64 n] [(.arg 0, rB (.arg 0) m)] (fun r h' => r = V.bool (goB (rpushM (incR m) arg) n) ∧ h' = [(.arg 0, rB (.arg 0) (rpushM (incR m) arg))]) := by
  have hlI : (incR m).sk.length ≤ 1000 := hl
  have hf : decide ((m.sk.length : Int) < 0) = false := by simp; try omega
  obtain ⟨ha, ha2⟩ := ha
  refine holds_of_awp Tryz.func50 rfl (by decide +kernel) mixed Tryz.ntmps50 Tryz.results50 ?_
  refine zE ?_
  refine zc ?_;try exact trivial
  refine a_drawC (⟨[V.cell (.ptr (.arg 0) 0), .undef, V.int .i64 n, .undef, V.cell (.ptr (.loc [4]) 0), .undef, V.bool false, U, U, U, U, U, U, U, U, U, U, U, U, U, U, V.bool (decide ((m.sk.length : Int) < 0)), U, U, U, U, U, U, U, U, U, U, U, U, U, U, U, U, U, U, U, U, U, U, U, U, U, U, U, U, U, U, U, U, U, U, U, U, U, U, U, U, U, U, U, U, U, U, U, U, U, U, U, U, U, U, U, U, U, U, U, U, U, U, U, U, U, U, U, U, U, U, U, U, U, U, U, U, U, U, U, U, U, U, U, U, U, U, U, U, U, U, U, U, U, U, U, U, U, U, U, U, U, U, U, U, U, U, U, U, U, U, U, U, U, U, U, U, U, U, U, U, U, U, U, U, U, U, U, U, U, U, U, U, U, U, U, U, U, U, U, U, U, U, U, U, U, U, U, U, U, U, U, U, U, U, U, U, U, U, U, U, U, U, U, U, U, U, U, U, U, U, U, U, U, U, U, U, .undef], [(.loc [4], [.val (.int .i64 1), .val (.int .i64 arg)]), (.arg 0, rB (.arg 0) m)]⟩) (.take 0 (.take 1 (.take 2 (.take 5 (.both [(3, .take 4 (.both [(6, .both [(7, .take 8 (.done))])])), (6, .both [(3, .take 4 (.both [(7, .take 8 (.done))])), (7, .take 3 (.take 4 (.take 8 (.done))))])]))))) (by kernel_rfl) (by kernel_rfl) ?_ ?_
  · refine zc ?_;try exact trivial
    refine ⟨?_, ?_, ?_⟩
    all_goals
      refine a_call [] takes1_h ok0 ?_ ?_ ?_
      · refine zs ?_;try exact trivial
      · refine zs ?_;try exact trivial
      rintro _ _ ⟨rfl, rfl⟩
      refine zs ?_;try exact trivial
      (all_goals exact leCs_refl _)
  simp (maxSteps:=2000000) (disch:=omega) only [go_sem,Nat.reduceAdd,Nat.reduceSub,Nat.reduceMul,Nat.reduceBEq,Nat.reduceEqDiff,Nat.reduceLT,Nat.reduceLeDiff,Nat.reduceDiv,reduceIte,reduceCtorEq, hf]
  try (refine zc ?_; try exact trivial)
  refine a_call [.arg 0] (rpush_h (incR m) (arg) (by have h2 := rpop_len (incR m); have h3 := rpop_len (rpopM (incR m)); have h4 := rpush_len (rpopM (incR m)) (rpopV (incR m)); have h5 := rpush_len (rpopM (rpopM (incR m))) (rpopV (incR m)); omega)) (ok1 rfl) ?_ ?_ ?_
  · refine zs ?_;try exact trivial
  · refine zs ?_;try exact trivial
  rintro _ _ ⟨rfl, rfl⟩
  refine zc ?_;try exact trivial
  cases d1 : (!(rpushM (incR m) arg).bad)
  · have e : goB (rpushM (incR m) arg) n = false := by
      show ((!(rpushM (incR m) arg).bad) && decide ((rpushM (incR m) arg).pc < n)) = false
      rw [d1]; rfl
    rw [e]
    simp (maxSteps:=2000000) (disch:=omega) only [go_sem,Nat.reduceAdd,Nat.reduceSub,Nat.reduceMul,Nat.reduceBEq,Nat.reduceEqDiff,Nat.reduceLT,Nat.reduceLeDiff,Nat.reduceDiv,reduceIte,reduceCtorEq, d1]
    all_goals exact leCs_refl _
  have e : goB (rpushM (incR m) arg) n = decide ((rpushM (incR m) arg).pc < n) := by
    show ((!(rpushM (incR m) arg).bad) && decide ((rpushM (incR m) arg).pc < n)) = _
    rw [d1, Bool.true_and]
  rw [e]
  simp (maxSteps:=2000000) (disch:=omega) only [go_sem,Nat.reduceAdd,Nat.reduceSub,Nat.reduceMul,Nat.reduceBEq,Nat.reduceEqDiff,Nat.reduceLT,Nat.reduceLeDiff,Nat.reduceDiv,reduceIte,reduceCtorEq, d1]
  all_goals exact leCs_refl _

set_option maxHeartbeats 4000000 in
theorem does2_h (m : Rac) (arg n : Int) (hl : m.sk.length ≤ 1000) (hp : 0 ≤ m.pc ∧ m.pc ≤ 1000) (h0 : 0 ≤ arg) (h1 : arg ≤ 15) (ht : 0 ≤ m.sk.length) : Holds Tryz.prog 50 [.ptr (.arg 0) 0, .agg [.val (.int .i64 2), .val (.int .i64 arg)], .int .i64 n] [(.arg 0, rB (.arg 0) m)] (fun r h' => r = V.bool (goB (rload (incR m) arg) n) ∧ h' = [(.arg 0, rB (.arg 0) (rload (incR m) arg))]) := by
  have hlI : (incR m).sk.length ≤ 1000 := hl
  have hf : decide ((m.sk.length : Int) < 0) = false := by simp; try omega
  skip
  refine holds_of_awp Tryz.func50 rfl (by decide +kernel) mixed Tryz.ntmps50 Tryz.results50 ?_
  refine zE ?_
  refine zc ?_;try exact trivial
  refine a_drawC (⟨[V.cell (.ptr (.arg 0) 0), .undef, V.int .i64 n, .undef, V.cell (.ptr (.loc [4]) 0), .undef, V.bool false, U, U, U, U, U, U, U, U, U, U, U, U, U, U, V.bool (decide ((m.sk.length : Int) < 0)), U, U, U, U, U, U, U, U, U, U, U, U, U, U, U, U, U, U, U, U, U, U, U, U, U, U, U, U, U, U, U, U, U, U, U, U, U, U, U, U, U, U, U, U, U, U, U, U, U, U, U, U, U, U, U, U, U, U, U, U, U, U, U, U, U, U, U, U, U, U, U, U, U, U, U, U, U, U, U, U, U, U, U, U, U, U, U, U, U, U, U, U, U, U, U, U, U, U, U, U, U, U, U, U, U, U, U, U, U, U, U, U, U, U, U, U, U, U, U, U, U, U, U, U, U, U, U, U, U, U, U, U, U, U, U, U, U, U, U, U, U, U, U, U, U, U, U, U, U, U, U, U, U, U, U, U, U, U, U, U, U, U, U, U, U, U, U, U, U, U, U, U, U, U, U, U, .undef], [(.loc [4], [.val (.int .i64 2), .val (.int .i64 arg)]), (.arg 0, rB (.arg 0) m)]⟩) (.take 0 (.take 1 (.take 2 (.take 5 (.both [(3, .take 4 (.both [(6, .both [(7, .take 8 (.done))])])), (6, .both [(3, .take 4 (.both [(7, .take 8 (.done))])), (7, .take 3 (.take 4 (.take 8 (.done))))])]))))) (by kernel_rfl) (by kernel_rfl) ?_ ?_
  · refine zc ?_;try exact trivial
    refine ⟨?_, ?_, ?_⟩
    all_goals
      refine a_call [] takes2_h ok0 ?_ ?_ ?_
      · refine zs ?_;try exact trivial
      · refine zs ?_;try exact trivial
      rintro _ _ ⟨rfl, rfl⟩
      refine zs ?_;try exact trivial
      (all_goals exact leCs_refl _)
  simp (maxSteps:=2000000) (disch:=omega) only [go_sem,Nat.reduceAdd,Nat.reduceSub,Nat.reduceMul,Nat.reduceBEq,Nat.reduceEqDiff,Nat.reduceLT,Nat.reduceLeDiff,Nat.reduceDiv,reduceIte,reduceCtorEq, hf]
  try (refine zc ?_; try exact trivial)
  refine a_draw (.take 0 (.take 1 (.take 2 (.take 4 (.take 5 (.take 6 (.both [(3, .take 7 (.both [(8, .both [(9, .done)])]))]))))))) (by kernel_rfl) (by kernel_rfl) ?_
  refine zc ?_;try exact trivial
  refine a_call [.arg 0] (rpush_h (incR m) (m.st.cells.getD arg.toNat 0) (by have h2 := rpop_len (incR m); have h3 := rpop_len (rpopM (incR m)); have h4 := rpush_len (rpopM (incR m)) (rpopV (incR m)); have h5 := rpush_len (rpopM (rpopM (incR m))) (rpopV (incR m)); omega)) (ok1 rfl) ?_ ?_ ?_
  · refine zs ?_;try exact trivial
  · refine zs ?_;try exact trivial
  rintro _ _ ⟨rfl, rfl⟩
  refine zc ?_;try exact trivial
  cases d1 : (!(rpushM (incR m) (m.st.cells.getD arg.toNat 0)).bad)
  · have e : goB (rload (incR m) arg) n = false := by
      show ((!(rpushM (incR m) (m.st.cells.getD arg.toNat 0)).bad) && decide ((rpushM (incR m) (m.st.cells.getD arg.toNat 0)).pc < n)) = false
      rw [d1]; rfl
    rw [e]
    simp (maxSteps:=2000000) (disch:=omega) only [go_sem,Nat.reduceAdd,Nat.reduceSub,Nat.reduceMul,Nat.reduceBEq,Nat.reduceEqDiff,Nat.reduceLT,Nat.reduceLeDiff,Nat.reduceDiv,reduceIte,reduceCtorEq, d1]
    all_goals exact leCs_refl _
  have e : goB (rload (incR m) arg) n = decide ((rpushM (incR m) (m.st.cells.getD arg.toNat 0)).pc < n) := by
    show ((!(rpushM (incR m) (m.st.cells.getD arg.toNat 0)).bad) && decide ((rpushM (incR m) (m.st.cells.getD arg.toNat 0)).pc < n)) = _
    rw [d1, Bool.true_and]
  rw [e]
  simp (maxSteps:=2000000) (disch:=omega) only [go_sem,Nat.reduceAdd,Nat.reduceSub,Nat.reduceMul,Nat.reduceBEq,Nat.reduceEqDiff,Nat.reduceLT,Nat.reduceLeDiff,Nat.reduceDiv,reduceIte,reduceCtorEq, d1]
  all_goals exact leCs_refl _

set_option maxHeartbeats 4000000 in
theorem does3_h (m : Rac) (arg n : Int) (hl : m.sk.length ≤ 1000) (hp : 0 ≤ m.pc ∧ m.pc ≤ 1000) (h0 : 0 ≤ arg) (h1 : arg ≤ 15) (ht : 1 ≤ m.sk.length) : Holds Tryz.prog 50 [.ptr (.arg 0) 0, .agg [.val (.int .i64 3), .val (.int .i64 arg)], .int .i64 n] [(.arg 0, rB (.arg 0) m)] (fun r h' => r = V.bool (goB (rstore (incR m) arg) n) ∧ h' = [(.arg 0, rB (.arg 0) (rstore (incR m) arg))]) := by
  have hlI : (incR m).sk.length ≤ 1000 := hl
  have hf : decide ((m.sk.length : Int) < 1) = false := by simp; try omega
  skip
  refine holds_of_awp Tryz.func50 rfl (by decide +kernel) mixed Tryz.ntmps50 Tryz.results50 ?_
  refine zE ?_
  refine zc ?_;try exact trivial
  refine a_drawC (⟨[V.cell (.ptr (.arg 0) 0), .undef, V.int .i64 n, .undef, V.cell (.ptr (.loc [4]) 0), .undef, V.bool false, U, U, U, U, U, U, U, U, U, U, U, U, U, U, V.bool (decide ((m.sk.length : Int) < 1)), U, U, U, U, U, U, U, U, U, U, U, U, U, U, U, U, U, U, U, U, U, U, U, U, U, U, U, U, U, U, U, U, U, U, U, U, U, U, U, U, U, U, U, U, U, U, U, U, U, U, U, U, U, U, U, U, U, U, U, U, U, U, U, U, U, U, U, U, U, U, U, U, U, U, U, U, U, U, U, U, U, U, U, U, U, U, U, U, U, U, U, U, U, U, U, U, U, U, U, U, U, U, U, U, U, U, U, U, U, U, U, U, U, U, U, U, U, U, U, U, U, U, U, U, U, U, U, U, U, U, U, U, U, U, U, U, U, U, U, U, U, U, U, U, U, U, U, U, U, U, U, U, U, U, U, U, U, U, U, U, U, U, U, U, U, U, U, U, U, U, U, U, U, U, U, U, .undef], [(.loc [4], [.val (.int .i64 3), .val (.int .i64 arg)]), (.arg 0, rB (.arg 0) m)]⟩) (.take 0 (.take 1 (.take 2 (.take 5 (.both [(3, .take 4 (.both [(6, .both [(7, .take 8 (.done))])])), (6, .both [(3, .take 4 (.both [(7, .take 8 (.done))])), (7, .take 3 (.take 4 (.take 8 (.done))))])]))))) (by kernel_rfl) (by kernel_rfl) ?_ ?_
  · refine zc ?_;try exact trivial
    refine ⟨?_, ?_, ?_⟩
    all_goals
      refine a_call [] takes3_h ok0 ?_ ?_ ?_
      · refine zs ?_;try exact trivial
      · refine zs ?_;try exact trivial
      rintro _ _ ⟨rfl, rfl⟩
      refine zs ?_;try exact trivial
      (all_goals exact leCs_refl _)
  simp (maxSteps:=2000000) (disch:=omega) only [go_sem,Nat.reduceAdd,Nat.reduceSub,Nat.reduceMul,Nat.reduceBEq,Nat.reduceEqDiff,Nat.reduceLT,Nat.reduceLeDiff,Nat.reduceDiv,reduceIte,reduceCtorEq, hf]
  try (refine zc ?_; try exact trivial)
  refine a_draw (.take 0 (.take 1 (.take 3 (.take 5 (.take 6 (.take 7 (.both [(2, .both [(4, .take 8 (.both [(9, .done)]))]), (4, .both [(2, .take 8 (.both [(9, .done)]))])]))))))) (by kernel_rfl) (by kernel_rfl) ?_
  refine zc ?_;try exact trivial
  refine ⟨?_, ?_⟩
  all_goals
    refine a_call [.arg 0] (rpop_h (incR m) (by have h2 := rpop_len (incR m); have h3 := rpop_len (rpopM (incR m)); have h4 := rpush_len (rpopM (incR m)) (rpopV (incR m)); have h5 := rpush_len (rpopM (rpopM (incR m))) (rpopV (incR m)); omega)) (ok1 rfl) ?_ ?_ ?_
    · refine zs ?_;try exact trivial
    · refine zs ?_;try exact trivial
    rintro _ _ ⟨rfl, rfl⟩
    refine zc ?_;try exact trivial
    refine ⟨by omega, ?_⟩
    cases d1 : (!(rpopM (incR m)).bad)
    · have e : goB (rstore (incR m) arg) n = false := by
        show ((!(rpopM (incR m)).bad) && decide ((rpopM (incR m)).pc < n)) = false
        rw [d1]; rfl
      rw [e]
      simp (maxSteps:=2000000) (disch:=omega) only [go_sem,Nat.reduceAdd,Nat.reduceSub,Nat.reduceMul,Nat.reduceBEq,Nat.reduceEqDiff,Nat.reduceLT,Nat.reduceLeDiff,Nat.reduceDiv,reduceIte,reduceCtorEq, d1]
      all_goals exact leCs_refl _
    have e : goB (rstore (incR m) arg) n = decide ((rpopM (incR m)).pc < n) := by
      show ((!(rpopM (incR m)).bad) && decide ((rpopM (incR m)).pc < n)) = _
      rw [d1, Bool.true_and]
    rw [e]
    simp (maxSteps:=2000000) (disch:=omega) only [go_sem,Nat.reduceAdd,Nat.reduceSub,Nat.reduceMul,Nat.reduceBEq,Nat.reduceEqDiff,Nat.reduceLT,Nat.reduceLeDiff,Nat.reduceDiv,reduceIte,reduceCtorEq, d1]
    all_goals exact leCs_refl _

set_option maxHeartbeats 4000000 in
theorem does12_h (m : Rac) (arg n : Int) (hl : m.sk.length ≤ 1000) (hp : 0 ≤ m.pc ∧ m.pc ≤ 1000)  (ht : 1 ≤ m.sk.length) : Holds Tryz.prog 50 [.ptr (.arg 0) 0, .agg [.val (.int .i64 12), .val (.int .i64 arg)], .int .i64 n] [(.arg 0, rB (.arg 0) m)] (fun r h' => r = V.bool (goB (rnot (incR m)) n) ∧ h' = [(.arg 0, rB (.arg 0) (rnot (incR m)))]) := by
  have hlI : (incR m).sk.length ≤ 1000 := hl
  have hf : decide ((m.sk.length : Int) < 1) = false := by simp; try omega
  skip
  refine holds_of_awp Tryz.func50 rfl (by decide +kernel) mixed Tryz.ntmps50 Tryz.results50 ?_
  refine zE ?_
  refine zc ?_;try exact trivial
  refine a_drawC (⟨[V.cell (.ptr (.arg 0) 0), .undef, V.int .i64 n, .undef, V.cell (.ptr (.loc [4]) 0), .undef, V.bool false, U, U, U, U, U, U, U, U, U, U, U, U, U, U, V.bool (decide ((m.sk.length : Int) < 1)), U, U, U, U, U, U, U, U, U, U, U, U, U, U, U, U, U, U, U, U, U, U, U, U, U, U, U, U, U, U, U, U, U, U, U, U, U, U, U, U, U, U, U, U, U, U, U, U, U, U, U, U, U, U, U, U, U, U, U, U, U, U, U, U, U, U, U, U, U, U, U, U, U, U, U, U, U, U, U, U, U, U, U, U, U, U, U, U, U, U, U, U, U, U, U, U, U, U, U, U, U, U, U, U, U, U, U, U, U, U, U, U, U, U, U, U, U, U, U, U, U, U, U, U, U, U, U, U, U, U, U, U, U, U, U, U, U, U, U, U, U, U, U, U, U, U, U, U, U, U, U, U, U, U, U, U, U, U, U, U, U, U, U, U, U, U, U, U, U, U, U, U, U, U, U, U, .undef], [(.loc [4], [.val (.int .i64 12), .val (.int .i64 arg)]), (.arg 0, rB (.arg 0) m)]⟩) (.take 0 (.take 1 (.take 2 (.take 5 (.both [(3, .take 4 (.both [(6, .both [(7, .take 8 (.done))])])), (6, .both [(3, .take 4 (.both [(7, .take 8 (.done))])), (7, .take 3 (.take 4 (.take 8 (.done))))])]))))) (by kernel_rfl) (by kernel_rfl) ?_ ?_
  · refine zc ?_;try exact trivial
    refine ⟨?_, ?_, ?_⟩
    all_goals
      refine a_call [] takes12_h ok0 ?_ ?_ ?_
      · refine zs ?_;try exact trivial
      · refine zs ?_;try exact trivial
      rintro _ _ ⟨rfl, rfl⟩
      refine zs ?_;try exact trivial
      (all_goals exact leCs_refl _)
  simp (maxSteps:=2000000) (disch:=omega) only [go_sem,Nat.reduceAdd,Nat.reduceSub,Nat.reduceMul,Nat.reduceBEq,Nat.reduceEqDiff,Nat.reduceLT,Nat.reduceLeDiff,Nat.reduceDiv,reduceIte,reduceCtorEq, hf]
  try (refine zc ?_; try exact trivial)
  refine a_call [.arg 0] (rpop_h (incR m) (by have h2 := rpop_len (incR m); have h3 := rpop_len (rpopM (incR m)); have h4 := rpush_len (rpopM (incR m)) (rpopV (incR m)); have h5 := rpush_len (rpopM (rpopM (incR m))) (rpopV (incR m)); omega)) (ok1 rfl) ?_ ?_ ?_
  · refine zs ?_;try exact trivial
  · refine zs ?_;try exact trivial
  rintro _ _ ⟨rfl, rfl⟩
  refine zc ?_;try exact trivial
  refine a_call [] (rtruth_h (decide (rpopV (incR m) = 0))) ok0 ?_ ?_ ?_
  · refine zs ?_;try exact trivial
  · refine zs ?_;try exact trivial
  rintro _ _ ⟨rfl, rfl⟩
  refine zc ?_;try exact trivial
  refine a_call [.arg 0] (rpush_h (rpopM (incR m)) (truthV (decide (rpopV (incR m) = 0))) (by have h2 := rpop_len (incR m); have h3 := rpop_len (rpopM (incR m)); have h4 := rpush_len (rpopM (incR m)) (rpopV (incR m)); have h5 := rpush_len (rpopM (rpopM (incR m))) (rpopV (incR m)); omega)) (ok1 rfl) ?_ ?_ ?_
  · refine zs ?_;try exact trivial
  · refine zs ?_;try exact trivial
  rintro _ _ ⟨rfl, rfl⟩
  refine zc ?_;try exact trivial
  cases d1 : (!(rpushM (rpopM (incR m)) (truthV (decide (rpopV (incR m) = 0)))).bad)
  · have e : goB (rnot (incR m)) n = false := by
      show ((!(rpushM (rpopM (incR m)) (truthV (decide (rpopV (incR m) = 0)))).bad) && decide ((rpushM (rpopM (incR m)) (truthV (decide (rpopV (incR m) = 0)))).pc < n)) = false
      rw [d1]; rfl
    rw [e]
    simp (maxSteps:=2000000) (disch:=omega) only [go_sem,Nat.reduceAdd,Nat.reduceSub,Nat.reduceMul,Nat.reduceBEq,Nat.reduceEqDiff,Nat.reduceLT,Nat.reduceLeDiff,Nat.reduceDiv,reduceIte,reduceCtorEq, d1]
    all_goals exact leCs_refl _
  have e : goB (rnot (incR m)) n = decide ((rpushM (rpopM (incR m)) (truthV (decide (rpopV (incR m) = 0)))).pc < n) := by
    show ((!(rpushM (rpopM (incR m)) (truthV (decide (rpopV (incR m) = 0)))).bad) && decide ((rpushM (rpopM (incR m)) (truthV (decide (rpopV (incR m) = 0)))).pc < n)) = _
    rw [d1, Bool.true_and]
  rw [e]
  simp (maxSteps:=2000000) (disch:=omega) only [go_sem,Nat.reduceAdd,Nat.reduceSub,Nat.reduceMul,Nat.reduceBEq,Nat.reduceEqDiff,Nat.reduceLT,Nat.reduceLeDiff,Nat.reduceDiv,reduceIte,reduceCtorEq, d1]
  all_goals exact leCs_refl _

set_option maxHeartbeats 4000000 in
theorem does13_h (m : Rac) (arg n : Int) (hl : m.sk.length ≤ 1000) (hp : 0 ≤ m.pc ∧ m.pc ≤ 1000)  (ht : 1 ≤ m.sk.length) : Holds Tryz.prog 50 [.ptr (.arg 0) 0, .agg [.val (.int .i64 13), .val (.int .i64 arg)], .int .i64 n] [(.arg 0, rB (.arg 0) m)] (fun r h' => r = V.bool (goB (rdup (incR m)) n) ∧ h' = [(.arg 0, rB (.arg 0) (rdup (incR m)))]) := by
  have hlI : (incR m).sk.length ≤ 1000 := hl
  have hf : decide ((m.sk.length : Int) < 1) = false := by simp; try omega
  skip
  refine holds_of_awp Tryz.func50 rfl (by decide +kernel) mixed Tryz.ntmps50 Tryz.results50 ?_
  refine zE ?_
  refine zc ?_;try exact trivial
  refine a_drawC (⟨[V.cell (.ptr (.arg 0) 0), .undef, V.int .i64 n, .undef, V.cell (.ptr (.loc [4]) 0), .undef, V.bool false, U, U, U, U, U, U, U, U, U, U, U, U, U, U, V.bool (decide ((m.sk.length : Int) < 1)), U, U, U, U, U, U, U, U, U, U, U, U, U, U, U, U, U, U, U, U, U, U, U, U, U, U, U, U, U, U, U, U, U, U, U, U, U, U, U, U, U, U, U, U, U, U, U, U, U, U, U, U, U, U, U, U, U, U, U, U, U, U, U, U, U, U, U, U, U, U, U, U, U, U, U, U, U, U, U, U, U, U, U, U, U, U, U, U, U, U, U, U, U, U, U, U, U, U, U, U, U, U, U, U, U, U, U, U, U, U, U, U, U, U, U, U, U, U, U, U, U, U, U, U, U, U, U, U, U, U, U, U, U, U, U, U, U, U, U, U, U, U, U, U, U, U, U, U, U, U, U, U, U, U, U, U, U, U, U, U, U, U, U, U, U, U, U, U, U, U, U, U, U, U, U, U, .undef], [(.loc [4], [.val (.int .i64 13), .val (.int .i64 arg)]), (.arg 0, rB (.arg 0) m)]⟩) (.take 0 (.take 1 (.take 2 (.take 5 (.both [(3, .take 4 (.both [(6, .both [(7, .take 8 (.done))])])), (6, .both [(3, .take 4 (.both [(7, .take 8 (.done))])), (7, .take 3 (.take 4 (.take 8 (.done))))])]))))) (by kernel_rfl) (by kernel_rfl) ?_ ?_
  · refine zc ?_;try exact trivial
    refine ⟨?_, ?_, ?_⟩
    all_goals
      refine a_call [] takes13_h ok0 ?_ ?_ ?_
      · refine zs ?_;try exact trivial
      · refine zs ?_;try exact trivial
      rintro _ _ ⟨rfl, rfl⟩
      refine zs ?_;try exact trivial
      (all_goals exact leCs_refl _)
  simp (maxSteps:=2000000) (disch:=omega) only [go_sem,Nat.reduceAdd,Nat.reduceSub,Nat.reduceMul,Nat.reduceBEq,Nat.reduceEqDiff,Nat.reduceLT,Nat.reduceLeDiff,Nat.reduceDiv,reduceIte,reduceCtorEq, hf]
  try (refine zc ?_; try exact trivial)
  refine a_call [.arg 0] (rpop_h (incR m) (by have h2 := rpop_len (incR m); have h3 := rpop_len (rpopM (incR m)); have h4 := rpush_len (rpopM (incR m)) (rpopV (incR m)); have h5 := rpush_len (rpopM (rpopM (incR m))) (rpopV (incR m)); omega)) (ok1 rfl) ?_ ?_ ?_
  · refine zs ?_;try exact trivial
  · refine zs ?_;try exact trivial
  rintro _ _ ⟨rfl, rfl⟩
  refine zc ?_;try exact trivial
  refine a_call [.arg 0] (rpush_h (rpopM (incR m)) (rpopV (incR m)) (by have h2 := rpop_len (incR m); have h3 := rpop_len (rpopM (incR m)); have h4 := rpush_len (rpopM (incR m)) (rpopV (incR m)); have h5 := rpush_len (rpopM (rpopM (incR m))) (rpopV (incR m)); omega)) (ok1 rfl) ?_ ?_ ?_
  · refine zs ?_;try exact trivial
  · refine zs ?_;try exact trivial
  rintro _ _ ⟨rfl, rfl⟩
  refine zc ?_;try exact trivial
  refine a_call [.arg 0] (rpush_h (rpushM (rpopM (incR m)) (rpopV (incR m))) (rpopV (incR m)) (by have h2 := rpop_len (incR m); have h3 := rpop_len (rpopM (incR m)); have h4 := rpush_len (rpopM (incR m)) (rpopV (incR m)); have h5 := rpush_len (rpopM (rpopM (incR m))) (rpopV (incR m)); omega)) (ok1 rfl) ?_ ?_ ?_
  · refine zs ?_;try exact trivial
  · refine zs ?_;try exact trivial
  rintro _ _ ⟨rfl, rfl⟩
  refine zc ?_;try exact trivial
  cases d1 : (!(rpushM (rpushM (rpopM (incR m)) (rpopV (incR m))) (rpopV (incR m))).bad)
  · have e : goB (rdup (incR m)) n = false := by
      show ((!(rpushM (rpushM (rpopM (incR m)) (rpopV (incR m))) (rpopV (incR m))).bad) && decide ((rpushM (rpushM (rpopM (incR m)) (rpopV (incR m))) (rpopV (incR m))).pc < n)) = false
      rw [d1]; rfl
    rw [e]
    simp (maxSteps:=2000000) (disch:=omega) only [go_sem,Nat.reduceAdd,Nat.reduceSub,Nat.reduceMul,Nat.reduceBEq,Nat.reduceEqDiff,Nat.reduceLT,Nat.reduceLeDiff,Nat.reduceDiv,reduceIte,reduceCtorEq, d1]
    all_goals exact leCs_refl _
  have e : goB (rdup (incR m)) n = decide ((rpushM (rpushM (rpopM (incR m)) (rpopV (incR m))) (rpopV (incR m))).pc < n) := by
    show ((!(rpushM (rpushM (rpopM (incR m)) (rpopV (incR m))) (rpopV (incR m))).bad) && decide ((rpushM (rpushM (rpopM (incR m)) (rpopV (incR m))) (rpopV (incR m))).pc < n)) = _
    rw [d1, Bool.true_and]
  rw [e]
  simp (maxSteps:=2000000) (disch:=omega) only [go_sem,Nat.reduceAdd,Nat.reduceSub,Nat.reduceMul,Nat.reduceBEq,Nat.reduceEqDiff,Nat.reduceLT,Nat.reduceLeDiff,Nat.reduceDiv,reduceIte,reduceCtorEq, d1]
  all_goals exact leCs_refl _

set_option maxHeartbeats 4000000 in
theorem does14_h (m : Rac) (arg n : Int) (hl : m.sk.length ≤ 1000) (hp : 0 ≤ m.pc ∧ m.pc ≤ 1000)  (ht : 2 ≤ m.sk.length) : Holds Tryz.prog 50 [.ptr (.arg 0) 0, .agg [.val (.int .i64 14), .val (.int .i64 arg)], .int .i64 n] [(.arg 0, rB (.arg 0) m)] (fun r h' => r = V.bool (goB (rswap (incR m)) n) ∧ h' = [(.arg 0, rB (.arg 0) (rswap (incR m)))]) := by
  have hlI : (incR m).sk.length ≤ 1000 := hl
  have hf : decide ((m.sk.length : Int) < 2) = false := by simp; try omega
  skip
  refine holds_of_awp Tryz.func50 rfl (by decide +kernel) mixed Tryz.ntmps50 Tryz.results50 ?_
  refine zE ?_
  refine zc ?_;try exact trivial
  refine a_drawC (⟨[V.cell (.ptr (.arg 0) 0), .undef, V.int .i64 n, .undef, V.cell (.ptr (.loc [4]) 0), .undef, V.bool false, U, U, U, U, U, U, U, U, U, U, U, U, U, U, V.bool (decide ((m.sk.length : Int) < 2)), U, U, U, U, U, U, U, U, U, U, U, U, U, U, U, U, U, U, U, U, U, U, U, U, U, U, U, U, U, U, U, U, U, U, U, U, U, U, U, U, U, U, U, U, U, U, U, U, U, U, U, U, U, U, U, U, U, U, U, U, U, U, U, U, U, U, U, U, U, U, U, U, U, U, U, U, U, U, U, U, U, U, U, U, U, U, U, U, U, U, U, U, U, U, U, U, U, U, U, U, U, U, U, U, U, U, U, U, U, U, U, U, U, U, U, U, U, U, U, U, U, U, U, U, U, U, U, U, U, U, U, U, U, U, U, U, U, U, U, U, U, U, U, U, U, U, U, U, U, U, U, U, U, U, U, U, U, U, U, U, U, U, U, U, U, U, U, U, U, U, U, U, U, U, U, U, .undef], [(.loc [4], [.val (.int .i64 14), .val (.int .i64 arg)]), (.arg 0, rB (.arg 0) m)]⟩) (.take 0 (.take 1 (.take 2 (.take 5 (.both [(3, .take 4 (.both [(6, .both [(7, .take 8 (.done))])])), (6, .both [(3, .take 4 (.both [(7, .take 8 (.done))])), (7, .take 3 (.take 4 (.take 8 (.done))))])]))))) (by kernel_rfl) (by kernel_rfl) ?_ ?_
  · refine zc ?_;try exact trivial
    refine ⟨?_, ?_, ?_⟩
    all_goals
      refine a_call [] takes14_h ok0 ?_ ?_ ?_
      · refine zs ?_;try exact trivial
      · refine zs ?_;try exact trivial
      rintro _ _ ⟨rfl, rfl⟩
      refine zs ?_;try exact trivial
      (all_goals exact leCs_refl _)
  simp (maxSteps:=2000000) (disch:=omega) only [go_sem,Nat.reduceAdd,Nat.reduceSub,Nat.reduceMul,Nat.reduceBEq,Nat.reduceEqDiff,Nat.reduceLT,Nat.reduceLeDiff,Nat.reduceDiv,reduceIte,reduceCtorEq, hf]
  try (refine zc ?_; try exact trivial)
  refine a_call [.arg 0] (rpop_h (incR m) (by have h2 := rpop_len (incR m); have h3 := rpop_len (rpopM (incR m)); have h4 := rpush_len (rpopM (incR m)) (rpopV (incR m)); have h5 := rpush_len (rpopM (rpopM (incR m))) (rpopV (incR m)); omega)) (ok1 rfl) ?_ ?_ ?_
  · refine zs ?_;try exact trivial
  · refine zs ?_;try exact trivial
  rintro _ _ ⟨rfl, rfl⟩
  refine zc ?_;try exact trivial
  refine a_call [.arg 0] (rpop_h (rpopM (incR m)) (by have h2 := rpop_len (incR m); have h3 := rpop_len (rpopM (incR m)); have h4 := rpush_len (rpopM (incR m)) (rpopV (incR m)); have h5 := rpush_len (rpopM (rpopM (incR m))) (rpopV (incR m)); omega)) (ok1 rfl) ?_ ?_ ?_
  · refine zs ?_;try exact trivial
  · refine zs ?_;try exact trivial
  rintro _ _ ⟨rfl, rfl⟩
  refine zc ?_;try exact trivial
  refine a_call [.arg 0] (rpush_h (rpopM (rpopM (incR m))) (rpopV (incR m)) (by have h2 := rpop_len (incR m); have h3 := rpop_len (rpopM (incR m)); have h4 := rpush_len (rpopM (incR m)) (rpopV (incR m)); have h5 := rpush_len (rpopM (rpopM (incR m))) (rpopV (incR m)); omega)) (ok1 rfl) ?_ ?_ ?_
  · refine zs ?_;try exact trivial
  · refine zs ?_;try exact trivial
  rintro _ _ ⟨rfl, rfl⟩
  refine zc ?_;try exact trivial
  refine a_call [.arg 0] (rpush_h (rpushM (rpopM (rpopM (incR m))) (rpopV (incR m))) (rpopV (rpopM (incR m))) (by have h2 := rpop_len (incR m); have h3 := rpop_len (rpopM (incR m)); have h4 := rpush_len (rpopM (incR m)) (rpopV (incR m)); have h5 := rpush_len (rpopM (rpopM (incR m))) (rpopV (incR m)); omega)) (ok1 rfl) ?_ ?_ ?_
  · refine zs ?_;try exact trivial
  · refine zs ?_;try exact trivial
  rintro _ _ ⟨rfl, rfl⟩
  refine zc ?_;try exact trivial
  cases d1 : (!(rpushM (rpushM (rpopM (rpopM (incR m))) (rpopV (incR m))) (rpopV (rpopM (incR m)))).bad)
  · have e : goB (rswap (incR m)) n = false := by
      show ((!(rpushM (rpushM (rpopM (rpopM (incR m))) (rpopV (incR m))) (rpopV (rpopM (incR m)))).bad) && decide ((rpushM (rpushM (rpopM (rpopM (incR m))) (rpopV (incR m))) (rpopV (rpopM (incR m)))).pc < n)) = false
      rw [d1]; rfl
    rw [e]
    simp (maxSteps:=2000000) (disch:=omega) only [go_sem,Nat.reduceAdd,Nat.reduceSub,Nat.reduceMul,Nat.reduceBEq,Nat.reduceEqDiff,Nat.reduceLT,Nat.reduceLeDiff,Nat.reduceDiv,reduceIte,reduceCtorEq, d1]
    all_goals exact leCs_refl _
  have e : goB (rswap (incR m)) n = decide ((rpushM (rpushM (rpopM (rpopM (incR m))) (rpopV (incR m))) (rpopV (rpopM (incR m)))).pc < n) := by
    show ((!(rpushM (rpushM (rpopM (rpopM (incR m))) (rpopV (incR m))) (rpopV (rpopM (incR m)))).bad) && decide ((rpushM (rpushM (rpopM (rpopM (incR m))) (rpopV (incR m))) (rpopV (rpopM (incR m)))).pc < n)) = _
    rw [d1, Bool.true_and]
  rw [e]
  simp (maxSteps:=2000000) (disch:=omega) only [go_sem,Nat.reduceAdd,Nat.reduceSub,Nat.reduceMul,Nat.reduceBEq,Nat.reduceEqDiff,Nat.reduceLT,Nat.reduceLeDiff,Nat.reduceDiv,reduceIte,reduceCtorEq, d1]
  all_goals exact leCs_refl _

set_option maxHeartbeats 4000000 in
theorem does15_h (m : Rac) (arg n : Int) (hl : m.sk.length ≤ 1000) (hp : 0 ≤ m.pc ∧ m.pc ≤ 1000)  (ht : 1 ≤ m.sk.length) : Holds Tryz.prog 50 [.ptr (.arg 0) 0, .agg [.val (.int .i64 15), .val (.int .i64 arg)], .int .i64 n] [(.arg 0, rB (.arg 0) m)] (fun r h' => r = V.bool (goB (rpopM (incR m)) n) ∧ h' = [(.arg 0, rB (.arg 0) (rpopM (incR m)))]) := by
  have hlI : (incR m).sk.length ≤ 1000 := hl
  have hf : decide ((m.sk.length : Int) < 1) = false := by simp; try omega
  skip
  refine holds_of_awp Tryz.func50 rfl (by decide +kernel) mixed Tryz.ntmps50 Tryz.results50 ?_
  refine zE ?_
  refine zc ?_;try exact trivial
  refine a_drawC (⟨[V.cell (.ptr (.arg 0) 0), .undef, V.int .i64 n, .undef, V.cell (.ptr (.loc [4]) 0), .undef, V.bool false, U, U, U, U, U, U, U, U, U, U, U, U, U, U, V.bool (decide ((m.sk.length : Int) < 1)), U, U, U, U, U, U, U, U, U, U, U, U, U, U, U, U, U, U, U, U, U, U, U, U, U, U, U, U, U, U, U, U, U, U, U, U, U, U, U, U, U, U, U, U, U, U, U, U, U, U, U, U, U, U, U, U, U, U, U, U, U, U, U, U, U, U, U, U, U, U, U, U, U, U, U, U, U, U, U, U, U, U, U, U, U, U, U, U, U, U, U, U, U, U, U, U, U, U, U, U, U, U, U, U, U, U, U, U, U, U, U, U, U, U, U, U, U, U, U, U, U, U, U, U, U, U, U, U, U, U, U, U, U, U, U, U, U, U, U, U, U, U, U, U, U, U, U, U, U, U, U, U, U, U, U, U, U, U, U, U, U, U, U, U, U, U, U, U, U, U, U, U, U, U, U, U, .undef], [(.loc [4], [.val (.int .i64 15), .val (.int .i64 arg)]), (.arg 0, rB (.arg 0) m)]⟩) (.take 0 (.take 1 (.take 2 (.take 5 (.both [(3, .take 4 (.both [(6, .both [(7, .take 8 (.done))])])), (6, .both [(3, .take 4 (.both [(7, .take 8 (.done))])), (7, .take 3 (.take 4 (.take 8 (.done))))])]))))) (by kernel_rfl) (by kernel_rfl) ?_ ?_
  · refine zc ?_;try exact trivial
    refine ⟨?_, ?_, ?_⟩
    all_goals
      refine a_call [] takes15_h ok0 ?_ ?_ ?_
      · refine zs ?_;try exact trivial
      · refine zs ?_;try exact trivial
      rintro _ _ ⟨rfl, rfl⟩
      refine zs ?_;try exact trivial
      (all_goals exact leCs_refl _)
  simp (maxSteps:=2000000) (disch:=omega) only [go_sem,Nat.reduceAdd,Nat.reduceSub,Nat.reduceMul,Nat.reduceBEq,Nat.reduceEqDiff,Nat.reduceLT,Nat.reduceLeDiff,Nat.reduceDiv,reduceIte,reduceCtorEq, hf]
  try (refine zc ?_; try exact trivial)
  refine a_call [.arg 0] (rpop_h (incR m) (by have h2 := rpop_len (incR m); have h3 := rpop_len (rpopM (incR m)); have h4 := rpush_len (rpopM (incR m)) (rpopV (incR m)); have h5 := rpush_len (rpopM (rpopM (incR m))) (rpopV (incR m)); omega)) (ok1 rfl) ?_ ?_ ?_
  · refine zs ?_;try exact trivial
  · refine zs ?_;try exact trivial
  rintro _ _ ⟨rfl, rfl⟩
  refine zc ?_;try exact trivial
  cases d1 : (!(rpopM (incR m)).bad)
  · have e : goB (rpopM (incR m)) n = false := by
      show ((!(rpopM (incR m)).bad) && decide ((rpopM (incR m)).pc < n)) = false
      rw [d1]; rfl
    rw [e]
    simp (maxSteps:=2000000) (disch:=omega) only [go_sem,Nat.reduceAdd,Nat.reduceSub,Nat.reduceMul,Nat.reduceBEq,Nat.reduceEqDiff,Nat.reduceLT,Nat.reduceLeDiff,Nat.reduceDiv,reduceIte,reduceCtorEq, d1]
    all_goals exact leCs_refl _
  have e : goB (rpopM (incR m)) n = decide ((rpopM (incR m)).pc < n) := by
    show ((!(rpopM (incR m)).bad) && decide ((rpopM (incR m)).pc < n)) = _
    rw [d1, Bool.true_and]
  rw [e]
  simp (maxSteps:=2000000) (disch:=omega) only [go_sem,Nat.reduceAdd,Nat.reduceSub,Nat.reduceMul,Nat.reduceBEq,Nat.reduceEqDiff,Nat.reduceLT,Nat.reduceLeDiff,Nat.reduceDiv,reduceIte,reduceCtorEq, d1]
  all_goals exact leCs_refl _
end
section
set_option maxRecDepth 20000
set_option maxHeartbeats 4000000 in
theorem does16_h (m : Rac) (arg n : Int) (hl : m.sk.length ≤ 1000) (hp : 0 ≤ m.pc ∧ m.pc ≤ 1000) (h0 : arg = 0 ∨ arg = 1) (ht : 0 ≤ m.sk.length) : Holds Tryz.prog 50 [.ptr (.arg 0) 0, .agg [.val (.int .i64 16), .val (.int .i64 arg)], .int .i64 n] [(.arg 0, rB (.arg 0) m)] (fun r h' => r = V.bool (goB (rinput (incR m) arg) n) ∧ h' = [(.arg 0, rB (.arg 0) (rinput (incR m) arg))]) := by
  have hlI : (incR m).sk.length ≤ 1000 := hl
  have hf : decide ((m.sk.length : Int) < 0) = false := by simp; try omega
  skip
  refine holds_of_awp Tryz.func50 rfl (by decide +kernel) mixed Tryz.ntmps50 Tryz.results50 ?_
  refine zE ?_
  refine zc ?_;try exact trivial
  refine a_drawC (⟨[V.cell (.ptr (.arg 0) 0), .undef, V.int .i64 n, .undef, V.cell (.ptr (.loc [4]) 0), .undef, V.bool false, U, U, U, U, U, U, U, U, U, U, U, U, U, U, V.bool (decide ((m.sk.length : Int) < 0)), U, U, U, U, U, U, U, U, U, U, U, U, U, U, U, U, U, U, U, U, U, U, U, U, U, U, U, U, U, U, U, U, U, U, U, U, U, U, U, U, U, U, U, U, U, U, U, U, U, U, U, U, U, U, U, U, U, U, U, U, U, U, U, U, U, U, U, U, U, U, U, U, U, U, U, U, U, U, U, U, U, U, U, U, U, U, U, U, U, U, U, U, U, U, U, U, U, U, U, U, U, U, U, U, U, U, U, U, U, U, U, U, U, U, U, U, U, U, U, U, U, U, U, U, U, U, U, U, U, U, U, U, U, U, U, U, U, U, U, U, U, U, U, U, U, U, U, U, U, U, U, U, U, U, U, U, U, U, U, U, U, U, U, U, U, U, U, U, U, U, U, U, U, U, U, U, .undef], [(.loc [4], [.val (.int .i64 16), .val (.int .i64 arg)]), (.arg 0, rB (.arg 0) m)]⟩) (.take 0 (.take 1 (.take 2 (.take 5 (.both [(3, .take 4 (.both [(6, .both [(7, .take 8 (.done))])])), (6, .both [(3, .take 4 (.both [(7, .take 8 (.done))])), (7, .take 3 (.take 4 (.take 8 (.done))))])]))))) (by kernel_rfl) (by kernel_rfl) ?_ ?_
  · refine zc ?_;try exact trivial
    refine ⟨?_, ?_, ?_⟩
    all_goals
      refine a_call [] takes16_h ok0 ?_ ?_ ?_
      · refine zs ?_;try exact trivial
      · refine zs ?_;try exact trivial
      rintro _ _ ⟨rfl, rfl⟩
      refine zs ?_;try exact trivial
      (all_goals exact leCs_refl _)
  simp (maxSteps:=2000000) (disch:=omega) only [go_sem,Nat.reduceAdd,Nat.reduceSub,Nat.reduceMul,Nat.reduceBEq,Nat.reduceEqDiff,Nat.reduceLT,Nat.reduceLeDiff,Nat.reduceDiv,reduceIte,reduceCtorEq, hf]
  try (refine zc ?_; try exact trivial)
  have u0 := U16_b m.i0
  have u1 := U16_b m.i1
  rcases h0 with rfl | rfl
  · refine a_draw (.take 0 (.take 1 (.take 2 (.take 4 (.take 5 (.both [(3, .take 6 (.both [(7, .take 8 (.both [(9, .done)]))]))])))))) (by kernel_rfl) (by kernel_rfl) ?_
    refine zc ?_;try exact trivial
    refine a_call [.arg 0] (rpush_h (incR m) ((U16 m.i0 : Int)) (by have h2 := rpop_len (incR m); have h3 := rpop_len (rpopM (incR m)); have h4 := rpush_len (rpopM (incR m)) (rpopV (incR m)); have h5 := rpush_len (rpopM (rpopM (incR m))) (rpopV (incR m)); omega)) (ok1 rfl) ?_ ?_ ?_
    · refine zs ?_;try exact trivial
    · refine zs ?_;try exact trivial
    rintro _ _ ⟨rfl, rfl⟩
    refine zc ?_;try exact trivial
    cases d1 : (!(rpushM (incR m) (U16 m.i0 : Int)).bad)
    · have e : goB (rinput (incR m) 0) n = false := by
        show ((!(rpushM (incR m) (U16 m.i0 : Int)).bad) && decide ((rpushM (incR m) (U16 m.i0 : Int)).pc < n)) = false
        rw [d1]; rfl
      rw [e]
      simp (maxSteps:=2000000) (disch:=omega) only [go_sem,Nat.reduceAdd,Nat.reduceSub,Nat.reduceMul,Nat.reduceBEq,Nat.reduceEqDiff,Nat.reduceLT,Nat.reduceLeDiff,Nat.reduceDiv,reduceIte,reduceCtorEq, d1]
      all_goals exact leCs_refl _
    have e : goB (rinput (incR m) 0) n = decide ((rpushM (incR m) (U16 m.i0 : Int)).pc < n) := by
      show ((!(rpushM (incR m) (U16 m.i0 : Int)).bad) && decide ((rpushM (incR m) (U16 m.i0 : Int)).pc < n)) = _
      rw [d1, Bool.true_and]
    rw [e]
    simp (maxSteps:=2000000) (disch:=omega) only [go_sem,Nat.reduceAdd,Nat.reduceSub,Nat.reduceMul,Nat.reduceBEq,Nat.reduceEqDiff,Nat.reduceLT,Nat.reduceLeDiff,Nat.reduceDiv,reduceIte,reduceCtorEq, d1]
    all_goals exact leCs_refl _
  refine a_draw (.take 0 (.take 1 (.take 2 (.take 4 (.take 5 (.both [(3, .take 6 (.both [(7, .take 8 (.both [(9, .done)]))]))])))))) (by kernel_rfl) (by kernel_rfl) ?_
  refine zc ?_;try exact trivial
  refine a_call [.arg 0] (rpush_h (incR m) ((U16 m.i1 : Int)) (by have h2 := rpop_len (incR m); have h3 := rpop_len (rpopM (incR m)); have h4 := rpush_len (rpopM (incR m)) (rpopV (incR m)); have h5 := rpush_len (rpopM (rpopM (incR m))) (rpopV (incR m)); omega)) (ok1 rfl) ?_ ?_ ?_
  · refine zs ?_;try exact trivial
  · refine zs ?_;try exact trivial
  rintro _ _ ⟨rfl, rfl⟩
  refine zc ?_;try exact trivial
  cases d1 : (!(rpushM (incR m) (U16 m.i1 : Int)).bad)
  · have e : goB (rinput (incR m) 1) n = false := by
      show ((!(rpushM (incR m) (U16 m.i1 : Int)).bad) && decide ((rpushM (incR m) (U16 m.i1 : Int)).pc < n)) = false
      rw [d1]; rfl
    rw [e]
    simp (maxSteps:=2000000) (disch:=omega) only [go_sem,Nat.reduceAdd,Nat.reduceSub,Nat.reduceMul,Nat.reduceBEq,Nat.reduceEqDiff,Nat.reduceLT,Nat.reduceLeDiff,Nat.reduceDiv,reduceIte,reduceCtorEq, d1]
    all_goals exact leCs_refl _
  have e : goB (rinput (incR m) 1) n = decide ((rpushM (incR m) (U16 m.i1 : Int)).pc < n) := by
    show ((!(rpushM (incR m) (U16 m.i1 : Int)).bad) && decide ((rpushM (incR m) (U16 m.i1 : Int)).pc < n)) = _
    rw [d1, Bool.true_and]
  rw [e]
  simp (maxSteps:=2000000) (disch:=omega) only [go_sem,Nat.reduceAdd,Nat.reduceSub,Nat.reduceMul,Nat.reduceBEq,Nat.reduceEqDiff,Nat.reduceLT,Nat.reduceLeDiff,Nat.reduceDiv,reduceIte,reduceCtorEq, d1]
  all_goals exact leCs_refl _

set_option maxHeartbeats 4000000 in
theorem does17_h (m : Rac) (arg n : Int) (hl : m.sk.length ≤ 1000) (hp : 0 ≤ m.pc ∧ m.pc ≤ 1000) (h0 : 0 ≤ m.st.frame) (h1 : m.st.frame ≤ 600) (ht : 0 ≤ m.sk.length) : Holds Tryz.prog 50 [.ptr (.arg 0) 0, .agg [.val (.int .i64 17), .val (.int .i64 arg)], .int .i64 n] [(.arg 0, rB (.arg 0) m)] (fun r h' => r = V.bool (goB (rpushM (incR m) m.st.frame) n) ∧ h' = [(.arg 0, rB (.arg 0) (rpushM (incR m) m.st.frame))]) := by
  have hlI : (incR m).sk.length ≤ 1000 := hl
  have hf : decide ((m.sk.length : Int) < 0) = false := by simp; try omega
  skip
  refine holds_of_awp Tryz.func50 rfl (by decide +kernel) mixed Tryz.ntmps50 Tryz.results50 ?_
  refine zE ?_
  refine zc ?_;try exact trivial
  refine a_drawC (⟨[V.cell (.ptr (.arg 0) 0), .undef, V.int .i64 n, .undef, V.cell (.ptr (.loc [4]) 0), .undef, V.bool false, U, U, U, U, U, U, U, U, U, U, U, U, U, U, V.bool (decide ((m.sk.length : Int) < 0)), U, U, U, U, U, U, U, U, U, U, U, U, U, U, U, U, U, U, U, U, U, U, U, U, U, U, U, U, U, U, U, U, U, U, U, U, U, U, U, U, U, U, U, U, U, U, U, U, U, U, U, U, U, U, U, U, U, U, U, U, U, U, U, U, U, U, U, U, U, U, U, U, U, U, U, U, U, U, U, U, U, U, U, U, U, U, U, U, U, U, U, U, U, U, U, U, U, U, U, U, U, U, U, U, U, U, U, U, U, U, U, U, U, U, U, U, U, U, U, U, U, U, U, U, U, U, U, U, U, U, U, U, U, U, U, U, U, U, U, U, U, U, U, U, U, U, U, U, U, U, U, U, U, U, U, U, U, U, U, U, U, U, U, U, U, U, U, U, U, U, U, U, U, U, U, U, .undef], [(.loc [4], [.val (.int .i64 17), .val (.int .i64 arg)]), (.arg 0, rB (.arg 0) m)]⟩) (.take 0 (.take 1 (.take 2 (.take 5 (.both [(3, .take 4 (.both [(6, .both [(7, .take 8 (.done))])])), (6, .both [(3, .take 4 (.both [(7, .take 8 (.done))])), (7, .take 3 (.take 4 (.take 8 (.done))))])]))))) (by kernel_rfl) (by kernel_rfl) ?_ ?_
  · refine zc ?_;try exact trivial
    refine ⟨?_, ?_, ?_⟩
    all_goals
      refine a_call [] takes17_h ok0 ?_ ?_ ?_
      · refine zs ?_;try exact trivial
      · refine zs ?_;try exact trivial
      rintro _ _ ⟨rfl, rfl⟩
      refine zs ?_;try exact trivial
      (all_goals exact leCs_refl _)
  simp (maxSteps:=2000000) (disch:=omega) only [go_sem,Nat.reduceAdd,Nat.reduceSub,Nat.reduceMul,Nat.reduceBEq,Nat.reduceEqDiff,Nat.reduceLT,Nat.reduceLeDiff,Nat.reduceDiv,reduceIte,reduceCtorEq, hf]
  try (refine zc ?_; try exact trivial)
  refine a_call [.arg 0] (rpush_h (incR m) (m.st.frame) (by have h2 := rpop_len (incR m); have h3 := rpop_len (rpopM (incR m)); have h4 := rpush_len (rpopM (incR m)) (rpopV (incR m)); have h5 := rpush_len (rpopM (rpopM (incR m))) (rpopV (incR m)); omega)) (ok1 rfl) ?_ ?_ ?_
  · refine zs ?_;try exact trivial
  · refine zs ?_;try exact trivial
  rintro _ _ ⟨rfl, rfl⟩
  refine zc ?_;try exact trivial
  cases d1 : (!(rpushM (incR m) m.st.frame).bad)
  · have e : goB (rpushM (incR m) m.st.frame) n = false := by
      show ((!(rpushM (incR m) m.st.frame).bad) && decide ((rpushM (incR m) m.st.frame).pc < n)) = false
      rw [d1]; rfl
    rw [e]
    simp (maxSteps:=2000000) (disch:=omega) only [go_sem,Nat.reduceAdd,Nat.reduceSub,Nat.reduceMul,Nat.reduceBEq,Nat.reduceEqDiff,Nat.reduceLT,Nat.reduceLeDiff,Nat.reduceDiv,reduceIte,reduceCtorEq, d1]
    all_goals exact leCs_refl _
  have e : goB (rpushM (incR m) m.st.frame) n = decide ((rpushM (incR m) m.st.frame).pc < n) := by
    show ((!(rpushM (incR m) m.st.frame).bad) && decide ((rpushM (incR m) m.st.frame).pc < n)) = _
    rw [d1, Bool.true_and]
  rw [e]
  simp (maxSteps:=2000000) (disch:=omega) only [go_sem,Nat.reduceAdd,Nat.reduceSub,Nat.reduceMul,Nat.reduceBEq,Nat.reduceEqDiff,Nat.reduceLT,Nat.reduceLeDiff,Nat.reduceDiv,reduceIte,reduceCtorEq, d1]
  all_goals exact leCs_refl _

set_option maxHeartbeats 4000000 in
theorem does18_h (m : Rac) (arg n : Int) (hl : m.sk.length ≤ 1000) (hp : 0 ≤ m.pc ∧ m.pc ≤ 1000)  (ht : 0 ≤ m.sk.length) : Holds Tryz.prog 50 [.ptr (.arg 0) 0, .agg [.val (.int .i64 18), .val (.int .i64 arg)], .int .i64 n] [(.arg 0, rB (.arg 0) m)] (fun r h' => r = V.bool (goB (rjump (incR m) arg) n) ∧ h' = [(.arg 0, rB (.arg 0) (rjump (incR m) arg))]) := by
  have hlI : (incR m).sk.length ≤ 1000 := hl
  have hf : decide ((m.sk.length : Int) < 0) = false := by simp; try omega
  skip
  refine holds_of_awp Tryz.func50 rfl (by decide +kernel) mixed Tryz.ntmps50 Tryz.results50 ?_
  refine zE ?_
  refine zc ?_;try exact trivial
  refine a_drawC (⟨[V.cell (.ptr (.arg 0) 0), .undef, V.int .i64 n, .undef, V.cell (.ptr (.loc [4]) 0), .undef, V.bool false, U, U, U, U, U, U, U, U, U, U, U, U, U, U, V.bool (decide ((m.sk.length : Int) < 0)), U, U, U, U, U, U, U, U, U, U, U, U, U, U, U, U, U, U, U, U, U, U, U, U, U, U, U, U, U, U, U, U, U, U, U, U, U, U, U, U, U, U, U, U, U, U, U, U, U, U, U, U, U, U, U, U, U, U, U, U, U, U, U, U, U, U, U, U, U, U, U, U, U, U, U, U, U, U, U, U, U, U, U, U, U, U, U, U, U, U, U, U, U, U, U, U, U, U, U, U, U, U, U, U, U, U, U, U, U, U, U, U, U, U, U, U, U, U, U, U, U, U, U, U, U, U, U, U, U, U, U, U, U, U, U, U, U, U, U, U, U, U, U, U, U, U, U, U, U, U, U, U, U, U, U, U, U, U, U, U, U, U, U, U, U, U, U, U, U, U, U, U, U, U, U, U, .undef], [(.loc [4], [.val (.int .i64 18), .val (.int .i64 arg)]), (.arg 0, rB (.arg 0) m)]⟩) (.take 0 (.take 1 (.take 2 (.take 5 (.both [(3, .take 4 (.both [(6, .both [(7, .take 8 (.done))])])), (6, .both [(3, .take 4 (.both [(7, .take 8 (.done))])), (7, .take 3 (.take 4 (.take 8 (.done))))])]))))) (by kernel_rfl) (by kernel_rfl) ?_ ?_
  · refine zc ?_;try exact trivial
    refine ⟨?_, ?_, ?_⟩
    all_goals
      refine a_call [] takes18_h ok0 ?_ ?_ ?_
      · refine zs ?_;try exact trivial
      · refine zs ?_;try exact trivial
      rintro _ _ ⟨rfl, rfl⟩
      refine zs ?_;try exact trivial
      (all_goals exact leCs_refl _)
  simp (maxSteps:=2000000) (disch:=omega) only [go_sem,Nat.reduceAdd,Nat.reduceSub,Nat.reduceMul,Nat.reduceBEq,Nat.reduceEqDiff,Nat.reduceLT,Nat.reduceLeDiff,Nat.reduceDiv,reduceIte,reduceCtorEq, hf]
  try (refine zc ?_; try exact trivial)
  cases d1 : (!m.bad)
  · have e : goB (rjump (incR m) arg) n = false := by
      show ((!m.bad) && decide (arg < n)) = false
      rw [d1]; rfl
    rw [e]
    simp (maxSteps:=2000000) (disch:=omega) only [go_sem,Nat.reduceAdd,Nat.reduceSub,Nat.reduceMul,Nat.reduceBEq,Nat.reduceEqDiff,Nat.reduceLT,Nat.reduceLeDiff,Nat.reduceDiv,reduceIte,reduceCtorEq, d1]
    all_goals exact leCs_refl _
  have e : goB (rjump (incR m) arg) n = decide (arg < n) := by
    show ((!m.bad) && decide (arg < n)) = _
    rw [d1, Bool.true_and]
  rw [e]
  simp (maxSteps:=2000000) (disch:=omega) only [go_sem,Nat.reduceAdd,Nat.reduceSub,Nat.reduceMul,Nat.reduceBEq,Nat.reduceEqDiff,Nat.reduceLT,Nat.reduceLeDiff,Nat.reduceDiv,reduceIte,reduceCtorEq, d1]
  all_goals exact leCs_refl _

set_option maxHeartbeats 4000000 in
theorem does19_h (m : Rac) (arg n : Int) (hl : m.sk.length ≤ 1000) (hp : 0 ≤ m.pc ∧ m.pc ≤ 1000)  (ht : 1 ≤ m.sk.length) : Holds Tryz.prog 50 [.ptr (.arg 0) 0, .agg [.val (.int .i64 19), .val (.int .i64 arg)], .int .i64 n] [(.arg 0, rB (.arg 0) m)] (fun r h' => r = V.bool (goB (rzero (incR m) arg) n) ∧ h' = [(.arg 0, rB (.arg 0) (rzero (incR m) arg))]) := by
  have hlI : (incR m).sk.length ≤ 1000 := hl
  have hf : decide ((m.sk.length : Int) < 1) = false := by simp; try omega
  skip
  refine holds_of_awp Tryz.func50 rfl (by decide +kernel) mixed Tryz.ntmps50 Tryz.results50 ?_
  refine zE ?_
  refine zc ?_;try exact trivial
  refine a_drawC (⟨[V.cell (.ptr (.arg 0) 0), .undef, V.int .i64 n, .undef, V.cell (.ptr (.loc [4]) 0), .undef, V.bool false, U, U, U, U, U, U, U, U, U, U, U, U, U, U, V.bool (decide ((m.sk.length : Int) < 1)), U, U, U, U, U, U, U, U, U, U, U, U, U, U, U, U, U, U, U, U, U, U, U, U, U, U, U, U, U, U, U, U, U, U, U, U, U, U, U, U, U, U, U, U, U, U, U, U, U, U, U, U, U, U, U, U, U, U, U, U, U, U, U, U, U, U, U, U, U, U, U, U, U, U, U, U, U, U, U, U, U, U, U, U, U, U, U, U, U, U, U, U, U, U, U, U, U, U, U, U, U, U, U, U, U, U, U, U, U, U, U, U, U, U, U, U, U, U, U, U, U, U, U, U, U, U, U, U, U, U, U, U, U, U, U, U, U, U, U, U, U, U, U, U, U, U, U, U, U, U, U, U, U, U, U, U, U, U, U, U, U, U, U, U, U, U, U, U, U, U, U, U, U, U, U, U, .undef], [(.loc [4], [.val (.int .i64 19), .val (.int .i64 arg)]), (.arg 0, rB (.arg 0) m)]⟩) (.take 0 (.take 1 (.take 2 (.take 5 (.both [(3, .take 4 (.both [(6, .both [(7, .take 8 (.done))])])), (6, .both [(3, .take 4 (.both [(7, .take 8 (.done))])), (7, .take 3 (.take 4 (.take 8 (.done))))])]))))) (by kernel_rfl) (by kernel_rfl) ?_ ?_
  · refine zc ?_;try exact trivial
    refine ⟨?_, ?_, ?_⟩
    all_goals
      refine a_call [] takes19_h ok0 ?_ ?_ ?_
      · refine zs ?_;try exact trivial
      · refine zs ?_;try exact trivial
      rintro _ _ ⟨rfl, rfl⟩
      refine zs ?_;try exact trivial
      (all_goals exact leCs_refl _)
  simp (maxSteps:=2000000) (disch:=omega) only [go_sem,Nat.reduceAdd,Nat.reduceSub,Nat.reduceMul,Nat.reduceBEq,Nat.reduceEqDiff,Nat.reduceLT,Nat.reduceLeDiff,Nat.reduceDiv,reduceIte,reduceCtorEq, hf]
  try (refine zc ?_; try exact trivial)
  refine a_call [.arg 0] (rpop_h (incR m) (by have h2 := rpop_len (incR m); have h3 := rpop_len (rpopM (incR m)); have h4 := rpush_len (rpopM (incR m)) (rpopV (incR m)); have h5 := rpush_len (rpopM (rpopM (incR m))) (rpopV (incR m)); omega)) (ok1 rfl) ?_ ?_ ?_
  · refine zs ?_;try exact trivial
  · refine zs ?_;try exact trivial
  rintro _ _ ⟨rfl, rfl⟩
  refine zc ?_;try exact trivial
  refine c_dec (fun hz => ?_) (fun hz => ?_)
  · have ez : rzero (incR m) arg = rjump (rpopM (incR m)) arg := by unfold rzero; rw [if_pos hz]
    rw [ez]
    refine zc ?_;try exact trivial
    cases d1 : (!(rpopM (incR m)).bad)
    · have e : goB (rjump (rpopM (incR m)) arg) n = false := by
        show ((!(rpopM (incR m)).bad) && decide (arg < n)) = false
        rw [d1]; rfl
      rw [e]
      simp (maxSteps:=2000000) (disch:=omega) only [go_sem,Nat.reduceAdd,Nat.reduceSub,Nat.reduceMul,Nat.reduceBEq,Nat.reduceEqDiff,Nat.reduceLT,Nat.reduceLeDiff,Nat.reduceDiv,reduceIte,reduceCtorEq, d1]
      all_goals exact leCs_refl _
    have e : goB (rjump (rpopM (incR m)) arg) n = decide (arg < n) := by
      show ((!(rpopM (incR m)).bad) && decide (arg < n)) = _
      rw [d1, Bool.true_and]
    rw [e]
    simp (maxSteps:=2000000) (disch:=omega) only [go_sem,Nat.reduceAdd,Nat.reduceSub,Nat.reduceMul,Nat.reduceBEq,Nat.reduceEqDiff,Nat.reduceLT,Nat.reduceLeDiff,Nat.reduceDiv,reduceIte,reduceCtorEq, d1]
    all_goals exact leCs_refl _
  have ez : rzero (incR m) arg = rpopM (incR m) := by unfold rzero; rw [if_neg hz]
  rw [ez]
  refine zc ?_;try exact trivial
  cases d1 : (!(rpopM (incR m)).bad)
  · have e : goB (rpopM (incR m)) n = false := by
      show ((!(rpopM (incR m)).bad) && decide ((rpopM (incR m)).pc < n)) = false
      rw [d1]; rfl
    rw [e]
    simp (maxSteps:=2000000) (disch:=omega) only [go_sem,Nat.reduceAdd,Nat.reduceSub,Nat.reduceMul,Nat.reduceBEq,Nat.reduceEqDiff,Nat.reduceLT,Nat.reduceLeDiff,Nat.reduceDiv,reduceIte,reduceCtorEq, d1]
    all_goals exact leCs_refl _
  have e : goB (rpopM (incR m)) n = decide ((rpopM (incR m)).pc < n) := by
    show ((!(rpopM (incR m)).bad) && decide ((rpopM (incR m)).pc < n)) = _
    rw [d1, Bool.true_and]
  rw [e]
  simp (maxSteps:=2000000) (disch:=omega) only [go_sem,Nat.reduceAdd,Nat.reduceSub,Nat.reduceMul,Nat.reduceBEq,Nat.reduceEqDiff,Nat.reduceLT,Nat.reduceLeDiff,Nat.reduceDiv,reduceIte,reduceCtorEq, d1]
  all_goals exact leCs_refl _

set_option maxHeartbeats 4000000 in
theorem does20_h (m : Rac) (arg n : Int) (hl : m.sk.length ≤ 1000) (hp : 0 ≤ m.pc ∧ m.pc ≤ 1000)  (ht : 0 ≤ m.sk.length) : Holds Tryz.prog 50 [.ptr (.arg 0) 0, .agg [.val (.int .i64 20), .val (.int .i64 arg)], .int .i64 n] [(.arg 0, rB (.arg 0) m)] (fun r h' => r = V.bool (false) ∧ h' = [(.arg 0, rB (.arg 0) (rwin (incR m) arg))]) := by
  have hlI : (incR m).sk.length ≤ 1000 := hl
  have hf : decide ((m.sk.length : Int) < 0) = false := by simp; try omega
  skip
  refine holds_of_awp Tryz.func50 rfl (by decide +kernel) mixed Tryz.ntmps50 Tryz.results50 ?_
  refine zE ?_
  refine zc ?_;try exact trivial
  refine a_drawC (⟨[V.cell (.ptr (.arg 0) 0), .undef, V.int .i64 n, .undef, V.cell (.ptr (.loc [4]) 0), .undef, V.bool false, U, U, U, U, U, U, U, U, U, U, U, U, U, U, V.bool (decide ((m.sk.length : Int) < 0)), U, U, U, U, U, U, U, U, U, U, U, U, U, U, U, U, U, U, U, U, U, U, U, U, U, U, U, U, U, U, U, U, U, U, U, U, U, U, U, U, U, U, U, U, U, U, U, U, U, U, U, U, U, U, U, U, U, U, U, U, U, U, U, U, U, U, U, U, U, U, U, U, U, U, U, U, U, U, U, U, U, U, U, U, U, U, U, U, U, U, U, U, U, U, U, U, U, U, U, U, U, U, U, U, U, U, U, U, U, U, U, U, U, U, U, U, U, U, U, U, U, U, U, U, U, U, U, U, U, U, U, U, U, U, U, U, U, U, U, U, U, U, U, U, U, U, U, U, U, U, U, U, U, U, U, U, U, U, U, U, U, U, U, U, U, U, U, U, U, U, U, U, U, U, U, U, .undef], [(.loc [4], [.val (.int .i64 20), .val (.int .i64 arg)]), (.arg 0, rB (.arg 0) m)]⟩) (.take 0 (.take 1 (.take 2 (.take 5 (.both [(3, .take 4 (.both [(6, .both [(7, .take 8 (.done))])])), (6, .both [(3, .take 4 (.both [(7, .take 8 (.done))])), (7, .take 3 (.take 4 (.take 8 (.done))))])]))))) (by kernel_rfl) (by kernel_rfl) ?_ ?_
  · refine zc ?_;try exact trivial
    refine ⟨?_, ?_, ?_⟩
    all_goals
      refine a_call [] takes20_h ok0 ?_ ?_ ?_
      · refine zs ?_;try exact trivial
      · refine zs ?_;try exact trivial
      rintro _ _ ⟨rfl, rfl⟩
      refine zs ?_;try exact trivial
      (all_goals exact leCs_refl _)
  simp (maxSteps:=2000000) (disch:=omega) only [go_sem,Nat.reduceAdd,Nat.reduceSub,Nat.reduceMul,Nat.reduceBEq,Nat.reduceEqDiff,Nat.reduceLT,Nat.reduceLeDiff,Nat.reduceDiv,reduceIte,reduceCtorEq, hf]
  try (refine zc ?_; try exact trivial)
  all_goals exact leCs_refl _

set_option maxHeartbeats 4000000 in
theorem does21_h (m : Rac) (arg n : Int) (hl : m.sk.length ≤ 1000) (hp : 0 ≤ m.pc ∧ m.pc ≤ 1000)  (ht : 0 ≤ m.sk.length) : Holds Tryz.prog 50 [.ptr (.arg 0) 0, .agg [.val (.int .i64 21), .val (.int .i64 arg)], .int .i64 n] [(.arg 0, rB (.arg 0) m)] (fun r h' => r = V.bool (goB (rrand (incR m)) n) ∧ h' = [(.arg 0, rB (.arg 0) (rrand (incR m)))]) := by
  have hlI : (incR m).sk.length ≤ 1000 := hl
  have hf : decide ((m.sk.length : Int) < 0) = false := by simp; try omega
  skip
  refine holds_of_awp Tryz.func50 rfl (by decide +kernel) mixed Tryz.ntmps50 Tryz.results50 ?_
  refine zE ?_
  refine zc ?_;try exact trivial
  refine a_drawC (⟨[V.cell (.ptr (.arg 0) 0), .undef, V.int .i64 n, .undef, V.cell (.ptr (.loc [4]) 0), .undef, V.bool false, U, U, U, U, U, U, U, U, U, U, U, U, U, U, V.bool (decide ((m.sk.length : Int) < 0)), U, U, U, U, U, U, U, U, U, U, U, U, U, U, U, U, U, U, U, U, U, U, U, U, U, U, U, U, U, U, U, U, U, U, U, U, U, U, U, U, U, U, U, U, U, U, U, U, U, U, U, U, U, U, U, U, U, U, U, U, U, U, U, U, U, U, U, U, U, U, U, U, U, U, U, U, U, U, U, U, U, U, U, U, U, U, U, U, U, U, U, U, U, U, U, U, U, U, U, U, U, U, U, U, U, U, U, U, U, U, U, U, U, U, U, U, U, U, U, U, U, U, U, U, U, U, U, U, U, U, U, U, U, U, U, U, U, U, U, U, U, U, U, U, U, U, U, U, U, U, U, U, U, U, U, U, U, U, U, U, U, U, U, U, U, U, U, U, U, U, U, U, U, U, U, U, .undef], [(.loc [4], [.val (.int .i64 21), .val (.int .i64 arg)]), (.arg 0, rB (.arg 0) m)]⟩) (.take 0 (.take 1 (.take 2 (.take 5 (.both [(3, .take 4 (.both [(6, .both [(7, .take 8 (.done))])])), (6, .both [(3, .take 4 (.both [(7, .take 8 (.done))])), (7, .take 3 (.take 4 (.take 8 (.done))))])]))))) (by kernel_rfl) (by kernel_rfl) ?_ ?_
  · refine zc ?_;try exact trivial
    refine ⟨?_, ?_, ?_⟩
    all_goals
      refine a_call [] takes21_h ok0 ?_ ?_ ?_
      · refine zs ?_;try exact trivial
      · refine zs ?_;try exact trivial
      rintro _ _ ⟨rfl, rfl⟩
      refine zs ?_;try exact trivial
      (all_goals exact leCs_refl _)
  simp (maxSteps:=2000000) (disch:=omega) only [go_sem,Nat.reduceAdd,Nat.reduceSub,Nat.reduceMul,Nat.reduceBEq,Nat.reduceEqDiff,Nat.reduceLT,Nat.reduceLeDiff,Nat.reduceDiv,reduceIte,reduceCtorEq, hf]
  try (refine zc ?_; try exact trivial)
  have hb := rndV_b (mixS m.st.seed)
  have em : (xor32 (xor32 (xor32 m.st.seed (shl32 m.st.seed 13)) (shr32 (xor32 m.st.seed (shl32 m.st.seed 13)) 17)) (shl32 (xor32 (xor32 m.st.seed (shl32 m.st.seed 13)) (shr32 (xor32 m.st.seed (shl32 m.st.seed 13)) 17)) 5)) = mixS m.st.seed := rfl
  simp only [em]
  refine zc ?_;try exact trivial
  refine a_call [.arg 0] (rpush_h ⟨m.st.wSeed (mixS m.st.seed), m.i0, m.i1, m.sk, m.pc + 1, m.won, m.bad⟩ (rndV (mixS m.st.seed)) (by show m.sk.length ≤ 100000; omega)) (ok1 rfl) ?_ ?_ ?_
  · refine zs ?_;try exact trivial
  · refine zs ?_;try exact trivial
  rintro _ _ ⟨rfl, rfl⟩
  refine zc ?_;try exact trivial
  cases d1 : (!(rpushM ⟨m.st.wSeed (mixS m.st.seed), m.i0, m.i1, m.sk, m.pc + 1, m.won, m.bad⟩ (rndV (mixS m.st.seed))).bad)
  · have e : goB (rrand (incR m)) n = false := by
      show ((!(rpushM ⟨m.st.wSeed (mixS m.st.seed), m.i0, m.i1, m.sk, m.pc + 1, m.won, m.bad⟩ (rndV (mixS m.st.seed))).bad) && decide ((rpushM ⟨m.st.wSeed (mixS m.st.seed), m.i0, m.i1, m.sk, m.pc + 1, m.won, m.bad⟩ (rndV (mixS m.st.seed))).pc < n)) = false
      rw [d1]; rfl
    rw [e]
    simp (maxSteps:=2000000) (disch:=omega) only [go_sem,Nat.reduceAdd,Nat.reduceSub,Nat.reduceMul,Nat.reduceBEq,Nat.reduceEqDiff,Nat.reduceLT,Nat.reduceLeDiff,Nat.reduceDiv,reduceIte,reduceCtorEq, d1]
    all_goals exact leCs_refl _
  have e : goB (rrand (incR m)) n = decide ((rpushM ⟨m.st.wSeed (mixS m.st.seed), m.i0, m.i1, m.sk, m.pc + 1, m.won, m.bad⟩ (rndV (mixS m.st.seed))).pc < n) := by
    show ((!(rpushM ⟨m.st.wSeed (mixS m.st.seed), m.i0, m.i1, m.sk, m.pc + 1, m.won, m.bad⟩ (rndV (mixS m.st.seed))).bad) && decide ((rpushM ⟨m.st.wSeed (mixS m.st.seed), m.i0, m.i1, m.sk, m.pc + 1, m.won, m.bad⟩ (rndV (mixS m.st.seed))).pc < n)) = _
    rw [d1, Bool.true_and]
  rw [e]
  simp (maxSteps:=2000000) (disch:=omega) only [go_sem,Nat.reduceAdd,Nat.reduceSub,Nat.reduceMul,Nat.reduceBEq,Nat.reduceEqDiff,Nat.reduceLT,Nat.reduceLeDiff,Nat.reduceDiv,reduceIte,reduceCtorEq, d1]
  all_goals exact leCs_refl _

set_option maxHeartbeats 4000000 in
theorem does22_h (m : Rac) (arg n : Int) (hl : m.sk.length ≤ 1000) (hp : 0 ≤ m.pc ∧ m.pc ≤ 1000)  (ht : 0 ≤ m.sk.length) : Holds Tryz.prog 50 [.ptr (.arg 0) 0, .agg [.val (.int .i64 22), .val (.int .i64 arg)], .int .i64 n] [(.arg 0, rB (.arg 0) m)] (fun r h' => r = V.bool (false) ∧ h' = [(.arg 0, rB (.arg 0) (incR m))]) := by
  have hlI : (incR m).sk.length ≤ 1000 := hl
  have hf : decide ((m.sk.length : Int) < 0) = false := by simp; try omega
  skip
  refine holds_of_awp Tryz.func50 rfl (by decide +kernel) mixed Tryz.ntmps50 Tryz.results50 ?_
  refine zE ?_
  refine zc ?_;try exact trivial
  refine a_drawC (⟨[V.cell (.ptr (.arg 0) 0), .undef, V.int .i64 n, .undef, V.cell (.ptr (.loc [4]) 0), .undef, V.bool false, U, U, U, U, U, U, U, U, U, U, U, U, U, U, V.bool (decide ((m.sk.length : Int) < 0)), U, U, U, U, U, U, U, U, U, U, U, U, U, U, U, U, U, U, U, U, U, U, U, U, U, U, U, U, U, U, U, U, U, U, U, U, U, U, U, U, U, U, U, U, U, U, U, U, U, U, U, U, U, U, U, U, U, U, U, U, U, U, U, U, U, U, U, U, U, U, U, U, U, U, U, U, U, U, U, U, U, U, U, U, U, U, U, U, U, U, U, U, U, U, U, U, U, U, U, U, U, U, U, U, U, U, U, U, U, U, U, U, U, U, U, U, U, U, U, U, U, U, U, U, U, U, U, U, U, U, U, U, U, U, U, U, U, U, U, U, U, U, U, U, U, U, U, U, U, U, U, U, U, U, U, U, U, U, U, U, U, U, U, U, U, U, U, U, U, U, U, U, U, U, U, U, .undef], [(.loc [4], [.val (.int .i64 22), .val (.int .i64 arg)]), (.arg 0, rB (.arg 0) m)]⟩) (.take 0 (.take 1 (.take 2 (.take 5 (.both [(3, .take 4 (.both [(6, .both [(7, .take 8 (.done))])])), (6, .both [(3, .take 4 (.both [(7, .take 8 (.done))])), (7, .take 3 (.take 4 (.take 8 (.done))))])]))))) (by kernel_rfl) (by kernel_rfl) ?_ ?_
  · refine zc ?_;try exact trivial
    refine ⟨?_, ?_, ?_⟩
    all_goals
      refine a_call [] takes22_h ok0 ?_ ?_ ?_
      · refine zs ?_;try exact trivial
      · refine zs ?_;try exact trivial
      rintro _ _ ⟨rfl, rfl⟩
      refine zs ?_;try exact trivial
      (all_goals exact leCs_refl _)
  simp (maxSteps:=2000000) (disch:=omega) only [go_sem,Nat.reduceAdd,Nat.reduceSub,Nat.reduceMul,Nat.reduceBEq,Nat.reduceEqDiff,Nat.reduceLT,Nat.reduceLeDiff,Nat.reduceDiv,reduceIte,reduceCtorEq, hf]
  try (refine zc ?_; try exact trivial)
  all_goals exact leCs_refl _
end
section
set_option maxRecDepth 20000
set_option maxHeartbeats 4000000 in
theorem doesT_h (op : Int) (f : Int → Int → Int) (hop : 4 ≤ op ∧ op ≤ 11) (hT : Holds Tryz.prog 64 [.int .i64 op] [] (fun r h' => r = .int .i64 2 ∧ h' = [])) (m : Rac) (arg n : Int)
    (hW : Holds Tryz.prog 68 [.int .i64 op, .int .i32 (rpopV (rpopM (incR m))), .int .i32 (rpopV (incR m))] [] (fun r h' => r = .int .i32 (f (rpopV (rpopM (incR m))) (rpopV (incR m))) ∧ h' = []))
    (hl : m.sk.length ≤ 1000) (hp : 0 ≤ m.pc ∧ m.pc ≤ 1000) (ht : 2 ≤ m.sk.length) : Holds Tryz.prog 50 [.ptr (.arg 0) 0, .agg [.val (.int .i64 op), .val (.int .i64 arg)], .int .i64 n] [(.arg 0, rB (.arg 0) m)] (fun r h' => r = V.bool (goB (rtwo f (incR m)) n) ∧ h' = [(.arg 0, rB (.arg 0) (rtwo f (incR m)))]) := by
  have hlI : (incR m).sk.length ≤ 1000 := hl
  have hf : decide ((m.sk.length : Int) < 2) = false := by simp; try omega
  have n1 : decide (op = 1) = false := decide_eq_false (by omega)
  have n2 : decide (op = 2) = false := decide_eq_false (by omega)
  have n3 : decide (op = 3) = false := decide_eq_false (by omega)
  have n12 : decide (op = 12) = false := decide_eq_false (by omega)
  have n13 : decide (op = 13) = false := decide_eq_false (by omega)
  have n14 : decide (op = 14) = false := decide_eq_false (by omega)
  have n15 : decide (op = 15) = false := decide_eq_false (by omega)
  have n16 : decide (op = 16) = false := decide_eq_false (by omega)
  have n17 : decide (op = 17) = false := decide_eq_false (by omega)
  have n18 : decide (op = 18) = false := decide_eq_false (by omega)
  have n19 : decide (op = 19) = false := decide_eq_false (by omega)
  have n20 : decide (op = 20) = false := decide_eq_false (by omega)
  have n21 : decide (op = 21) = false := decide_eq_false (by omega)
  have n22 : decide (op = 22) = false := decide_eq_false (by omega)
  refine holds_of_awp Tryz.func50 rfl (by decide +kernel) mixed Tryz.ntmps50 Tryz.results50 ?_
  refine zE ?_
  refine zc ?_;try exact trivial
  refine a_drawC (⟨[V.cell (.ptr (.arg 0) 0), .undef, V.int .i64 n, .undef, V.cell (.ptr (.loc [4]) 0), .undef, V.bool false, U, U, U, U, U, U, U, U, U, U, U, U, U, U, V.bool (decide ((m.sk.length : Int) < 2)), U, U, U, U, U, U, U, U, U, U, U, U, U, U, U, U, U, U, U, U, U, U, U, U, U, U, U, U, U, U, U, U, U, U, U, U, U, U, U, U, U, U, U, U, U, U, U, U, U, U, U, U, U, U, U, U, U, U, U, U, U, U, U, U, U, U, U, U, U, U, U, U, U, U, U, U, U, U, U, U, U, U, U, U, U, U, U, U, U, U, U, U, U, U, U, U, U, U, U, U, U, U, U, U, U, U, U, U, U, U, U, U, U, U, U, U, U, U, U, U, U, U, U, U, U, U, U, U, U, U, U, U, U, U, U, U, U, U, U, U, U, U, U, U, U, U, U, U, U, U, U, U, U, U, U, U, U, U, U, U, U, U, U, U, U, U, U, U, U, U, U, U, U, U, U, U, .undef], [(.loc [4], [.val (.int .i64 op), .val (.int .i64 arg)]), (.arg 0, rB (.arg 0) m)]⟩) (.take 0 (.take 1 (.take 2 (.take 5 (.both [(3, .take 4 (.both [(6, .both [(7, .take 8 (.done))])])), (6, .both [(3, .take 4 (.both [(7, .take 8 (.done))])), (7, .take 3 (.take 4 (.take 8 (.done))))])]))))) (by kernel_rfl) (by kernel_rfl) ?_ ?_
  · refine zc ?_;try exact trivial
    refine ⟨?_, ?_, ?_⟩
    all_goals
      refine a_call [] hT ok0 ?_ ?_ ?_
      · refine zs ?_;try exact trivial
      · refine zs ?_;try exact trivial
      rintro _ _ ⟨rfl, rfl⟩
      refine zs ?_;try exact trivial
      (all_goals exact leCs_refl _)
  simp (maxSteps:=2000000) (disch:=omega) only [go_sem,Nat.reduceAdd,Nat.reduceSub,Nat.reduceMul,Nat.reduceBEq,Nat.reduceEqDiff,Nat.reduceLT,Nat.reduceLeDiff,Nat.reduceDiv,reduceIte,reduceCtorEq, hf, n1, n2, n3, n12, n13, n14, n15, n16, n17, n18, n19, n20, n21, n22]
  refine a_call [.arg 0] (rpop_h (incR m) (by have h2 := rpop_len (incR m); have h3 := rpop_len (rpopM (incR m)); omega)) (ok1 rfl) ?_ ?_ ?_
  · refine zs ?_;try exact trivial
  · refine zs ?_;try exact trivial
  rintro _ _ ⟨rfl, rfl⟩
  refine zc ?_;try exact trivial
  refine a_call [.arg 0] (rpop_h (rpopM (incR m)) (by have h2 := rpop_len (incR m); have h3 := rpop_len (rpopM (incR m)); omega)) (ok1 rfl) ?_ ?_ ?_
  · refine zs ?_;try exact trivial
  · refine zs ?_;try exact trivial
  rintro _ _ ⟨rfl, rfl⟩
  refine zc ?_;try exact trivial
  refine a_call [] (hW) ok0 ?_ ?_ ?_
  · refine zs ?_;try exact trivial
  · refine zs ?_;try exact trivial
  rintro _ _ ⟨rfl, rfl⟩
  refine zc ?_;try exact trivial
  refine a_call [.arg 0] (rpush_h (rpopM (rpopM (incR m))) (f (rpopV (rpopM (incR m))) (rpopV (incR m))) (by have h2 := rpop_len (incR m); have h3 := rpop_len (rpopM (incR m)); omega)) (ok1 rfl) ?_ ?_ ?_
  · refine zs ?_;try exact trivial
  · refine zs ?_;try exact trivial
  rintro _ _ ⟨rfl, rfl⟩
  refine zc ?_;try exact trivial
  cases d1 : (!(rpushM (rpopM (rpopM (incR m))) (f (rpopV (rpopM (incR m))) (rpopV (incR m)))).bad)
  · have e : goB (rtwo f (incR m)) n = false := by
      show ((!(rpushM (rpopM (rpopM (incR m))) (f (rpopV (rpopM (incR m))) (rpopV (incR m)))).bad) && decide ((rpushM (rpopM (rpopM (incR m))) (f (rpopV (rpopM (incR m))) (rpopV (incR m)))).pc < n)) = false
      rw [d1]; rfl
    rw [e]
    simp (maxSteps:=2000000) (disch:=omega) only [go_sem,Nat.reduceAdd,Nat.reduceSub,Nat.reduceMul,Nat.reduceBEq,Nat.reduceEqDiff,Nat.reduceLT,Nat.reduceLeDiff,Nat.reduceDiv,reduceIte,reduceCtorEq, d1]
    all_goals exact leCs_refl _
  have e : goB (rtwo f (incR m)) n = decide ((rpushM (rpopM (rpopM (incR m))) (f (rpopV (rpopM (incR m))) (rpopV (incR m)))).pc < n) := by
    show ((!(rpushM (rpopM (rpopM (incR m))) (f (rpopV (rpopM (incR m))) (rpopV (incR m)))).bad) && decide ((rpushM (rpopM (rpopM (incR m))) (f (rpopV (rpopM (incR m))) (rpopV (incR m)))).pc < n)) = _
    rw [d1, Bool.true_and]
  rw [e]
  simp (maxSteps:=2000000) (disch:=omega) only [go_sem,Nat.reduceAdd,Nat.reduceSub,Nat.reduceMul,Nat.reduceBEq,Nat.reduceEqDiff,Nat.reduceLT,Nat.reduceLeDiff,Nat.reduceDiv,reduceIte,reduceCtorEq, d1]
  all_goals exact leCs_refl _
theorem does4_h (m : Rac) (arg n : Int) (hl : m.sk.length ≤ 1000) (hp : 0 ≤ m.pc ∧ m.pc ≤ 1000) (hb : B32 (rpopV (rpopM (incR m)))) (ha : B32 (rpopV (incR m))) (ht : 2 ≤ m.sk.length) : Holds Tryz.prog 50 [.ptr (.arg 0) 0, .agg [.val (.int .i64 4), .val (.int .i64 arg)], .int .i64 n] [(.arg 0, rB (.arg 0) m)] (fun r h' => r = V.bool (goB (rtwo f4 (incR m)) n) ∧ h' = [(.arg 0, rB (.arg 0) (rtwo f4 (incR m)))]) :=
  doesT_h 4 f4 (by omega) takes4_h m arg n (two4_h10 _ _ hb ha) hl hp ht
theorem does5_h (m : Rac) (arg n : Int) (hl : m.sk.length ≤ 1000) (hp : 0 ≤ m.pc ∧ m.pc ≤ 1000) (hb : B32 (rpopV (rpopM (incR m)))) (ha : B32 (rpopV (incR m))) (ht : 2 ≤ m.sk.length) : Holds Tryz.prog 50 [.ptr (.arg 0) 0, .agg [.val (.int .i64 5), .val (.int .i64 arg)], .int .i64 n] [(.arg 0, rB (.arg 0) m)] (fun r h' => r = V.bool (goB (rtwo f5 (incR m)) n) ∧ h' = [(.arg 0, rB (.arg 0) (rtwo f5 (incR m)))]) :=
  doesT_h 5 f5 (by omega) takes5_h m arg n (two5_h10 _ _ hb ha) hl hp ht
theorem does6_h (m : Rac) (arg n : Int) (hl : m.sk.length ≤ 1000) (hp : 0 ≤ m.pc ∧ m.pc ≤ 1000) (hb : B32 (rpopV (rpopM (incR m)))) (ha : B32 (rpopV (incR m))) (ht : 2 ≤ m.sk.length) : Holds Tryz.prog 50 [.ptr (.arg 0) 0, .agg [.val (.int .i64 6), .val (.int .i64 arg)], .int .i64 n] [(.arg 0, rB (.arg 0) m)] (fun r h' => r = V.bool (goB (rtwo f6 (incR m)) n) ∧ h' = [(.arg 0, rB (.arg 0) (rtwo f6 (incR m)))]) :=
  doesT_h 6 f6 (by omega) takes6_h m arg n (two6_h10 _ _ hb ha) hl hp ht
theorem does7_h (m : Rac) (arg n : Int) (hl : m.sk.length ≤ 1000) (hp : 0 ≤ m.pc ∧ m.pc ≤ 1000) (hb : B32 (rpopV (rpopM (incR m)))) (ha : B32 (rpopV (incR m))) (ht : 2 ≤ m.sk.length) : Holds Tryz.prog 50 [.ptr (.arg 0) 0, .agg [.val (.int .i64 7), .val (.int .i64 arg)], .int .i64 n] [(.arg 0, rB (.arg 0) m)] (fun r h' => r = V.bool (goB (rtwo f7 (incR m)) n) ∧ h' = [(.arg 0, rB (.arg 0) (rtwo f7 (incR m)))]) :=
  doesT_h 7 f7 (by omega) takes7_h m arg n (two7_h10 _ _ hb ha) hl hp ht
theorem does8_h (m : Rac) (arg n : Int) (hl : m.sk.length ≤ 1000) (hp : 0 ≤ m.pc ∧ m.pc ≤ 1000) (hb : B32 (rpopV (rpopM (incR m)))) (ha : B32 (rpopV (incR m))) (ht : 2 ≤ m.sk.length) : Holds Tryz.prog 50 [.ptr (.arg 0) 0, .agg [.val (.int .i64 8), .val (.int .i64 arg)], .int .i64 n] [(.arg 0, rB (.arg 0) m)] (fun r h' => r = V.bool (goB (rtwo f8 (incR m)) n) ∧ h' = [(.arg 0, rB (.arg 0) (rtwo f8 (incR m)))]) :=
  doesT_h 8 f8 (by omega) takes8_h m arg n (two8_h10 _ _ hb ha) hl hp ht
theorem does9_h (m : Rac) (arg n : Int) (hl : m.sk.length ≤ 1000) (hp : 0 ≤ m.pc ∧ m.pc ≤ 1000) (hb : B32 (rpopV (rpopM (incR m)))) (ha : B32 (rpopV (incR m))) (ht : 2 ≤ m.sk.length) : Holds Tryz.prog 50 [.ptr (.arg 0) 0, .agg [.val (.int .i64 9), .val (.int .i64 arg)], .int .i64 n] [(.arg 0, rB (.arg 0) m)] (fun r h' => r = V.bool (goB (rtwo f9 (incR m)) n) ∧ h' = [(.arg 0, rB (.arg 0) (rtwo f9 (incR m)))]) :=
  doesT_h 9 f9 (by omega) takes9_h m arg n (two9_h10 _ _ hb ha) hl hp ht
theorem does10_h (m : Rac) (arg n : Int) (hl : m.sk.length ≤ 1000) (hp : 0 ≤ m.pc ∧ m.pc ≤ 1000) (hb : B32 (rpopV (rpopM (incR m)))) (ha : B32 (rpopV (incR m))) (ht : 2 ≤ m.sk.length) : Holds Tryz.prog 50 [.ptr (.arg 0) 0, .agg [.val (.int .i64 10), .val (.int .i64 arg)], .int .i64 n] [(.arg 0, rB (.arg 0) m)] (fun r h' => r = V.bool (goB (rtwo f10 (incR m)) n) ∧ h' = [(.arg 0, rB (.arg 0) (rtwo f10 (incR m)))]) :=
  doesT_h 10 f10 (by omega) takes10_h m arg n (two10_h10 _ _ hb ha) hl hp ht
theorem does11_h (m : Rac) (arg n : Int) (hl : m.sk.length ≤ 1000) (hp : 0 ≤ m.pc ∧ m.pc ≤ 1000) (hb : B32 (rpopV (rpopM (incR m)))) (ha : B32 (rpopV (incR m))) (ht : 2 ≤ m.sk.length) : Holds Tryz.prog 50 [.ptr (.arg 0) 0, .agg [.val (.int .i64 11), .val (.int .i64 arg)], .int .i64 n] [(.arg 0, rB (.arg 0) m)] (fun r h' => r = V.bool (goB (rtwo f11 (incR m)) n) ∧ h' = [(.arg 0, rB (.arg 0) (rtwo f11 (incR m)))]) :=
  doesT_h 11 f11 (by omega) takes11_h m arg n (two11_h10 _ _ hb ha) hl hp ht
end
section
theorem takes_h {op : Int} (h : 1 ≤ op ∧ op ≤ 22) : Holds Tryz.prog 64 [.int .i64 op] [] (fun r h' => r = .int .i64 (takesP op : Nat) ∧ h' = []) := by
  rcases op_cases h with rfl | rfl | rfl | rfl | rfl | rfl | rfl | rfl | rfl | rfl | rfl | rfl | rfl | rfl | rfl | rfl | rfl | rfl | rfl | rfl | rfl | rfl
  · exact takes1_h
  · exact takes2_h
  · exact takes3_h
  · exact takes4_h
  · exact takes5_h
  · exact takes6_h
  · exact takes7_h
  · exact takes8_h
  · exact takes9_h
  · exact takes10_h
  · exact takes11_h
  · exact takes12_h
  · exact takes13_h
  · exact takes14_h
  · exact takes15_h
  · exact takes16_h
  · exact takes17_h
  · exact takes18_h
  · exact takes19_h
  · exact takes20_h
  · exact takes21_h
  exact takes22_h
set_option maxRecDepth 20000 in
set_option maxHeartbeats 4000000 in
theorem doesF_h (op : Int) (hop : 1 ≤ op ∧ op ≤ 22) (m : Rac) (arg n : Int) (hl : m.sk.length ≤ 1000) (ht : m.sk.length < takesP op) : Holds Tryz.prog 50 [.ptr (.arg 0) 0, .agg [.val (.int .i64 op), .val (.int .i64 arg)], .int .i64 n] [(.arg 0, rB (.arg 0) m)] (fun r h' => r = V.bool false ∧ h' = [(.arg 0, rB (.arg 0) (badR m))]) := by
  have hT := takes_h hop
  have hf : decide ((m.sk.length : Int) < ((takesP op : Nat) : Int)) = true := by simp; omega
  generalize takesP op = t at hT hf
  unfold badR
  refine holds_of_awp Tryz.func50 rfl (by decide +kernel) mixed Tryz.ntmps50 Tryz.results50 ?_
  refine zE ?_
  refine zc ?_;try exact trivial
  refine a_drawC (⟨[V.cell (.ptr (.arg 0) 0), .undef, V.int .i64 n, .undef, V.cell (.ptr (.loc [4]) 0), .undef, V.bool false, U, U, U, U, U, U, U, U, U, U, U, U, U, U, V.bool (decide ((m.sk.length : Int) < (t : Int))), U, U, U, U, U, U, U, U, U, U, U, U, U, U, U, U, U, U, U, U, U, U, U, U, U, U, U, U, U, U, U, U, U, U, U, U, U, U, U, U, U, U, U, U, U, U, U, U, U, U, U, U, U, U, U, U, U, U, U, U, U, U, U, U, U, U, U, U, U, U, U, U, U, U, U, U, U, U, U, U, U, U, U, U, U, U, U, U, U, U, U, U, U, U, U, U, U, U, U, U, U, U, U, U, U, U, U, U, U, U, U, U, U, U, U, U, U, U, U, U, U, U, U, U, U, U, U, U, U, U, U, U, U, U, U, U, U, U, U, U, U, U, U, U, U, U, U, U, U, U, U, U, U, U, U, U, U, U, U, U, U, U, U, U, U, U, U, U, U, U, U, U, U, U, U, U, .undef], [(.loc [4], [.val (.int .i64 op), .val (.int .i64 arg)]), (.arg 0, rB (.arg 0) m)]⟩) (.take 0 (.take 1 (.take 2 (.take 5 (.both [(3, .take 4 (.both [(6, .both [(7, .take 8 (.done))])])), (6, .both [(3, .take 4 (.both [(7, .take 8 (.done))])), (7, .take 3 (.take 4 (.take 8 (.done))))])]))))) (by kernel_rfl) (by kernel_rfl) ?_ ?_
  · refine zc ?_;try exact trivial
    refine ⟨?_, ?_, ?_⟩
    all_goals
      refine a_call [] hT ok0 ?_ ?_ ?_
      · refine zs ?_;try exact trivial
      · refine zs ?_;try exact trivial
      rintro _ _ ⟨rfl, rfl⟩
      refine zs ?_;try exact trivial
      (all_goals exact leCs_refl _)
  simp (maxSteps:=2000000) (disch:=omega) only [go_sem,Nat.reduceAdd,Nat.reduceSub,Nat.reduceMul,Nat.reduceBEq,Nat.reduceEqDiff,Nat.reduceLT,Nat.reduceLeDiff,Nat.reduceDiv,reduceIte,reduceCtorEq, hf]
  try (refine zc ?_; try exact trivial)
  all_goals exact leCs_refl _
set_option maxHeartbeats 4000000 in
/-- what an instruction of the other machine does -/
theorem does_h (op arg n : Int) (m : Rac) (hm : mayP op arg n = true) (hl : m.sk.length ≤ 1000) (hp : 0 ≤ m.pc ∧ m.pc ≤ 1000) (hB : ∀ x ∈ m.sk, B32 x) (h0 : 0 ≤ m.st.frame) (h1 : m.st.frame ≤ 600) :
    Holds Tryz.prog 50 [.ptr (.arg 0) 0, .agg [.val (.int .i64 op), .val (.int .i64 arg)], .int .i64 n] [(.arg 0, rB (.arg 0) m)] (fun r h' => r = V.bool (rdoB op arg n m) ∧ h' = [(.arg 0, rB (.arg 0) (rdoM op arg m))]) := by
  obtain ⟨ho, ha1, ha2, ha16, ha18, ha20⟩ := mayP_arg hm
  by_cases hf : m.sk.length < takesP op
  · have e1 : rdoB op arg n m = false := if_pos (.inl hf)
    have e2 : rdoM op arg m = badR m := if_pos hf
    rw [e1, e2]
    exact doesF_h op ho m arg n hl hf
  have ht : takesP op ≤ m.sk.length := by omega
  have e2 : rdoM op arg m = rdoK op arg m := if_neg hf
  have e1 : op ≠ 20 → op ≠ 22 → rdoB op arg n m = goB (rdoK op arg m) n := fun a b => by
    unfold rdoB
    rw [if_neg (by rintro (h | h | h) <;> contradiction), e2]
  have e3 : op = 20 ∨ op = 22 → rdoB op arg n m = false := fun h => if_pos (.inr h)
  have p1 : B32 (rpopV (incR m)) := getD_B32 hB _
  have p2 : B32 (rpopV (rpopM (incR m))) := getD_B32 (fun x hx => hB x (List.mem_of_mem_take hx)) _
  rw [e2]
  clear e2
  rcases op_cases ho with rfl | rfl | rfl | rfl | rfl | rfl | rfl | rfl | rfl | rfl | rfl | rfl | rfl | rfl | rfl | rfl | rfl | rfl | rfl | rfl | rfl | rfl
  · rw [e1 (by omega) (by omega)]; exact does1_h m arg n hl hp (ha1 rfl) ht
  · rw [e1 (by omega) (by omega)]; exact does2_h m arg n hl hp (ha2 (.inl rfl)).1 (ha2 (.inl rfl)).2 ht
  · rw [e1 (by omega) (by omega)]; exact does3_h m arg n hl hp (ha2 (.inr rfl)).1 (ha2 (.inr rfl)).2 ht
  · rw [e1 (by omega) (by omega)]; exact does4_h m arg n hl hp p2 p1 ht
  · rw [e1 (by omega) (by omega)]; exact does5_h m arg n hl hp p2 p1 ht
  · rw [e1 (by omega) (by omega)]; exact does6_h m arg n hl hp p2 p1 ht
  · rw [e1 (by omega) (by omega)]; exact does7_h m arg n hl hp p2 p1 ht
  · rw [e1 (by omega) (by omega)]; exact does8_h m arg n hl hp p2 p1 ht
  · rw [e1 (by omega) (by omega)]; exact does9_h m arg n hl hp p2 p1 ht
  · rw [e1 (by omega) (by omega)]; exact does10_h m arg n hl hp p2 p1 ht
  · rw [e1 (by omega) (by omega)]; exact does11_h m arg n hl hp p2 p1 ht
  · rw [e1 (by omega) (by omega)]; exact does12_h m arg n hl hp ht
  · rw [e1 (by omega) (by omega)]; exact does13_h m arg n hl hp ht
  · rw [e1 (by omega) (by omega)]; exact does14_h m arg n hl hp ht
  · rw [e1 (by omega) (by omega)]; exact does15_h m arg n hl hp ht
  · rw [e1 (by omega) (by omega)]; exact does16_h m arg n hl hp (ha16 rfl) ht
  · rw [e1 (by omega) (by omega)]; exact does17_h m arg n hl hp h0 h1 ht
  · rw [e1 (by omega) (by omega)]; exact does18_h m arg n hl hp ht
  · rw [e1 (by omega) (by omega)]; exact does19_h m arg n hl hp ht
  · rw [e3 (.inl rfl)]; exact does20_h m arg n hl hp ht
  · rw [e1 (by omega) (by omega)]; exact does21_h m arg n hl hp ht
  rw [e3 (.inr rfl)]; exact does22_h m arg n hl hp ht
end
section
/-- what holds of the other machine -/
structure okR (n : Int) (r : Rac) : Prop where
  pc0 : 0 ≤ r.pc
  pc1 : r.pc ≤ n
  len : r.sk.length ≤ 32
  sk : ∀ x ∈ r.sk, B32 x
  cells : ∀ x ∈ r.st.cells, B32 x
  fr0 : 0 ≤ r.st.frame
  fr1 : r.st.frame ≤ 600
theorem rpopV_B {r : Rac} (h : ∀ x ∈ r.sk, B32 x) : B32 (rpopV r) := getD_B32 h _
theorem okR.pop {n : Int} {r : Rac} (h : okR n r) : okR n (rpopM r) := ⟨h.pc0, h.pc1, Nat.le_trans (List.length_take_le' _ _) h.len, fun x hx => h.sk x (List.mem_of_mem_take hx), h.cells, h.fr0, h.fr1⟩
theorem okR.push {n : Int} {r : Rac} (h : okR n r) {x : Int} (hx : B32 x) : okR n (rpushM r x) := by
  unfold rpushM
  split
  · exact ⟨h.pc0, h.pc1, h.len, h.sk, h.cells, h.fr0, h.fr1⟩
  refine ⟨h.pc0, h.pc1, by simp; omega, fun y hy => ?_, h.cells, h.fr0, h.fr1⟩
  rcases List.mem_append.1 hy with h1 | h1
  · exact h.sk y h1
  rw [List.mem_singleton.1 h1]; exact hx
theorem okR.two {n : Int} {r : Rac} (h : okR n r) {f : Int → Int → Int} (hf : ∀ b a, B32 b → B32 a → B32 (f b a)) : okR n (rtwo f r) := h.pop.pop.push (hf _ _ (rpopV_B h.pop.sk) (rpopV_B h.sk))
theorem okR.do {n op arg : Int} {r : Rac} (h : okR n r) (hp : r.pc < n) (hm : mayP op arg n = true) : okR n (rdoM op arg r) := by
  obtain ⟨ho, h1, h2, h16, h18, h20⟩ := mayP_arg hm
  have u0 := U16_b r.i0
  have u1 := U16_b r.i1
  have hr := rndV_b (mixS r.st.seed)
  have i : okR n (incR r) := ⟨by show 0 ≤ r.pc + 1; have := h.pc0; omega, by show r.pc + 1 ≤ n; omega, h.len, h.sk, h.cells, h.fr0, h.fr1⟩
  unfold rdoM
  split
  · exact ⟨h.pc0, h.pc1, h.len, h.sk, h.cells, h.fr0, h.fr1⟩
  rcases op_cases ho with rfl | rfl | rfl | rfl | rfl | rfl | rfl | rfl | rfl | rfl | rfl | rfl | rfl | rfl | rfl | rfl | rfl | rfl | rfl | rfl | rfl | rfl
  · exact i.push (h1 rfl)
  · exact i.push (getD_B32 i.cells _)
  · exact ⟨i.pc0, i.pc1, i.pop.len, i.pop.sk, wCells_B i.cells (rpopV_B i.sk), i.fr0, i.fr1⟩
  · exact i.two fun _ _ _ _ => held_b _
  · exact i.two fun _ _ _ _ => held_b _
  · exact i.two fun _ _ _ _ => held_b _
  · exact i.two fun _ _ => divV_B
  · exact i.two fun _ _ => min_B
  · exact i.two fun _ _ => max_B
  · exact i.two fun _ _ _ _ => truthV_B _
  · exact i.two fun _ _ _ _ => truthV_B _
  · exact i.pop.push (truthV_B _)
  · exact (i.pop.push (rpopV_B i.sk)).push (rpopV_B i.sk)
  · exact (i.pop.pop.push (rpopV_B i.sk)).push (rpopV_B i.pop.sk)
  · exact i.pop
  · exact i.push (by show B32 (if arg = 0 then (U16 r.i0 : Int) else U16 r.i1); split <;> (unfold B32; omega))
  · exact i.push (by have := h.fr0; have := h.fr1; unfold B32; omega)
  · exact ⟨(h18 (.inl rfl)).1, (h18 (.inl rfl)).2, i.len, i.sk, i.cells, i.fr0, i.fr1⟩
  · show okR n (rzero (incR r) arg)
    unfold rzero
    split
    · exact ⟨(h18 (.inr rfl)).1, (h18 (.inr rfl)).2, i.pop.len, i.pop.sk, i.cells, i.fr0, i.fr1⟩
    exact i.pop
  · exact ⟨i.pc0, i.pc1, i.len, i.sk, i.cells, i.fr0, i.fr1⟩
  · exact okR.push (r := ⟨r.st.wSeed (mixS r.st.seed), r.i0, r.i1, r.sk, r.pc + 1, r.won, r.bad⟩) ⟨i.pc0, i.pc1, i.len, i.sk, i.cells, i.fr0, i.fr1⟩ (by show B32 (rndV (mixS r.st.seed)); unfold B32; omega)
  exact i
theorem okR.bad {n : Int} {r : Rac} (h : okR n r) : okR n (badR r) := ⟨h.pc0, h.pc1, h.len, h.sk, h.cells, h.fr0, h.fr1⟩
theorem okR.run {code : List (Int × Int)} (hc : (chkP code).2 = 0) : ∀ (f : Nat) (r : Rac), okR code.length r → okR code.length (rrunM code f r)
  | 0, r, h => by
    unfold rrunM
    split
    · exact h.bad
    exact h
  | f + 1, r, h => by
    unfold rrunM
    split
    · rename_i hp
      have h0 := h.pc0
      have hmay := chk_all hc (i := r.pc.toNat) (by omega)
      have hd := h.do hp hmay
      split
      · exact okR.run hc f _ hd
      exact hd
    exact h
/-- the other guards -/
theorem rcheck10_h (l : List (Int × Int)) (cap fuel : Int) (hl : l.length ≤ 9223372036854775807) : Holds Tryz.prog 38 [.game l cap fuel] [] (fun r h' => r = .int .i64 (gameP l cap fuel) ∧ h' = []) := by
  refine holds_of_awp Tryz.func38 rfl (by decide +kernel) mixed Tryz.ntmps38 Tryz.results38 ?_
  refine zE ?_
  refine zs ?_;try exact trivial
  refine a_call [] (rcheck_h l hl) ok0 ?_ ?_ ?_
  · refine zs ?_;try exact trivial
  · refine zs ?_;try exact trivial
  rintro _ _ ⟨rfl, rfl⟩
  refine zs ?_;try exact trivial
  refine c_dec (fun h => ?_) (fun h => ?_)
  · have e : gameP l cap fuel = (chkP l).2 := by unfold gameP; rw [if_pos h]
    rw [e]
    refine zs ?_;try exact trivial
  have e0 : ¬ (chkP l).2 ≠ 0 := h
  refine zs ?_;try exact trivial
  cases d1 : decide (cap < 1)
  · cases d2 : decide (600 < cap)
    · cases d3 : decide (fuel < 1)
      · simp (maxSteps:=2000000) (disch:=omega) only [go_sem,Nat.reduceAdd,Nat.reduceSub,Nat.reduceMul,Nat.reduceBEq,Nat.reduceEqDiff,Nat.reduceLT,Nat.reduceLeDiff,Nat.reduceDiv,reduceIte,reduceCtorEq, d1, d2, d3]
        have f1 := of_decide_eq_false d1
        have f2 := of_decide_eq_false d2
        have f3 := of_decide_eq_false d3
        refine c_dec (fun h => ?_) (fun h => ?_)
        · have e : gameP l cap fuel = 1 := by unfold gameP; rw [if_neg e0, if_pos (by omega)]
          rw [e]
          refine zs ?_;try exact trivial
        have e : gameP l cap fuel = 0 := by unfold gameP; rw [if_neg e0, if_neg (by omega)]
        rw [e]
        refine zs ?_;try exact trivial
      have f := of_decide_eq_true d3
      have e : gameP l cap fuel = 1 := by unfold gameP; rw [if_neg e0, if_pos (by omega)]
      rw [e]
      simp (maxSteps:=2000000) (disch:=omega) only [go_sem,Nat.reduceAdd,Nat.reduceSub,Nat.reduceMul,Nat.reduceBEq,Nat.reduceEqDiff,Nat.reduceLT,Nat.reduceLeDiff,Nat.reduceDiv,reduceIte,reduceCtorEq, d1, d2, d3]
    have f := of_decide_eq_true d2
    have e : gameP l cap fuel = 1 := by unfold gameP; rw [if_neg e0, if_pos (by omega)]
    rw [e]
    simp (maxSteps:=2000000) (disch:=omega) only [go_sem,Nat.reduceAdd,Nat.reduceSub,Nat.reduceMul,Nat.reduceBEq,Nat.reduceEqDiff,Nat.reduceLT,Nat.reduceLeDiff,Nat.reduceDiv,reduceIte,reduceCtorEq, d1, d2]
  have f := of_decide_eq_true d1
  have e : gameP l cap fuel = 1 := by unfold gameP; rw [if_neg e0, if_pos (by omega)]
  rw [e]
  simp (maxSteps:=2000000) (disch:=omega) only [go_sem,Nat.reduceAdd,Nat.reduceSub,Nat.reduceMul,Nat.reduceBEq,Nat.reduceEqDiff,Nat.reduceLT,Nat.reduceLeDiff,Nat.reduceDiv,reduceIte,reduceCtorEq, d1]
theorem ris_h (s : Sta) : Holds Tryz.prog 49 [.agg ((sd s).map D.toC)] [] (fun r h' => r = V.bool (isP s) ∧ h' = []) := by
  refine holds_of_awp Tryz.func49 rfl (by decide +kernel) mixed Tryz.ntmps49 Tryz.results49 ?_
  refine zE ?_
  unfold isP
  cases d1 : decide (0 ≤ s.frame)
  · simp (maxSteps:=2000000) (disch:=omega) only [go_sem,Nat.reduceAdd,Nat.reduceSub,Nat.reduceMul,Nat.reduceBEq,Nat.reduceEqDiff,Nat.reduceLT,Nat.reduceLeDiff,Nat.reduceDiv,reduceIte,reduceCtorEq, d1]
    simp
  cases d2 : decide (s.frame ≤ 600)
  · simp (maxSteps:=2000000) (disch:=omega) only [go_sem,Nat.reduceAdd,Nat.reduceSub,Nat.reduceMul,Nat.reduceBEq,Nat.reduceEqDiff,Nat.reduceLT,Nat.reduceLeDiff,Nat.reduceDiv,reduceIte,reduceCtorEq, d1, d2]
    simp
  cases d3 : decide (0 ≤ s.win)
  · simp (maxSteps:=2000000) (disch:=omega) only [go_sem,Nat.reduceAdd,Nat.reduceSub,Nat.reduceMul,Nat.reduceBEq,Nat.reduceEqDiff,Nat.reduceLT,Nat.reduceLeDiff,Nat.reduceDiv,reduceIte,reduceCtorEq, d1, d2, d3]
    simp
  cases d4 : decide (s.win ≤ 2)
  · simp (maxSteps:=2000000) (disch:=omega) only [go_sem,Nat.reduceAdd,Nat.reduceSub,Nat.reduceMul,Nat.reduceBEq,Nat.reduceEqDiff,Nat.reduceLT,Nat.reduceLeDiff,Nat.reduceDiv,reduceIte,reduceCtorEq, d1, d2, d3, d4]
    simp
  cases d5 : s.over
  · simp (maxSteps:=2000000) (disch:=omega) only [go_sem,Nat.reduceAdd,Nat.reduceSub,Nat.reduceMul,Nat.reduceBEq,Nat.reduceEqDiff,Nat.reduceLT,Nat.reduceLeDiff,Nat.reduceDiv,reduceIte,reduceCtorEq, d1, d2, d3, d4, d5]
  simp (maxSteps:=2000000) (disch:=omega) only [go_sem,Nat.reduceAdd,Nat.reduceSub,Nat.reduceMul,Nat.reduceBEq,Nat.reduceEqDiff,Nat.reduceLT,Nat.reduceLeDiff,Nat.reduceDiv,reduceIte,reduceCtorEq, d1, d2, d3, d4, d5]
theorem rstart_h (seed : UInt32) : Holds Tryz.prog 36 [.c (.val (.int .u32 (U32 seed)))] [] (fun r h' => r = .w (.agg ((sd (startS seed)).map D.toC)) ∧ h' = []) := by
  refine holds_of_awp Tryz.func36 rfl (by decide +kernel) mixed Tryz.ntmps36 Tryz.results36 ?_
  refine zE ?_
  refine zs ?_;try exact trivial
  have hb := U32_lo seed
  refine c_dec (fun z => ?_) (fun z => ?_)
  · have e : startS seed = stz 0 1 := by unfold startS; rw [show max 1 (U32 seed) = 1 by omega]; rfl
    refine zs ?_;try exact trivial
    rw [e]
    exact leCs_refl _
  have e : startS seed = stz 0 seed := by
    unfold startS
    rw [show max 1 (U32 seed) = U32 seed by omega]
    show stz 0 (UInt32.ofNat ((seed.toNat : Int)).toNat) = _
    rw [Int.toNat_natCast, UInt32.ofNat_toNat]
  refine zs ?_;try exact trivial
  rw [e]
  exact leCs_refl _
end
section
section
variable {s : Sta} {K : C → Prop}
@[go_sem ↓ 1200] theorem sd_c0 : (∃ c, ((sd s).map D.toC)[1]? = some c ∧ K c) = K (.val (.int .i32 (s.cells.getD 0 0))) := ex_some (get_cells (k := 0) (by omega))
@[go_sem ↓ 1200] theorem sd_c1 : (∃ c, ((sd s).map D.toC)[2]? = some c ∧ K c) = K (.val (.int .i32 (s.cells.getD 1 0))) := ex_some (get_cells (k := 1) (by omega))
end
def stepP (code : List (Int × Int)) (cap fuel : Int) (s : Sta) (i0 i1 : UInt16) : Sta × Int :=
  if gameP code cap fuel ≠ 0 then (stz 0 0, gameP code cap fuel)
  else if isP s = false ∨ U32 s.seed = 0 then (stz 0 0, 1)
  else if s.over = true ∨ cap ≤ s.frame then (stz 0 0, 12)
  else (stepM code cap fuel.toNat s i0 i1, 0)
theorem isP_spec {s : Sta} (h : isP s = true) : 0 ≤ s.frame ∧ s.frame ≤ 600 ∧ 0 ≤ s.win ∧ s.win ≤ 2 ∧ (s.over = true ∨ s.win = 0) := by
  unfold isP at h
  simp only [Bool.and_eq_true, decide_eq_true_eq, Bool.or_eq_true] at h
  obtain ⟨⟨⟨⟨h1, h2⟩, h3⟩, h4⟩, h5⟩ := h
  exact ⟨h1, h2, h3, h4, h5⟩
theorem gameP_spec {code : List (Int × Int)} {cap fuel : Int} (h : gameP code cap fuel = 0) : (chkP code).2 = 0 ∧ 1 ≤ cap ∧ cap ≤ 600 ∧ 1 ≤ fuel ∧ fuel ≤ 2000 := by
  unfold gameP at h
  split at h
  · rename_i h1; exact absurd h h1
  rename_i h1
  split at h
  · cases h
  rename_i h2
  exact ⟨by simpa using h1, by omega, by omega, by omega, by omega⟩
theorem runM_B {code : List (Int × Int)} (hc : (chkP code).2 = 0) : ∀ (f : Nat) (m : Mac), okL m → 0 ≤ m.pc → okL (runM code f m).2
  | 0, m, h, _ => by unfold runM; split <;> exact h
  | f + 1, m, h, h0 => by
    unfold runM
    split
    · rename_i hp
      have hmay := chk_all hc (i := m.pc.toNat) (by omega)
      have h1 : okL (incM m) := ⟨h.sk, h.cells, h.fr0, h.fr1⟩
      have h2 := doM_low h1 hmay
      split
      · exact h2
      exact runM_B hc f _ h2 (doM_pc0 (by show 0 ≤ m.pc + 1; omega) hmay)
    exact h
theorem endS_cells (cap : Int) (s : Sta) : (endS cap s).cells = s.cells := by unfold endS; split <;> rfl
theorem step_B32 (code : List (Int × Int)) (cap fuel : Int) (s : Sta) (i0 i1 : UInt16) (h : ∀ x ∈ s.cells, B32 x) : ∀ x ∈ (stepP code cap fuel s i0 i1).1.cells, B32 x := by
  have hz : ∀ x ∈ (stz 0 0).cells, B32 x := fun x hx => by
    have : x = 0 := List.eq_of_mem_replicate hx
    rw [this]; exact B32_0
  unfold stepP
  split
  · exact hz
  rename_i hg
  split
  · exact hz
  rename_i hi
  split
  · exact hz
  have hg' : gameP code cap fuel = 0 := by simpa using hg
  have hi' : isP s = true := by cases hh : isP s <;> simp_all
  obtain ⟨f0, f1, _⟩ := isP_spec hi'
  show ∀ x ∈ (stepM code cap fuel.toNat s i0 i1).cells, B32 x
  unfold stepM
  rw [endS_cells]
  split
  · exact (runM_B (gameP_spec hg').1 _ _ ⟨fun x hx => (by cases hx), h, f0, f1⟩ (by show (0 : Int) ≤ 0; omega)).cells
  exact h
set_option maxRecDepth 20000 in
set_option maxHeartbeats 16000000 in
theorem step_h (code : List (Int × Int)) (cap fuel : Int) (s : Sta) (i0 i1 : UInt16) (hcl : code.length ≤ 9223372036854775807) (hB : ∀ x ∈ s.cells, B32 x) :
    Holds Tryz.prog 102 [.game code cap fuel, .agg ((sd s).map D.toC), .agg [.val (.int .u16 (U16 i0)), .val (.int .u16 (U16 i1))]] [] (fun r h' => r = .tup [.agg ((sd (stepP code cap fuel s i0 i1).1).map D.toC), .int .i64 (stepP code cap fuel s i0 i1).2] ∧ h' = []) := by
  have hgc := gcheck_h code cap fuel hcl
  have his := isState_h s
  refine holds_of_awp Tryz.func102 rfl (by decide +kernel) mixed Tryz.ntmps102 Tryz.results102 ?_
  refine zE ?_
  refine zs ?_;try exact trivial
  refine a_call [] (hgc) ok0 ?_ ?_ ?_
  · refine zs ?_;try exact trivial
  · refine zs ?_;try exact trivial
  rintro _ _ ⟨rfl, rfl⟩
  by_cases hg : gameP code cap fuel = 0
  · obtain ⟨g1, g2, g3, g4, g5⟩ := gameP_spec hg
    have hlen := game_len hg
    rw [hg]
    refine zc ?_;try exact trivial
    refine a_call [] (his) ok0 ?_ ?_ ?_
    · refine zs ?_;try exact trivial
    · refine zs ?_;try exact trivial
    rintro _ _ ⟨rfl, rfl⟩
    cases hi : isP s
    · have e : stepP code cap fuel s i0 i1 = (stz 0 0, 1) := by unfold stepP; rw [if_neg (by rw [hg]; simp), if_pos (.inl hi)]
      rw [e]
      refine zc ?_;try exact trivial
      all_goals exact leCs_refl _
    obtain ⟨s1, s2, s3, s4, s5⟩ := isP_spec hi
    refine zc ?_;try exact trivial
    cases hz : decide (U32 s.seed = 0)
    · have hz' := of_decide_eq_false hz
      simp (maxSteps:=2000000) (disch:=omega) only [go_sem,Nat.reduceAdd,Nat.reduceSub,Nat.reduceMul,Nat.reduceBEq,Nat.reduceEqDiff,Nat.reduceLT,Nat.reduceLeDiff,Nat.reduceDiv,reduceIte,reduceCtorEq, hz]
      cases ho : s.over
      · simp (maxSteps:=2000000) (disch:=omega) only [go_sem,Nat.reduceAdd,Nat.reduceSub,Nat.reduceMul,Nat.reduceBEq,Nat.reduceEqDiff,Nat.reduceLT,Nat.reduceLeDiff,Nat.reduceDiv,reduceIte,reduceCtorEq, ho]
        cases hf : decide (cap ≤ s.frame)
        · have hf' := of_decide_eq_false hf
          have hw : s.win = 0 := by rcases s5 with h | h; rw [ho] at h; cases h; exact h
          have e : stepP code cap fuel s i0 i1 = (stepM code cap fuel.toNat s i0 i1, 0) := by unfold stepP; rw [if_neg (by rw [hg]; simp), if_neg (by rintro (h | h); rw [hi] at h; cases h; exact hz' h), if_neg (by rintro (h | h); rw [ho] at h; cases h; exact hf' h)]
          rw [e]
          have hrun := run_h10 code cap fuel.toNat (mac0 s i0 i1) g1 (by omega) ⟨by show (0 : Int) ≤ 0; omega, by show (0 : Int) ≤ _; omega, by show 0 ≤ 32; omega, fun x hx => (by cases hx), hB, s1, s2⟩ rfl (by omega)
          rw [show ((fuel.toNat : Nat) : Int) = fuel by omega] at hrun
          have hlow := runM_B g1 fuel.toNat (mac0 s i0 i1) ⟨fun x hx => (by cases hx), hB, s1, s2⟩ (by show (0 : Int) ≤ 0; omega)
          have eM : stepM code cap fuel.toNat s i0 i1 = endS cap (if (runM code fuel.toNat (mac0 s i0 i1)).1 = 0 then (runM code fuel.toNat (mac0 s i0 i1)).2.st else s) := rfl
          rw [eM]
          clear e eM
          generalize runM code fuel.toNat (mac0 s i0 i1) = x at hrun hlow ⊢
          obtain ⟨E, M⟩ := x
          simp only at hrun hlow ⊢
          have mf0 := hlow.fr0
          have mf1 := hlow.fr1
          simp (maxSteps:=2000000) (disch:=omega) only [go_sem,Nat.reduceAdd,Nat.reduceSub,Nat.reduceMul,Nat.reduceBEq,Nat.reduceEqDiff,Nat.reduceLT,Nat.reduceLeDiff,Nat.reduceDiv,reduceIte,reduceCtorEq, hf]
          refine a_call [.loc [40]] hrun (ok1 rfl) ?_ ?_ ?_
          · refine zs ?_;try exact trivial
          · refine zs ?_;try exact trivial
            exact mc_le ⟨rfl, rfl, rfl, by simp [leC], rfl, rfl, rfl⟩
          rintro _ _ ⟨rfl, rfl⟩
          refine zc ?_;try exact trivial
          clear hrun hgc his hB g1 hlow
          refine c_dec (fun hE => ?_) (fun hE => ?_)
          · rw [if_neg (show ¬ E = 0 from hE)]
            refine zc ?_;try exact trivial
            have hover : (s).over = false ∨ (s).over = true := by cases (s).over <;> simp
            cases hk : decide (cap ≤ (s).frame + 1)
            · have e2 : endS cap (s) = (s).wFrame ((s).frame + 1) := by unfold endS; rw [if_neg (fun h => (of_decide_eq_false hk) h.1)]
              rw [e2]
              simp (maxSteps:=2000000) (disch:=omega) only [go_sem,Nat.reduceAdd,Nat.reduceSub,Nat.reduceMul,Nat.reduceBEq,Nat.reduceEqDiff,Nat.reduceLT,Nat.reduceLeDiff,Nat.reduceDiv,reduceIte,reduceCtorEq, hk]
              all_goals exact leCs_refl _
            cases hq : (!(s).over)
            · have e2 : endS cap (s) = (s).wFrame ((s).frame + 1) := by unfold endS; rw [if_neg (fun h => by rw [h.2] at hq; cases hq)]
              rw [e2]
              simp (maxSteps:=2000000) (disch:=omega) only [go_sem,Nat.reduceAdd,Nat.reduceSub,Nat.reduceMul,Nat.reduceBEq,Nat.reduceEqDiff,Nat.reduceLT,Nat.reduceLeDiff,Nat.reduceDiv,reduceIte,reduceCtorEq, hk, hq]
              all_goals exact leCs_refl _
            have hq' : (s).over = false := by cases hh : (s).over <;> simp_all
            have e2 : endS cap (s) = (((s).wFrame ((s).frame + 1)).wOver true).wWin (winS (s)) := by unfold endS; rw [if_pos ⟨of_decide_eq_true hk, hq'⟩]
            rw [e2]
            simp (maxSteps:=2000000) (disch:=omega) only [go_sem,Nat.reduceAdd,Nat.reduceSub,Nat.reduceMul,Nat.reduceBEq,Nat.reduceEqDiff,Nat.reduceLT,Nat.reduceLeDiff,Nat.reduceDiv,reduceIte,reduceCtorEq, hk, hq]
            refine c_dec (fun w1 => ?_) (fun w1 => ?_)
            · have e3 : winS (s) = 0 := by unfold winS; rw [if_pos w1]
              rw [e3]
              refine zc ?_;try exact trivial
              all_goals exact leCs_refl _
            refine zc ?_;try exact trivial
            refine c_dec (fun w2 => ?_) (fun w2 => ?_)
            · have e3 : winS (s) = 1 := by unfold winS; rw [if_neg w1, if_pos w2]
              rw [e3]
              refine zc ?_;try exact trivial
              all_goals exact leCs_refl _
            have e3 : winS (s) = 2 := by unfold winS; rw [if_neg w1, if_neg w2]
            rw [e3]
            refine zc ?_;try exact trivial
            all_goals exact leCs_refl _
          rw [if_pos (show E = 0 by omega)]
          refine zc ?_;try exact trivial
          have hover : (M.st).over = false ∨ (M.st).over = true := by cases (M.st).over <;> simp
          cases hk : decide (cap ≤ (M.st).frame + 1)
          · have e2 : endS cap (M.st) = (M.st).wFrame ((M.st).frame + 1) := by unfold endS; rw [if_neg (fun h => (of_decide_eq_false hk) h.1)]
            rw [e2]
            simp (maxSteps:=2000000) (disch:=omega) only [go_sem,Nat.reduceAdd,Nat.reduceSub,Nat.reduceMul,Nat.reduceBEq,Nat.reduceEqDiff,Nat.reduceLT,Nat.reduceLeDiff,Nat.reduceDiv,reduceIte,reduceCtorEq, hk]
            all_goals exact leCs_refl _
          cases hq : (!(M.st).over)
          · have e2 : endS cap (M.st) = (M.st).wFrame ((M.st).frame + 1) := by unfold endS; rw [if_neg (fun h => by rw [h.2] at hq; cases hq)]
            rw [e2]
            simp (maxSteps:=2000000) (disch:=omega) only [go_sem,Nat.reduceAdd,Nat.reduceSub,Nat.reduceMul,Nat.reduceBEq,Nat.reduceEqDiff,Nat.reduceLT,Nat.reduceLeDiff,Nat.reduceDiv,reduceIte,reduceCtorEq, hk, hq]
            all_goals exact leCs_refl _
          have hq' : (M.st).over = false := by cases hh : (M.st).over <;> simp_all
          have e2 : endS cap (M.st) = (((M.st).wFrame ((M.st).frame + 1)).wOver true).wWin (winS (M.st)) := by unfold endS; rw [if_pos ⟨of_decide_eq_true hk, hq'⟩]
          rw [e2]
          simp (maxSteps:=2000000) (disch:=omega) only [go_sem,Nat.reduceAdd,Nat.reduceSub,Nat.reduceMul,Nat.reduceBEq,Nat.reduceEqDiff,Nat.reduceLT,Nat.reduceLeDiff,Nat.reduceDiv,reduceIte,reduceCtorEq, hk, hq]
          refine c_dec (fun w1 => ?_) (fun w1 => ?_)
          · have e3 : winS (M.st) = 0 := by unfold winS; rw [if_pos w1]
            rw [e3]
            refine zc ?_;try exact trivial
            all_goals exact leCs_refl _
          refine zc ?_;try exact trivial
          refine c_dec (fun w2 => ?_) (fun w2 => ?_)
          · have e3 : winS (M.st) = 1 := by unfold winS; rw [if_neg w1, if_pos w2]
            rw [e3]
            refine zc ?_;try exact trivial
            all_goals exact leCs_refl _
          have e3 : winS (M.st) = 2 := by unfold winS; rw [if_neg w1, if_neg w2]
          rw [e3]
          refine zc ?_;try exact trivial
          all_goals exact leCs_refl _
        have e : stepP code cap fuel s i0 i1 = (stz 0 0, 12) := by unfold stepP; rw [if_neg (by rw [hg]; simp), if_neg (by rintro (h | h); rw [hi] at h; cases h; exact hz' h), if_pos (.inr (of_decide_eq_true hf))]
        rw [e]
        simp (maxSteps:=2000000) (disch:=omega) only [go_sem,Nat.reduceAdd,Nat.reduceSub,Nat.reduceMul,Nat.reduceBEq,Nat.reduceEqDiff,Nat.reduceLT,Nat.reduceLeDiff,Nat.reduceDiv,reduceIte,reduceCtorEq, hf]
        all_goals exact leCs_refl _
      have e : stepP code cap fuel s i0 i1 = (stz 0 0, 12) := by unfold stepP; rw [if_neg (by rw [hg]; simp), if_neg (by rintro (h | h); rw [hi] at h; cases h; exact hz' h), if_pos (.inl ho)]
      rw [e]
      simp (maxSteps:=2000000) (disch:=omega) only [go_sem,Nat.reduceAdd,Nat.reduceSub,Nat.reduceMul,Nat.reduceBEq,Nat.reduceEqDiff,Nat.reduceLT,Nat.reduceLeDiff,Nat.reduceDiv,reduceIte,reduceCtorEq, ho]
      all_goals exact leCs_refl _
    have e : stepP code cap fuel s i0 i1 = (stz 0 0, 1) := by unfold stepP; rw [if_neg (by rw [hg]; simp), if_pos (.inr (of_decide_eq_true hz))]
    rw [e]
    simp (maxSteps:=2000000) (disch:=omega) only [go_sem,Nat.reduceAdd,Nat.reduceSub,Nat.reduceMul,Nat.reduceBEq,Nat.reduceEqDiff,Nat.reduceLT,Nat.reduceLeDiff,Nat.reduceDiv,reduceIte,reduceCtorEq, hz]
    all_goals exact leCs_refl _
  have e : stepP code cap fuel s i0 i1 = (stz 0 0, gameP code cap fuel) := by unfold stepP; rw [if_pos hg]
  rw [e]
  have dn : decide (gameP code cap fuel ≠ 0) = true := decide_eq_true hg
  simp (maxSteps:=2000000) (disch:=omega) only [go_sem,Nat.reduceAdd,Nat.reduceSub,Nat.reduceMul,Nat.reduceBEq,Nat.reduceEqDiff,Nat.reduceLT,Nat.reduceLeDiff,Nat.reduceDiv,reduceIte,reduceCtorEq, dn]
  all_goals exact leCs_refl _
end
section
theorem spl_mid {α : Type} : ∀ (p a b q : List α), a.length = b.length → spl (p ++ a ++ q) p.length b = p ++ b ++ q
  | p, [], [], q, _ => rfl
  | p, u :: us, v :: vs, q, h => by
    show spl ((p ++ u :: us ++ q).set p.length v) (p.length + 1) vs = _
    have e1 : (p ++ u :: us ++ q).set p.length v = (p ++ [v]) ++ us ++ q := by simp [List.set_append]
    have e2 := spl_mid (p ++ [v]) us vs q (by simpa using h)
    rw [List.length_append] at e2
    rw [e1]
    refine e2.trans ?_
    simp
  | _, [], _ :: _, _, h => by simp at h
  | _, _ :: _, [], _, h => by simp at h
@[reducible] def Sta.wAll (s t : Sta) : Sta := ⟨s.frame, t.cells, s.seed, s.over, s.win, t.len⟩
@[go_sem] theorem sta_len {s : Sta} : s.cells.length = 16 := nr s.len
@[go_sem 1300] theorem rm_sall {s t : Sta} {i0 i1 : UInt16} {sk : C} {a w : Int} {b : Bool} : spl (rmC s i0 i1 sk a w b) 1 ((c32 t.cells).map D.toC) = rmC (s.wAll t) i0 i1 sk a w b := by
  have h1 : ((c32 t.cells).map D.toC).length = 16 := by simp [c32, t.len]
  have h2 : ((c32 s.cells).map D.toC).length = 16 := by simp [c32, s.len]
  have e : ∀ u : Sta, rmC u i0 i1 sk a w b = [.val (.int .i64 u.frame)] ++ (c32 u.cells).map D.toC ++ ([.val (.int .u32 (U32 u.seed)), .val (.bool u.over), .val (.int .i64 u.win)] ++ [.val (.int .u16 (U16 i0)), .val (.int .u16 (U16 i1)), sk, .val (.int .i64 a), .val (.int .i64 w), .val (.bool b)]) := fun u => by
    unfold rmC sd
    simp [D.toC]
  rw [e, e]
  exact spl_mid [.val (.int .i64 s.frame)] _ _ _ (h2.trans h1.symm)
@[go_sem ↓ 1300] theorem rm_c0 {s : Sta} {i0 i1 : UInt16} {sk : C} {a w : Int} {b : Bool} {K : C → Prop} : (∃ c, (rmC s i0 i1 sk a w b)[1]? = some c ∧ K c) = K (.val (.int .i32 (s.cells.getD 0 0))) := ex_some (rm_gcell (k := 0) (by omega))
@[go_sem ↓ 1300] theorem rm_c1 {s : Sta} {i0 i1 : UInt16} {sk : C} {a w : Int} {b : Bool} {K : C → Prop} : (∃ c, (rmC s i0 i1 sk a w b)[2]? = some c ∧ K c) = K (.val (.int .i32 (s.cells.getD 1 0))) := ex_some (rm_gcell (k := 1) (by omega))
@[go_sem 1300] theorem rm_lit {sk : C} {s : Sta} : spl [.val (.int .i64 0), .val (.int .i32 0), .val (.int .i32 0), .val (.int .i32 0), .val (.int .i32 0), .val (.int .i32 0), .val (.int .i32 0), .val (.int .i32 0), .val (.int .i32 0), .val (.int .i32 0), .val (.int .i32 0), .val (.int .i32 0), .val (.int .i32 0), .val (.int .i32 0), .val (.int .i32 0), .val (.int .i32 0), .val (.int .i32 0), .val (.int .u32 0), .val (.bool false), .val (.int .i64 0), .val (.int .u16 0), .val (.int .u16 0), sk, .val (.int .i64 0), .val (.int .i64 0), .val (.bool false)] 0 ((sd s).map D.toC) = rmC s 0 0 sk 0 0 false := by
  show spl (rmC (stz 0 0) 0 0 sk 0 0 false) 0 ((sd s).map D.toC) = _
  exact rm_ss
set_option maxRecDepth 20000 in
set_option maxHeartbeats 16000000 in
theorem rstep_h (code : List (Int × Int)) (cap fuel : Int) (s : Sta) (i0 i1 : UInt16) (hcl : code.length ≤ 9223372036854775807) (hB : ∀ x ∈ s.cells, B32 x) :
    Holds Tryz.prog 37 [.game code cap fuel, .agg ((sd s).map D.toC), .agg [.val (.int .u16 (U16 i0)), .val (.int .u16 (U16 i1))]] [] (fun r h' => r = .tup [.agg ((sd (stepP code cap fuel s i0 i1).1).map D.toC), .int .i64 (stepP code cap fuel s i0 i1).2] ∧ h' = []) := by
  have hgc := rcheck10_h code cap fuel hcl
  have his := ris_h s
  refine holds_of_awp Tryz.func37 rfl (by decide +kernel) mixed Tryz.ntmps37 Tryz.results37 ?_
  refine zE ?_
  refine zs ?_;try exact trivial
  refine a_call [] (hgc) ok0 ?_ ?_ ?_
  · refine zs ?_;try exact trivial
  · refine zs ?_;try exact trivial
  rintro _ _ ⟨rfl, rfl⟩
  by_cases hg : gameP code cap fuel = 0
  · obtain ⟨g1, g2, g3, g4, g5⟩ := gameP_spec hg
    have hlen := game_len hg
    rw [hg]
    refine zc ?_;try exact trivial
    refine a_call [] (his) ok0 ?_ ?_ ?_
    · refine zs ?_;try exact trivial
    · refine zs ?_;try exact trivial
    rintro _ _ ⟨rfl, rfl⟩
    cases hi : isP s
    · have e : stepP code cap fuel s i0 i1 = (stz 0 0, 1) := by unfold stepP; rw [if_neg (by rw [hg]; simp), if_pos (.inl hi)]
      rw [e]
      refine zc ?_;try exact trivial
      all_goals exact leCs_refl _
    obtain ⟨s1, s2, s3, s4, s5⟩ := isP_spec hi
    refine zc ?_;try exact trivial
    cases hz : decide (U32 s.seed = 0)
    · have hz' := of_decide_eq_false hz
      simp (maxSteps:=2000000) (disch:=omega) only [go_sem,Nat.reduceAdd,Nat.reduceSub,Nat.reduceMul,Nat.reduceBEq,Nat.reduceEqDiff,Nat.reduceLT,Nat.reduceLeDiff,Nat.reduceDiv,reduceIte,reduceCtorEq, hz]
      cases ho : s.over
      · simp (maxSteps:=2000000) (disch:=omega) only [go_sem,Nat.reduceAdd,Nat.reduceSub,Nat.reduceMul,Nat.reduceBEq,Nat.reduceEqDiff,Nat.reduceLT,Nat.reduceLeDiff,Nat.reduceDiv,reduceIte,reduceCtorEq, ho]
        cases hf : decide (cap ≤ s.frame)
        · have hf' := of_decide_eq_false hf
          have hw : s.win = 0 := by rcases s5 with h | h; rw [ho] at h; cases h; exact h
          have e : stepP code cap fuel s i0 i1 = (stepM code cap fuel.toNat s i0 i1, 0) := by unfold stepP; rw [if_neg (by rw [hg]; simp), if_neg (by rintro (h | h); rw [hi] at h; cases h; exact hz' h), if_neg (by rintro (h | h); rw [ho] at h; cases h; exact hf' h)]
          rw [e, ← step_eq g1 ho hw (by omega)]
          clear e
          unfold rstepM
          obtain ⟨R, hR⟩ : ∃ R, rrunM code fuel.toNat (rac0 s i0 i1) = R := ⟨_, rfl⟩
          rw [hR]
          simp (maxSteps:=2000000) (disch:=omega) only [go_sem,Nat.reduceAdd,Nat.reduceSub,Nat.reduceMul,Nat.reduceBEq,Nat.reduceEqDiff,Nat.reduceLT,Nat.reduceLeDiff,Nat.reduceDiv,reduceIte,reduceCtorEq, hf]
          refine a_loopk (fun x : Nat × Rac => ⟨[U, U, U, V.cell (.ptr (.loc [3]) 0), V.cell (.ptr (.loc [4]) 0), .undef, V.cell (.ptr (.loc [6]) 0), V.int .i64 0, .undef, V.cell (.ptr (.loc [39]) 0), V.int .i64 (x.1 : Int), U, U, U, U, U, U, U, U, U, U, U, U, U, U, U, U, U, U, U, U, U, U, U, U, U, U, U, U, U, U, U, U, U, U, U, U, U, U, U, U, U, U, U, U, U, U, U, U, U, U, U, U, U, U, U, U, U, U, U, U, U, U, U, U, U, U, U, U, U, U, U, U, U, U, U, U, U, U, U, U, U, U, U, U, U, U, U, U, U, U, U, U, U, U, U, U, U, U, U, U, U, U, U, U, U, U, U, U, U, U, U, U, U, U, U, U, U, U, U, U, U, U, U, U, U, U, U, U, U, U, U, U, U, U, U, U, U, U, U, U, U, U, U, U, U, U, U, U, U, U, U, U, U, U, U, U, U, U, U, U, .undef], [(.loc [39], rB (.loc [39]) x.2), (.loc [6], (sd (stz 0 0)).map D.toC), (.loc [4], (sd s).map D.toC), (.loc [3], [.lst .no none 2 (ins code), .val (.int .i64 cap), .val (.int .i64 fuel)])]⟩) (fun x => x.1 ≤ 2000 ∧ okR code.length x.2 ∧ x.2.bad = false ∧ rrunM code x.1 x.2 = R) (fun x => x.1) (fuel.toNat, rac0 s i0 i1) ⟨by omega, ⟨by show (0 : Int) ≤ 0; omega, by show (0 : Int) ≤ _; omega, by show 0 ≤ 32; omega, fun x hx => (by cases hx), hB, s1, s2⟩, rfl, hR⟩ ?_ ?_
          · have ef : ((fuel.toNat : Nat) : Int) = fuel := by omega
            simp only [ef]
            refine zs ?_;try exact trivial
            exact rm_le ⟨rfl, rfl, rfl, by simp [leC, c32], rfl, rfl, rfl⟩
          rintro ⟨f, r⟩ ⟨h1, h2, h3, h4⟩
          simp only at h1 h2 h3 h4 ⊢
          have p0 := h2.pc0
          have p1 := h2.pc1
          have q0 := h2.fr0
          have q1 := h2.fr1
          clear hgc his
          refine zs ?_;try exact trivial
          refine a_quiet (by kernel_rfl) (by kernel_rfl) (by kernel_rfl) ?_
          cases d1 : decide (r.pc < (code.length : Int))
          · have hst : R = r := by
              rw [← h4]
              cases f with
              | zero => exact if_neg (of_decide_eq_false d1)
              | succ f => exact if_neg (of_decide_eq_false d1)
            have hU : undoR s r = r := by unfold undoR; rw [if_neg (by rw [h3]; simp)]
            rw [hst, hU]
            simp (maxSteps:=2000000) (disch:=omega) only [go_sem,Nat.reduceAdd,Nat.reduceSub,Nat.reduceMul,Nat.reduceBEq,Nat.reduceEqDiff,Nat.reduceLT,Nat.reduceLeDiff,Nat.reduceDiv,reduceIte,reduceCtorEq, d1]
            simp (maxSteps:=2000000) (disch:=omega) only [go_sem,Nat.reduceAdd,Nat.reduceSub,Nat.reduceMul,Nat.reduceBEq,Nat.reduceEqDiff,Nat.reduceLT,Nat.reduceLeDiff,Nat.reduceDiv,reduceIte,reduceCtorEq, h3]
            -- REST r | r.st | r.won | 0
            refine zc ?_;try exact trivial
            cases dw : decide ((0 : Int) ≤ r.won)
            · simp (maxSteps:=2000000) (disch:=omega) only [go_sem,Nat.reduceAdd,Nat.reduceSub,Nat.reduceMul,Nat.reduceBEq,Nat.reduceEqDiff,Nat.reduceLT,Nat.reduceLeDiff,Nat.reduceDiv,reduceIte,reduceCtorEq, dw]
              refine a_quiet (by kernel_rfl) (by kernel_rfl) (by kernel_rfl) ?_
              cases dc : decide (r.st.frame + 1 = cap)
              · simp (maxSteps:=2000000) (disch:=omega) only [go_sem,Nat.reduceAdd,Nat.reduceSub,Nat.reduceMul,Nat.reduceBEq,Nat.reduceEqDiff,Nat.reduceLT,Nat.reduceLeDiff,Nat.reduceDiv,reduceIte,reduceCtorEq, dc]
                have e : refE cap r = (r.st.wFrame (r.st.frame + 1)) := by unfold refE; rw [if_neg (of_decide_eq_false dw), if_neg (of_decide_eq_false dc)]
                rw [e]
                try (refine zc ?_; try exact trivial)
                all_goals exact leCs_refl _
              simp (maxSteps:=2000000) (disch:=omega) only [go_sem,Nat.reduceAdd,Nat.reduceSub,Nat.reduceMul,Nat.reduceBEq,Nat.reduceEqDiff,Nat.reduceLT,Nat.reduceLeDiff,Nat.reduceDiv,reduceIte,reduceCtorEq, dc]
              refine a_quiet (by kernel_rfl) (by kernel_rfl) (by kernel_rfl) ?_
              refine zs ?_;try exact trivial
              cases de : decide (r.st.cells.getD 0 0 = r.st.cells.getD 1 0)
              · simp (maxSteps:=2000000) (disch:=omega) only [go_sem,Nat.reduceAdd,Nat.reduceSub,Nat.reduceMul,Nat.reduceBEq,Nat.reduceEqDiff,Nat.reduceLT,Nat.reduceLeDiff,Nat.reduceDiv,reduceIte,reduceCtorEq, de]
                refine a_quiet (by kernel_rfl) (by kernel_rfl) (by kernel_rfl) ?_
                refine zs ?_;try exact trivial
                cases dl : decide (r.st.cells.getD 0 0 < r.st.cells.getD 1 0)
                · simp (maxSteps:=2000000) (disch:=omega) only [go_sem,Nat.reduceAdd,Nat.reduceSub,Nat.reduceMul,Nat.reduceBEq,Nat.reduceEqDiff,Nat.reduceLT,Nat.reduceLeDiff,Nat.reduceDiv,reduceIte,reduceCtorEq, dl]
                  have e : refE cap r = (r.st.wFrame (r.st.frame + 1)).wOver true := by unfold refE; rw [if_neg (of_decide_eq_false dw), if_pos (of_decide_eq_true dc), if_neg (show ¬ r.st.cells.getD 0 0 = r.st.cells.getD 1 0 from of_decide_eq_false de), if_neg (show ¬ r.st.cells.getD 0 0 < r.st.cells.getD 1 0 from of_decide_eq_false dl)]
                  rw [e]
                  try (refine zc ?_; try exact trivial)
                  all_goals exact leCs_refl _
                simp (maxSteps:=2000000) (disch:=omega) only [go_sem,Nat.reduceAdd,Nat.reduceSub,Nat.reduceMul,Nat.reduceBEq,Nat.reduceEqDiff,Nat.reduceLT,Nat.reduceLeDiff,Nat.reduceDiv,reduceIte,reduceCtorEq, dl]
                have e : refE cap r = ((r.st.wFrame (r.st.frame + 1)).wOver true).wWin 1 := by unfold refE; rw [if_neg (of_decide_eq_false dw), if_pos (of_decide_eq_true dc), if_neg (show ¬ r.st.cells.getD 0 0 = r.st.cells.getD 1 0 from of_decide_eq_false de), if_pos (show r.st.cells.getD 0 0 < r.st.cells.getD 1 0 from of_decide_eq_true dl)]
                rw [e]
                try (refine zc ?_; try exact trivial)
                all_goals exact leCs_refl _
              simp (maxSteps:=2000000) (disch:=omega) only [go_sem,Nat.reduceAdd,Nat.reduceSub,Nat.reduceMul,Nat.reduceBEq,Nat.reduceEqDiff,Nat.reduceLT,Nat.reduceLeDiff,Nat.reduceDiv,reduceIte,reduceCtorEq, de]
              have e : refE cap r = ((r.st.wFrame (r.st.frame + 1)).wOver true).wWin 2 := by unfold refE; rw [if_neg (of_decide_eq_false dw), if_pos (of_decide_eq_true dc), if_pos (show r.st.cells.getD 0 0 = r.st.cells.getD 1 0 from of_decide_eq_true de)]
              rw [e]
              try (refine zc ?_; try exact trivial)
              all_goals exact leCs_refl _
            · simp (maxSteps:=2000000) (disch:=omega) only [go_sem,Nat.reduceAdd,Nat.reduceSub,Nat.reduceMul,Nat.reduceBEq,Nat.reduceEqDiff,Nat.reduceLT,Nat.reduceLeDiff,Nat.reduceDiv,reduceIte,reduceCtorEq, dw]
              have e : refE cap r = ((r.st.wFrame (r.st.frame + 1)).wOver true).wWin r.won := by unfold refE; rw [if_pos (of_decide_eq_true dw)]
              rw [e]
              try (refine zc ?_; try exact trivial)
              all_goals exact leCs_refl _
            -- END
          simp (maxSteps:=2000000) (disch:=omega) only [go_sem,Nat.reduceAdd,Nat.reduceSub,Nat.reduceMul,Nat.reduceBEq,Nat.reduceEqDiff,Nat.reduceLT,Nat.reduceLeDiff,Nat.reduceDiv,reduceIte,reduceCtorEq, d1]
          refine c_dec (fun g => ?_) (fun g => ?_)
          · refine zs ?_;try exact trivial
            have q3 := h2.fr0
            refine a_drawC (⟨[U, U, U, V.cell (.ptr (.loc [3]) 0), V.cell (.ptr (.loc [4]) 0), .undef, V.cell (.ptr (.loc [6]) 0), V.int .i64 0, .undef, V.cell (.ptr (.loc [39]) 0), U, U, U, U, U, U, U, U, U, U, U, U, U, U, U, U, U, U, U, U, U, U, U, U, U, U, U, U, U, U, U, U, U, U, U, U, U, U, U, U, U, U, U, U, U, U, U, U, U, U, U, U, U, U, U, U, U, U, U, U, U, U, U, U, U, U, U, U, U, U, U, U, U, U, U, U, U, U, U, U, U, U, U, U, U, U, U, U, U, U, U, U, U, U, U, U, U, U, U, U, U, U, U, U, U, U, U, U, U, U, U, U, U, U, U, U, U, U, U, U, U, U, U, U, U, U, U, U, U, U, U, U, U, U, U, U, U, U, U, U, U, U, U, U, U, U, U, U, U, U, U, U, U, U, U, U, U, U, U, U, U, .undef], [(.loc [39], rB (.loc [39]) (undoR s (badR r))), (.loc [6], (sd (stz 0 0)).map D.toC), (.loc [4], (sd s).map D.toC), (.loc [3], [.lst .no none 2 (ins code), .val (.int .i64 cap), .val (.int .i64 fuel)])]⟩) (.take 0 (.take 1 (.take 2 (.take 3 (.take 5 (.both [(4, .take 7 (.take 8 (.take 9 (.both [(6, .both [(10, .take 11 (.take 12 (.take 13 (.both [(14, .take 15 (.take 16 (.both [(17, .done)])))]))))]), (10, .both [(6, .take 11 (.take 12 (.take 13 (.both [(14, .take 15 (.take 16 (.both [(17, .done)])))]))))])])))), (6, .both [(4, .take 7 (.take 8 (.take 9 (.both [(10, .take 11 (.take 12 (.take 13 (.both [(14, .take 15 (.take 16 (.both [(17, .done)])))]))))]))))])])))))) (by kernel_rfl) (by kernel_rfl) ?_ ?_
            · refine zc ?_;try exact trivial
              exact rm_le ⟨rfl, rfl, rfl, leC_refl _, rfl, rfl, rfl⟩
            have hU : undoR s (badR r) = ⟨(r.st.wAll s).wSeed s.seed, r.i0, r.i1, r.sk, r.pc, -1, true⟩ := rfl
            rw [show R = badR r by rw [← h4, show f = 0 by omega]; exact if_pos (of_decide_eq_true d1), hU]
            have k0 : 0 ≤ ((r.st.wAll s).wSeed s.seed).frame := q0
            have k1 : ((r.st.wAll s).wSeed s.seed).frame ≤ 600 := q1
            generalize (r.st.wAll s).wSeed s.seed = st at k0 k1 ⊢
            -- REST ⟨st, r.i0, r.i1, r.sk, r.pc, -1, true⟩ | st | (-1) | 1
            refine zc ?_;try exact trivial
            refine a_quiet (by kernel_rfl) (by kernel_rfl) (by kernel_rfl) ?_
            cases dc : decide (st.frame + 1 = cap)
            · simp (maxSteps:=2000000) (disch:=omega) only [go_sem,Nat.reduceAdd,Nat.reduceSub,Nat.reduceMul,Nat.reduceBEq,Nat.reduceEqDiff,Nat.reduceLT,Nat.reduceLeDiff,Nat.reduceDiv,reduceIte,reduceCtorEq, dc]
              have e : refE cap ⟨st, r.i0, r.i1, r.sk, r.pc, -1, true⟩ = (st.wFrame (st.frame + 1)) := by unfold refE; rw [if_neg (show ¬ (0 : Int) ≤ -1 by omega), if_neg (of_decide_eq_false dc)]
              rw [e]
              try (refine zc ?_; try exact trivial)
              all_goals exact leCs_refl _
            · simp (maxSteps:=2000000) (disch:=omega) only [go_sem,Nat.reduceAdd,Nat.reduceSub,Nat.reduceMul,Nat.reduceBEq,Nat.reduceEqDiff,Nat.reduceLT,Nat.reduceLeDiff,Nat.reduceDiv,reduceIte,reduceCtorEq, dc]
              refine a_quiet (by kernel_rfl) (by kernel_rfl) (by kernel_rfl) ?_
              refine zs ?_;try exact trivial
              cases de : decide (st.cells.getD 0 0 = st.cells.getD 1 0)
              · simp (maxSteps:=2000000) (disch:=omega) only [go_sem,Nat.reduceAdd,Nat.reduceSub,Nat.reduceMul,Nat.reduceBEq,Nat.reduceEqDiff,Nat.reduceLT,Nat.reduceLeDiff,Nat.reduceDiv,reduceIte,reduceCtorEq, de]
                refine a_quiet (by kernel_rfl) (by kernel_rfl) (by kernel_rfl) ?_
                refine zs ?_;try exact trivial
                cases dl : decide (st.cells.getD 0 0 < st.cells.getD 1 0)
                · simp (maxSteps:=2000000) (disch:=omega) only [go_sem,Nat.reduceAdd,Nat.reduceSub,Nat.reduceMul,Nat.reduceBEq,Nat.reduceEqDiff,Nat.reduceLT,Nat.reduceLeDiff,Nat.reduceDiv,reduceIte,reduceCtorEq, dl]
                  have e : refE cap ⟨st, r.i0, r.i1, r.sk, r.pc, -1, true⟩ = (st.wFrame (st.frame + 1)).wOver true := by unfold refE; rw [if_neg (show ¬ (0 : Int) ≤ -1 by omega), if_pos (of_decide_eq_true dc), if_neg (show ¬ st.cells.getD 0 0 = st.cells.getD 1 0 from of_decide_eq_false de), if_neg (show ¬ st.cells.getD 0 0 < st.cells.getD 1 0 from of_decide_eq_false dl)]
                  rw [e]
                  try (refine zc ?_; try exact trivial)
                  all_goals exact leCs_refl _
                simp (maxSteps:=2000000) (disch:=omega) only [go_sem,Nat.reduceAdd,Nat.reduceSub,Nat.reduceMul,Nat.reduceBEq,Nat.reduceEqDiff,Nat.reduceLT,Nat.reduceLeDiff,Nat.reduceDiv,reduceIte,reduceCtorEq, dl]
                have e : refE cap ⟨st, r.i0, r.i1, r.sk, r.pc, -1, true⟩ = ((st.wFrame (st.frame + 1)).wOver true).wWin 1 := by unfold refE; rw [if_neg (show ¬ (0 : Int) ≤ -1 by omega), if_pos (of_decide_eq_true dc), if_neg (show ¬ st.cells.getD 0 0 = st.cells.getD 1 0 from of_decide_eq_false de), if_pos (show st.cells.getD 0 0 < st.cells.getD 1 0 from of_decide_eq_true dl)]
                rw [e]
                try (refine zc ?_; try exact trivial)
                all_goals exact leCs_refl _
              simp (maxSteps:=2000000) (disch:=omega) only [go_sem,Nat.reduceAdd,Nat.reduceSub,Nat.reduceMul,Nat.reduceBEq,Nat.reduceEqDiff,Nat.reduceLT,Nat.reduceLeDiff,Nat.reduceDiv,reduceIte,reduceCtorEq, de]
              have e : refE cap ⟨st, r.i0, r.i1, r.sk, r.pc, -1, true⟩ = ((st.wFrame (st.frame + 1)).wOver true).wWin 2 := by unfold refE; rw [if_neg (show ¬ (0 : Int) ≤ -1 by omega), if_pos (of_decide_eq_true dc), if_pos (show st.cells.getD 0 0 = st.cells.getD 1 0 from of_decide_eq_true de)]
              rw [e]
              try (refine zc ?_; try exact trivial)
              all_goals exact leCs_refl _
            -- END
          obtain ⟨f, rfl⟩ : ∃ f', f = f' + 1 := ⟨f - 1, by omega⟩
          have hlt := of_decide_eq_true d1
          have hpc : r.pc.toNat < code.length := by omega
          have hmay := chk_all g1 hpc
          have hd := does_h _ _ code.length r hmay (by have := h2.len; omega) ⟨p0, by omega⟩ h2.sk q0 q1
          have hk := h2.do hlt hmay
          refine zs ?_;try exact trivial
          refine a_drawC (⟨[U, U, U, V.cell (.ptr (.loc [3]) 0), V.cell (.ptr (.loc [4]) 0), .undef, V.cell (.ptr (.loc [6]) 0), V.int .i64 0, .undef, V.cell (.ptr (.loc [39]) 0), V.int .i64 (f : Int), U, U, U, U, U, U, U, U, U, U, U, U, U, U, U, U, U, U, U, U, U, U, U, U, U, U, U, U, U, U, U, U, U, U, U, U, U, U, U, U, U, U, U, U, U, U, U, U, U, U, U, U, U, U, U, U, U, U, U, V.bool (!rdoB (gi code r.pc.toNat).1 (gi code r.pc.toNat).2 code.length r), U, U, U, U, U, U, U, U, U, U, U, U, U, U, U, U, U, U, U, U, U, U, U, U, U, U, U, U, U, U, U, U, U, U, U, U, U, U, U, U, U, U, U, U, U, U, U, U, U, U, U, U, U, U, U, U, U, U, U, U, U, U, U, U, U, U, U, U, U, U, U, U, U, U, U, U, U, U, U, U, U, U, U, U, U, U, U, U, U, U, U, U, U, U, U, U, U, U, U, U, .undef], [(.loc [39], rB (.loc [39]) (rdoM (gi code r.pc.toNat).1 (gi code r.pc.toNat).2 r)), (.loc [6], (sd (stz 0 0)).map D.toC), (.loc [4], (sd s).map D.toC), (.loc [3], [.lst .no none 2 (ins code), .val (.int .i64 cap), .val (.int .i64 fuel)])]⟩) (.take 0 (.take 1 (.take 3 (.take 4 (.take 5 (.take 9 (.both [(2, .both [(6, .take 7 (.both [(8, .both [(10, .take 11 (.both [(12, .take 13 (.done))]))]), (10, .take 11 (.both [(8, .both [(12, .take 13 (.done))])]))])), (10, .take 11 (.both [(6, .take 7 (.both [(8, .both [(12, .take 13 (.done))])]))]))]), (6, .both [(2, .take 7 (.both [(8, .both [(10, .take 11 (.both [(12, .take 13 (.done))]))]), (10, .take 11 (.both [(8, .both [(12, .take 13 (.done))])]))])), (10, .take 11 (.both [(2, .take 7 (.both [(8, .both [(12, .take 13 (.done))])]))]))]), (10, .take 11 (.both [(2, .both [(6, .take 7 (.both [(8, .both [(12, .take 13 (.done))])]))]), (6, .both [(2, .take 7 (.both [(8, .both [(12, .take 13 (.done))])]))])]))]))))))) (by kernel_rfl) (by kernel_rfl) ?_ ?_
          · refine zc ?_;try exact trivial
            repeat' (with_reducible apply And.intro)
            all_goals (
              refine a_call [.loc [39]] (hd) (ok1 rfl) ?_ ?_ ?_
              · refine zs ?_;try exact trivial
              · refine zs ?_;try exact trivial
              rintro _ _ ⟨rfl, rfl⟩
              refine zs ?_;try exact trivial
              all_goals first | exact leCs_refl _ | (congr 1; omega))
          cases hb : rdoB (gi code r.pc.toNat).1 (gi code r.pc.toNat).2 code.length r
          · simp (maxSteps:=2000000) (disch:=omega) only [go_sem,Nat.reduceAdd,Nat.reduceSub,Nat.reduceMul,Nat.reduceBEq,Nat.reduceEqDiff,Nat.reduceLT,Nat.reduceLeDiff,Nat.reduceDiv,reduceIte,reduceCtorEq, hb, Bool.not_false]
            have hR2 : R = rdoM (gi code r.pc.toNat).1 (gi code r.pc.toNat).2 r := by rw [← h4]; unfold rrunM; rw [if_pos hlt, if_neg (by rw [hb]; simp)]
            clear hd
            generalize rdoM (gi code r.pc.toNat).1 (gi code r.pc.toNat).2 r = r2 at hk hR2 ⊢
            have hst : R = r2 := hR2
            have k0 := hk.fr0
            have k1 := hk.fr1
            rw [hst]
            cases dB : r2.bad
            · have hU : undoR s r2 = r2 := by unfold undoR; rw [if_neg (by rw [dB]; simp)]
              rw [hU]
              simp (maxSteps:=2000000) (disch:=omega) only [go_sem,Nat.reduceAdd,Nat.reduceSub,Nat.reduceMul,Nat.reduceBEq,Nat.reduceEqDiff,Nat.reduceLT,Nat.reduceLeDiff,Nat.reduceDiv,reduceIte,reduceCtorEq, dB]
              -- REST r2 | r2.st | r2.won | 0
              refine zc ?_;try exact trivial
              cases dw : decide ((0 : Int) ≤ r2.won)
              · simp (maxSteps:=2000000) (disch:=omega) only [go_sem,Nat.reduceAdd,Nat.reduceSub,Nat.reduceMul,Nat.reduceBEq,Nat.reduceEqDiff,Nat.reduceLT,Nat.reduceLeDiff,Nat.reduceDiv,reduceIte,reduceCtorEq, dw]
                refine a_quiet (by kernel_rfl) (by kernel_rfl) (by kernel_rfl) ?_
                cases dc : decide (r2.st.frame + 1 = cap)
                · simp (maxSteps:=2000000) (disch:=omega) only [go_sem,Nat.reduceAdd,Nat.reduceSub,Nat.reduceMul,Nat.reduceBEq,Nat.reduceEqDiff,Nat.reduceLT,Nat.reduceLeDiff,Nat.reduceDiv,reduceIte,reduceCtorEq, dc]
                  have e : refE cap r2 = (r2.st.wFrame (r2.st.frame + 1)) := by unfold refE; rw [if_neg (of_decide_eq_false dw), if_neg (of_decide_eq_false dc)]
                  rw [e]
                  try (refine zc ?_; try exact trivial)
                  all_goals exact leCs_refl _
                simp (maxSteps:=2000000) (disch:=omega) only [go_sem,Nat.reduceAdd,Nat.reduceSub,Nat.reduceMul,Nat.reduceBEq,Nat.reduceEqDiff,Nat.reduceLT,Nat.reduceLeDiff,Nat.reduceDiv,reduceIte,reduceCtorEq, dc]
                refine a_quiet (by kernel_rfl) (by kernel_rfl) (by kernel_rfl) ?_
                refine zs ?_;try exact trivial
                cases de : decide (r2.st.cells.getD 0 0 = r2.st.cells.getD 1 0)
                · simp (maxSteps:=2000000) (disch:=omega) only [go_sem,Nat.reduceAdd,Nat.reduceSub,Nat.reduceMul,Nat.reduceBEq,Nat.reduceEqDiff,Nat.reduceLT,Nat.reduceLeDiff,Nat.reduceDiv,reduceIte,reduceCtorEq, de]
                  refine a_quiet (by kernel_rfl) (by kernel_rfl) (by kernel_rfl) ?_
                  refine zs ?_;try exact trivial
                  cases dl : decide (r2.st.cells.getD 0 0 < r2.st.cells.getD 1 0)
                  · simp (maxSteps:=2000000) (disch:=omega) only [go_sem,Nat.reduceAdd,Nat.reduceSub,Nat.reduceMul,Nat.reduceBEq,Nat.reduceEqDiff,Nat.reduceLT,Nat.reduceLeDiff,Nat.reduceDiv,reduceIte,reduceCtorEq, dl]
                    have e : refE cap r2 = (r2.st.wFrame (r2.st.frame + 1)).wOver true := by unfold refE; rw [if_neg (of_decide_eq_false dw), if_pos (of_decide_eq_true dc), if_neg (show ¬ r2.st.cells.getD 0 0 = r2.st.cells.getD 1 0 from of_decide_eq_false de), if_neg (show ¬ r2.st.cells.getD 0 0 < r2.st.cells.getD 1 0 from of_decide_eq_false dl)]
                    rw [e]
                    try (refine zc ?_; try exact trivial)
                    all_goals exact leCs_refl _
                  simp (maxSteps:=2000000) (disch:=omega) only [go_sem,Nat.reduceAdd,Nat.reduceSub,Nat.reduceMul,Nat.reduceBEq,Nat.reduceEqDiff,Nat.reduceLT,Nat.reduceLeDiff,Nat.reduceDiv,reduceIte,reduceCtorEq, dl]
                  have e : refE cap r2 = ((r2.st.wFrame (r2.st.frame + 1)).wOver true).wWin 1 := by unfold refE; rw [if_neg (of_decide_eq_false dw), if_pos (of_decide_eq_true dc), if_neg (show ¬ r2.st.cells.getD 0 0 = r2.st.cells.getD 1 0 from of_decide_eq_false de), if_pos (show r2.st.cells.getD 0 0 < r2.st.cells.getD 1 0 from of_decide_eq_true dl)]
                  rw [e]
                  try (refine zc ?_; try exact trivial)
                  all_goals exact leCs_refl _
                simp (maxSteps:=2000000) (disch:=omega) only [go_sem,Nat.reduceAdd,Nat.reduceSub,Nat.reduceMul,Nat.reduceBEq,Nat.reduceEqDiff,Nat.reduceLT,Nat.reduceLeDiff,Nat.reduceDiv,reduceIte,reduceCtorEq, de]
                have e : refE cap r2 = ((r2.st.wFrame (r2.st.frame + 1)).wOver true).wWin 2 := by unfold refE; rw [if_neg (of_decide_eq_false dw), if_pos (of_decide_eq_true dc), if_pos (show r2.st.cells.getD 0 0 = r2.st.cells.getD 1 0 from of_decide_eq_true de)]
                rw [e]
                try (refine zc ?_; try exact trivial)
                all_goals exact leCs_refl _
              · simp (maxSteps:=2000000) (disch:=omega) only [go_sem,Nat.reduceAdd,Nat.reduceSub,Nat.reduceMul,Nat.reduceBEq,Nat.reduceEqDiff,Nat.reduceLT,Nat.reduceLeDiff,Nat.reduceDiv,reduceIte,reduceCtorEq, dw]
                have e : refE cap r2 = ((r2.st.wFrame (r2.st.frame + 1)).wOver true).wWin r2.won := by unfold refE; rw [if_pos (of_decide_eq_true dw)]
                rw [e]
                try (refine zc ?_; try exact trivial)
                all_goals exact leCs_refl _
              -- END
            have hU : undoR s r2 = ⟨(r2.st.wAll s).wSeed s.seed, r2.i0, r2.i1, r2.sk, r2.pc, -1, true⟩ := by unfold undoR; rw [if_pos dB, dB]; rfl
            rw [hU]
            simp (maxSteps:=2000000) (disch:=omega) only [go_sem,Nat.reduceAdd,Nat.reduceSub,Nat.reduceMul,Nat.reduceBEq,Nat.reduceEqDiff,Nat.reduceLT,Nat.reduceLeDiff,Nat.reduceDiv,reduceIte,reduceCtorEq, dB]
            refine a_drawC (⟨[U, U, U, V.cell (.ptr (.loc [3]) 0), V.cell (.ptr (.loc [4]) 0), .undef, V.cell (.ptr (.loc [6]) 0), V.int .i64 0, .undef, V.cell (.ptr (.loc [39]) 0), U, U, U, U, U, U, U, U, U, U, U, U, U, U, U, U, U, U, U, U, U, U, U, U, U, U, U, U, U, U, U, U, U, U, U, U, U, U, U, U, U, U, U, U, U, U, U, U, U, U, U, U, U, U, U, U, U, U, U, U, U, U, U, U, U, U, U, U, U, U, U, U, U, U, U, U, U, U, U, U, U, U, U, U, U, U, U, U, U, U, U, U, U, U, U, U, U, U, U, U, U, U, U, U, U, U, U, U, U, U, U, U, U, U, U, U, U, U, U, U, U, U, U, U, U, U, U, U, U, U, U, U, U, U, U, U, U, U, U, U, U, U, U, U, U, U, U, U, U, U, U, U, U, U, U, U, U, U, U, U, U, .undef], [(.loc [39], rB (.loc [39]) ⟨(r2.st.wAll s).wSeed s.seed, r2.i0, r2.i1, r2.sk, r2.pc, -1, true⟩), (.loc [6], (sd (stz 0 0)).map D.toC), (.loc [4], (sd s).map D.toC), (.loc [3], [.lst .no none 2 (ins code), .val (.int .i64 cap), .val (.int .i64 fuel)])]⟩) (.take 0 (.take 1 (.take 2 (.take 3 (.take 5 (.both [(4, .take 7 (.take 8 (.take 9 (.both [(6, .both [(10, .take 11 (.take 12 (.take 13 (.both [(14, .take 15 (.take 16 (.both [(17, .done)])))]))))]), (10, .both [(6, .take 11 (.take 12 (.take 13 (.both [(14, .take 15 (.take 16 (.both [(17, .done)])))]))))])])))), (6, .both [(4, .take 7 (.take 8 (.take 9 (.both [(10, .take 11 (.take 12 (.take 13 (.both [(14, .take 15 (.take 16 (.both [(17, .done)])))]))))]))))])])))))) (by kernel_rfl) (by kernel_rfl) ?_ ?_
            · refine zc ?_;try exact trivial
              all_goals exact rm_le ⟨rfl, rfl, rfl, leC_refl _, rfl, rfl, by first | rfl | exact dB.symm⟩
            have k0 : 0 ≤ ((r2.st.wAll s).wSeed s.seed).frame := k0
            have k1 : ((r2.st.wAll s).wSeed s.seed).frame ≤ 600 := k1
            generalize (r2.st.wAll s).wSeed s.seed = st at k0 k1 ⊢
            -- REST ⟨st, r2.i0, r2.i1, r2.sk, r2.pc, -1, true⟩ | st | (-1) | 1
            refine zc ?_;try exact trivial
            refine a_quiet (by kernel_rfl) (by kernel_rfl) (by kernel_rfl) ?_
            cases dc : decide (st.frame + 1 = cap)
            · simp (maxSteps:=2000000) (disch:=omega) only [go_sem,Nat.reduceAdd,Nat.reduceSub,Nat.reduceMul,Nat.reduceBEq,Nat.reduceEqDiff,Nat.reduceLT,Nat.reduceLeDiff,Nat.reduceDiv,reduceIte,reduceCtorEq, dc]
              have e : refE cap ⟨st, r2.i0, r2.i1, r2.sk, r2.pc, -1, true⟩ = (st.wFrame (st.frame + 1)) := by unfold refE; rw [if_neg (show ¬ (0 : Int) ≤ -1 by omega), if_neg (of_decide_eq_false dc)]
              rw [e]
              try (refine zc ?_; try exact trivial)
              all_goals exact leCs_refl _
            · simp (maxSteps:=2000000) (disch:=omega) only [go_sem,Nat.reduceAdd,Nat.reduceSub,Nat.reduceMul,Nat.reduceBEq,Nat.reduceEqDiff,Nat.reduceLT,Nat.reduceLeDiff,Nat.reduceDiv,reduceIte,reduceCtorEq, dc]
              refine a_quiet (by kernel_rfl) (by kernel_rfl) (by kernel_rfl) ?_
              refine zs ?_;try exact trivial
              cases de : decide (st.cells.getD 0 0 = st.cells.getD 1 0)
              · simp (maxSteps:=2000000) (disch:=omega) only [go_sem,Nat.reduceAdd,Nat.reduceSub,Nat.reduceMul,Nat.reduceBEq,Nat.reduceEqDiff,Nat.reduceLT,Nat.reduceLeDiff,Nat.reduceDiv,reduceIte,reduceCtorEq, de]
                refine a_quiet (by kernel_rfl) (by kernel_rfl) (by kernel_rfl) ?_
                refine zs ?_;try exact trivial
                cases dl : decide (st.cells.getD 0 0 < st.cells.getD 1 0)
                · simp (maxSteps:=2000000) (disch:=omega) only [go_sem,Nat.reduceAdd,Nat.reduceSub,Nat.reduceMul,Nat.reduceBEq,Nat.reduceEqDiff,Nat.reduceLT,Nat.reduceLeDiff,Nat.reduceDiv,reduceIte,reduceCtorEq, dl]
                  have e : refE cap ⟨st, r2.i0, r2.i1, r2.sk, r2.pc, -1, true⟩ = (st.wFrame (st.frame + 1)).wOver true := by unfold refE; rw [if_neg (show ¬ (0 : Int) ≤ -1 by omega), if_pos (of_decide_eq_true dc), if_neg (show ¬ st.cells.getD 0 0 = st.cells.getD 1 0 from of_decide_eq_false de), if_neg (show ¬ st.cells.getD 0 0 < st.cells.getD 1 0 from of_decide_eq_false dl)]
                  rw [e]
                  try (refine zc ?_; try exact trivial)
                  all_goals exact leCs_refl _
                simp (maxSteps:=2000000) (disch:=omega) only [go_sem,Nat.reduceAdd,Nat.reduceSub,Nat.reduceMul,Nat.reduceBEq,Nat.reduceEqDiff,Nat.reduceLT,Nat.reduceLeDiff,Nat.reduceDiv,reduceIte,reduceCtorEq, dl]
                have e : refE cap ⟨st, r2.i0, r2.i1, r2.sk, r2.pc, -1, true⟩ = ((st.wFrame (st.frame + 1)).wOver true).wWin 1 := by unfold refE; rw [if_neg (show ¬ (0 : Int) ≤ -1 by omega), if_pos (of_decide_eq_true dc), if_neg (show ¬ st.cells.getD 0 0 = st.cells.getD 1 0 from of_decide_eq_false de), if_pos (show st.cells.getD 0 0 < st.cells.getD 1 0 from of_decide_eq_true dl)]
                rw [e]
                try (refine zc ?_; try exact trivial)
                all_goals exact leCs_refl _
              simp (maxSteps:=2000000) (disch:=omega) only [go_sem,Nat.reduceAdd,Nat.reduceSub,Nat.reduceMul,Nat.reduceBEq,Nat.reduceEqDiff,Nat.reduceLT,Nat.reduceLeDiff,Nat.reduceDiv,reduceIte,reduceCtorEq, de]
              have e : refE cap ⟨st, r2.i0, r2.i1, r2.sk, r2.pc, -1, true⟩ = ((st.wFrame (st.frame + 1)).wOver true).wWin 2 := by unfold refE; rw [if_neg (show ¬ (0 : Int) ≤ -1 by omega), if_pos (of_decide_eq_true dc), if_pos (show st.cells.getD 0 0 = st.cells.getD 1 0 from of_decide_eq_true de)]
              rw [e]
              try (refine zc ?_; try exact trivial)
              all_goals exact leCs_refl _
            -- END
          simp (maxSteps:=2000000) (disch:=omega) only [go_sem,Nat.reduceAdd,Nat.reduceSub,Nat.reduceMul,Nat.reduceBEq,Nat.reduceEqDiff,Nat.reduceLT,Nat.reduceLeDiff,Nat.reduceDiv,reduceIte,reduceCtorEq, hb, Bool.not_true]
          refine ⟨(f, rdoM (gi code r.pc.toNat).1 (gi code r.pc.toNat).2 r), by simp, ⟨by simp; omega, hk, ?_, ?_⟩, rfl, leCs_refl _⟩
          · unfold rdoB at hb
            split at hb
            · cases hb
            unfold goB at hb
            simpa using (Bool.and_eq_true_iff.1 hb).1
          show rrunM code f _ = R
          rw [← h4]
          exact ((if_pos hlt).trans (if_pos hb)).symm
        have e : stepP code cap fuel s i0 i1 = (stz 0 0, 12) := by unfold stepP; rw [if_neg (by rw [hg]; simp), if_neg (by rintro (h | h); rw [hi] at h; cases h; exact hz' h), if_pos (.inr (of_decide_eq_true hf))]
        rw [e]
        simp (maxSteps:=2000000) (disch:=omega) only [go_sem,Nat.reduceAdd,Nat.reduceSub,Nat.reduceMul,Nat.reduceBEq,Nat.reduceEqDiff,Nat.reduceLT,Nat.reduceLeDiff,Nat.reduceDiv,reduceIte,reduceCtorEq, hf]
        all_goals exact leCs_refl _
      have e : stepP code cap fuel s i0 i1 = (stz 0 0, 12) := by unfold stepP; rw [if_neg (by rw [hg]; simp), if_neg (by rintro (h | h); rw [hi] at h; cases h; exact hz' h), if_pos (.inl ho)]
      rw [e]
      simp (maxSteps:=2000000) (disch:=omega) only [go_sem,Nat.reduceAdd,Nat.reduceSub,Nat.reduceMul,Nat.reduceBEq,Nat.reduceEqDiff,Nat.reduceLT,Nat.reduceLeDiff,Nat.reduceDiv,reduceIte,reduceCtorEq, ho]
      all_goals exact leCs_refl _
    have e : stepP code cap fuel s i0 i1 = (stz 0 0, 1) := by unfold stepP; rw [if_neg (by rw [hg]; simp), if_pos (.inr (of_decide_eq_true hz))]
    rw [e]
    simp (maxSteps:=2000000) (disch:=omega) only [go_sem,Nat.reduceAdd,Nat.reduceSub,Nat.reduceMul,Nat.reduceBEq,Nat.reduceEqDiff,Nat.reduceLT,Nat.reduceLeDiff,Nat.reduceDiv,reduceIte,reduceCtorEq, hz]
    all_goals exact leCs_refl _
  have e : stepP code cap fuel s i0 i1 = (stz 0 0, gameP code cap fuel) := by unfold stepP; rw [if_pos hg]
  rw [e]
  have dg : decide (gameP code cap fuel = 0) = false := decide_eq_false hg
  simp (maxSteps:=2000000) (disch:=omega) only [go_sem,Nat.reduceAdd,Nat.reduceSub,Nat.reduceMul,Nat.reduceBEq,Nat.reduceEqDiff,Nat.reduceLT,Nat.reduceLeDiff,Nat.reduceDiv,reduceIte,reduceCtorEq, dg, Bool.not_false, decide_not]
end
end Go.Proofs.YtgeelaafmnedmaaGreat
