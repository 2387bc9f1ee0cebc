/- Parts of a proof: Chapter 18, the other one: may an event be? (written by gen18t.py), Chapter 18, the other one: an event is taken. (written by gen18u.py), Chapter 18: any event, right or not. (written by gen18s.py), Chapter 18, the other one: any event is taken or not; who is waited for; what a player did. (written by gen18v.py), The logic: guards in regions that draw are not looked into before they are known, Chapter 18, the other one: who is waited for, Chapter 18: acts as events; statuses and rows of events compared. (written by gen18x.py), Chapter 18: rows of acts, From the logic to the rows of the laws: acts, games, From the logic to the rows of the laws: rows of events, Chapter 21, plain: the match over events but results; what is replayed of a match's own events, Chapter 18: statuses and rows of events compared. (written by gen18x.py), Chapter 21 in the logic: the match over events but results, in both, Chapter 4 in the logic: numbers as bytes, the sum, Chapter 13 in the logic: numbers of both signs as bytes, Chapter 1 in the logic: the document's numbers of both signs, Chapter 13 in the logic: a state as bytes, SHA-256 as plain functions of words and bytes. -/
import Derived.Test.YtgeelaafmnedmaaGreatMJ5
import Derived.Test.YtgeelaafmnedmaaGreatMJ2
import Derived.Test.YtgeelaafmnedmaaGreatMJ3
set_option linter.unusedSimpArgs false
set_option linter.unusedVariables false
open Go Go.RowKit
namespace Go.Proofs.YtgeelaafmnedmaaGreat
section
theorem rresult_h (s : Sta) (cap fuel : Int) (l : List (Int × Int)) : Holds Tryz.prog 33 [.agg ((sd s).map D.toC), .agg [.lst .no none 2 (ins l), .val (.int .i64 cap), .val (.int .i64 fuel)]] [] (fun r h' => r = .tup [.int .i64 (resP s cap).1, .int .i64 (resP s cap).2.1, .c (.val (.bool (resP s cap).2.2))] ∧ h' = []) := by
  refine holds_of_awp Tryz.func33 rfl (by decide +kernel) mixed Tryz.ntmps33 Tryz.results33 ?_
  refine zE ?_
  refine zs ?_;try exact trivial
  refine c_b (fun d => ?_) (fun d => ?_)
  · have d' : s.over = false := by simpa using d
    have e : resP s cap = (0, 0, false) := by unfold resP; rw [if_pos d']
    rw [e]
    refine zs ?_;try exact trivial
  have d' : s.over = true := by simpa using d
  refine zs ?_;try exact trivial
  refine c_dec (fun w => ?_) (fun w => ?_)
  · refine zs ?_;try exact trivial
    refine c_dec (fun f => ?_) (fun f => ?_)
    · have e : resP s cap = (0, 2, true) := by unfold resP; rw [if_neg (by simp [d']), if_pos w, if_pos f]
      rw [e]
      refine zs ?_;try exact trivial
    have e : resP s cap = (0, 1, true) := by unfold resP; rw [if_neg (by simp [d']), if_pos w, if_neg f]
    rw [e]
    refine zs ?_;try exact trivial
  refine zs ?_;try exact trivial
  refine c_dec (fun f => ?_) (fun f => ?_)
  · have e : resP s cap = (s.win, 2, true) := by unfold resP; rw [if_neg (by simp [d']), if_neg w, if_pos f]
    rw [e]
    refine zs ?_;try exact trivial
  have e : resP s cap = (s.win, 1, true) := by unfold resP; rw [if_neg (by simp [d']), if_neg w, if_neg f]
  rw [e]
  refine zs ?_;try exact trivial
theorem res_win {s : Sta} {cap : Int} (h : 0 ≤ s.win ∧ s.win ≤ 2) : (resP s cap).1 = 0 ∨ (resP s cap).1 = 1 := by
  unfold resP
  split
  · exact .inl rfl
  show (if s.win = 2 then 0 else s.win) = 0 ∨ (if s.win = 2 then 0 else s.win) = 1
  split <;> omega

set_option maxRecDepth 20000 in
set_option maxHeartbeats 16000000 in
theorem rmay1_h (c : Ct) (player other frame n : Int) (inp : UInt16) (h : Inv18 c) (hl : c.events.length ≤ 100000) : Holds Tryz.prog 14 [.ptr (.arg 0) 0, .ev ⟨1, player, other, frame, inp, n⟩] [(.arg 0, rfB (.arg 0) c)] (fun r h' => r = .int .i64 (mayP18 c ⟨1, player, other, frame, inp, n⟩) ∧ h' = [(.arg 0, rfB (.arg 0) c)]) := by
  have hf := rform_h ⟨1, player, other, frame, inp, n⟩
  have ef : formB ⟨1, player, other, frame, inp, n⟩ = bareB ⟨1, player, other, frame, inp, n⟩ := by unfold formB; rw [if_neg (by simp only; omega)]
  rw [ef] at hf
  have em : mayP18 c ⟨1, player, other, frame, inp, n⟩ = if bareB ⟨1, player, other, frame, inp, n⟩ = true then mayOpenP c ⟨1, player, other, frame, inp, n⟩ else 3 := by unfold mayP18; rw [if_neg (by simp only; omega)]; rfl
  rw [em]
  clear em ef
  generalize bareB ⟨1, player, other, frame, inp, n⟩ = bb at hf ⊢
  have l0 := h.e0
  have l1 := h.e1
  refine holds_of_awp Tryz.func14 rfl (by decide +kernel) mixed Tryz.ntmps14 Tryz.results14 ?_
  refine zE ?_
  refine zc ?_;try exact trivial
  refine a_call [] (hf) ok0 ?_ ?_ ?_
  · refine zs ?_;try exact trivial
  · refine zs ?_;try exact trivial
  rintro _ _ ⟨rfl, rfl⟩
  cases bb
  · rw [if_neg (by simp)]
    refine zc ?_;try exact trivial
    all_goals first | exact leCs_refl _ | exact rf_le ⟨leC_refl _, rfl, rfl, leC_refl _, leC_refl _, leC_refl _, rfl, rfl, rfl, rfl, rfl, by first | rfl | assumption, by first | rfl | assumption, rfl, rfl⟩ | trace_state
  rw [if_pos rfl]
  refine zc ?_;try exact trivial
  cases o : c.opn
  · simp (maxSteps:=2000000) (disch:=omega) only [go_sem,Nat.reduceAdd,Nat.reduceSub,Nat.reduceMul,Nat.reduceBEq,Nat.reduceEqDiff,Nat.reduceLT,Nat.reduceLeDiff,Nat.reduceDiv,reduceIte,reduceCtorEq, o]
    cases d1 : decide (player < 1)
    · skip
      cases d2 : decide (other < 1)
      · skip
        cases d3 : decide (player = other)
        · skip
          cases d4 : decide (n < 0)
          · skip
            cases d5 : decide (4294967295 < n)
            · skip
              have e : mayOpenP c ⟨1, player, other, frame, inp, n⟩ = 0 := by unfold mayOpenP; rw [if_neg (by rw [o]; simp), if_neg (by simp only; have f1 := of_decide_eq_false d1; have f2 := of_decide_eq_false d2; have f3 := of_decide_eq_false d3; have f4 := of_decide_eq_false d4; have f5 := of_decide_eq_false d5; omega)]
              rw [e]
              simp (maxSteps:=2000000) (disch:=omega) only [go_sem,Nat.reduceAdd,Nat.reduceSub,Nat.reduceMul,Nat.reduceBEq,Nat.reduceEqDiff,Nat.reduceLT,Nat.reduceLeDiff,Nat.reduceDiv,reduceIte,reduceCtorEq, d1, d2, d3, d4, d5]
              all_goals first | exact leCs_refl _ | exact rf_le ⟨leC_refl _, rfl, rfl, leC_refl _, leC_refl _, leC_refl _, rfl, rfl, rfl, rfl, rfl, by first | rfl | assumption, by first | rfl | assumption, rfl, rfl⟩ | trace_state
            have e : mayOpenP c ⟨1, player, other, frame, inp, n⟩ = 1 := by unfold mayOpenP; rw [if_neg (by rw [o]; simp), if_pos (by simp only; have f := of_decide_eq_true d5; omega)]
            rw [e]
            simp (maxSteps:=2000000) (disch:=omega) only [go_sem,Nat.reduceAdd,Nat.reduceSub,Nat.reduceMul,Nat.reduceBEq,Nat.reduceEqDiff,Nat.reduceLT,Nat.reduceLeDiff,Nat.reduceDiv,reduceIte,reduceCtorEq, d1, d2, d3, d4, d5]
            all_goals first | exact leCs_refl _ | exact rf_le ⟨leC_refl _, rfl, rfl, leC_refl _, leC_refl _, leC_refl _, rfl, rfl, rfl, rfl, rfl, by first | rfl | assumption, by first | rfl | assumption, rfl, rfl⟩ | trace_state
          have e : mayOpenP c ⟨1, player, other, frame, inp, n⟩ = 1 := by unfold mayOpenP; rw [if_neg (by rw [o]; simp), if_pos (by simp only; have f := of_decide_eq_true d4; omega)]
          rw [e]
          simp (maxSteps:=2000000) (disch:=omega) only [go_sem,Nat.reduceAdd,Nat.reduceSub,Nat.reduceMul,Nat.reduceBEq,Nat.reduceEqDiff,Nat.reduceLT,Nat.reduceLeDiff,Nat.reduceDiv,reduceIte,reduceCtorEq, d1, d2, d3, d4]
          all_goals first | exact leCs_refl _ | exact rf_le ⟨leC_refl _, rfl, rfl, leC_refl _, leC_refl _, leC_refl _, rfl, rfl, rfl, rfl, rfl, by first | rfl | assumption, by first | rfl | assumption, rfl, rfl⟩ | trace_state
        have e : mayOpenP c ⟨1, player, other, frame, inp, n⟩ = 1 := by unfold mayOpenP; rw [if_neg (by rw [o]; simp), if_pos (by simp only; have f := of_decide_eq_true d3; omega)]
        rw [e]
        simp (maxSteps:=2000000) (disch:=omega) only [go_sem,Nat.reduceAdd,Nat.reduceSub,Nat.reduceMul,Nat.reduceBEq,Nat.reduceEqDiff,Nat.reduceLT,Nat.reduceLeDiff,Nat.reduceDiv,reduceIte,reduceCtorEq, d1, d2, d3]
        all_goals first | exact leCs_refl _ | exact rf_le ⟨leC_refl _, rfl, rfl, leC_refl _, leC_refl _, leC_refl _, rfl, rfl, rfl, rfl, rfl, by first | rfl | assumption, by first | rfl | assumption, rfl, rfl⟩ | trace_state
      have e : mayOpenP c ⟨1, player, other, frame, inp, n⟩ = 1 := by unfold mayOpenP; rw [if_neg (by rw [o]; simp), if_pos (by simp only; have f := of_decide_eq_true d2; omega)]
      rw [e]
      simp (maxSteps:=2000000) (disch:=omega) only [go_sem,Nat.reduceAdd,Nat.reduceSub,Nat.reduceMul,Nat.reduceBEq,Nat.reduceEqDiff,Nat.reduceLT,Nat.reduceLeDiff,Nat.reduceDiv,reduceIte,reduceCtorEq, d1, d2]
      all_goals first | exact leCs_refl _ | exact rf_le ⟨leC_refl _, rfl, rfl, leC_refl _, leC_refl _, leC_refl _, rfl, rfl, rfl, rfl, rfl, by first | rfl | assumption, by first | rfl | assumption, rfl, rfl⟩ | trace_state
    have e : mayOpenP c ⟨1, player, other, frame, inp, n⟩ = 1 := by unfold mayOpenP; rw [if_neg (by rw [o]; simp), if_pos (by simp only; have f := of_decide_eq_true d1; omega)]
    rw [e]
    simp (maxSteps:=2000000) (disch:=omega) only [go_sem,Nat.reduceAdd,Nat.reduceSub,Nat.reduceMul,Nat.reduceBEq,Nat.reduceEqDiff,Nat.reduceLT,Nat.reduceLeDiff,Nat.reduceDiv,reduceIte,reduceCtorEq, d1]
    all_goals first | exact leCs_refl _ | exact rf_le ⟨leC_refl _, rfl, rfl, leC_refl _, leC_refl _, leC_refl _, rfl, rfl, rfl, rfl, rfl, by first | rfl | assumption, by first | rfl | assumption, rfl, rfl⟩ | trace_state
  have e : mayOpenP c ⟨1, player, other, frame, inp, n⟩ = 15 := by unfold mayOpenP; rw [if_pos o]
  rw [e]
  simp (maxSteps:=2000000) (disch:=omega) only [go_sem,Nat.reduceAdd,Nat.reduceSub,Nat.reduceMul,Nat.reduceBEq,Nat.reduceEqDiff,Nat.reduceLT,Nat.reduceLeDiff,Nat.reduceDiv,reduceIte,reduceCtorEq, o]
  all_goals first | exact leCs_refl _ | exact rf_le ⟨leC_refl _, rfl, rfl, leC_refl _, leC_refl _, leC_refl _, rfl, rfl, rfl, rfl, rfl, by first | rfl | assumption, by first | rfl | assumption, rfl, rfl⟩ | trace_state
set_option maxRecDepth 20000 in
set_option maxHeartbeats 16000000 in
theorem rmay2_h (c : Ct) (player other frame n : Int) (inp : UInt16) (h : Inv18 c) (hl : c.events.length ≤ 100000) : Holds Tryz.prog 14 [.ptr (.arg 0) 0, .ev ⟨2, player, other, frame, inp, n⟩] [(.arg 0, rfB (.arg 0) c)] (fun r h' => r = .int .i64 (mayP18 c ⟨2, player, other, frame, inp, n⟩) ∧ h' = [(.arg 0, rfB (.arg 0) c)]) := by
  have hf := rform_h ⟨2, player, other, frame, inp, n⟩
  have ef : formB ⟨2, player, other, frame, inp, n⟩ = bareB ⟨2, player, other, frame, inp, n⟩ := by unfold formB; rw [if_neg (by simp only; omega)]
  rw [ef] at hf
  have em : mayP18 c ⟨2, player, other, frame, inp, n⟩ = if bareB ⟨2, player, other, frame, inp, n⟩ = true then mayJoinP c ⟨2, player, other, frame, inp, n⟩ else 3 := by unfold mayP18; rw [if_neg (by simp only; omega)]; rfl
  rw [em]
  clear em ef
  generalize bareB ⟨2, player, other, frame, inp, n⟩ = bb at hf ⊢
  have hs := rst_h c h hl
  have l0 := h.e0
  have l1 := h.e1
  refine holds_of_awp Tryz.func14 rfl (by decide +kernel) mixed Tryz.ntmps14 Tryz.results14 ?_
  refine zE ?_
  refine zc ?_;try exact trivial
  refine a_call [] (hf) ok0 ?_ ?_ ?_
  · refine zs ?_;try exact trivial
  · refine zs ?_;try exact trivial
  rintro _ _ ⟨rfl, rfl⟩
  cases bb
  · rw [if_neg (by simp)]
    refine zc ?_;try exact trivial
    all_goals first | exact leCs_refl _ | exact rf_le ⟨leC_refl _, rfl, rfl, leC_refl _, leC_refl _, leC_refl _, rfl, rfl, rfl, rfl, rfl, by first | rfl | assumption, by first | rfl | assumption, rfl, rfl⟩ | trace_state
  rw [if_pos rfl]
  refine zc ?_;try exact trivial
  cases o : c.opn
  · have ha : actP c player = 15 := by unfold actP; rw [if_pos o]
    have e : mayJoinP c ⟨2, player, other, frame, inp, n⟩ = 15 := by unfold mayJoinP; rw [if_pos (by simp only; omega)]; exact ha
    rw [e]
    simp (maxSteps:=2000000) (disch:=omega) only [go_sem,Nat.reduceAdd,Nat.reduceSub,Nat.reduceMul,Nat.reduceBEq,Nat.reduceEqDiff,Nat.reduceLT,Nat.reduceLeDiff,Nat.reduceDiv,reduceIte,reduceCtorEq, o, Bool.not_false]
    all_goals first | exact leCs_refl _ | exact rf_le ⟨leC_refl _, rfl, rfl, leC_refl _, leC_refl _, leC_refl _, rfl, rfl, rfl, rfl, rfl, by first | rfl | assumption, by first | rfl | assumption, rfl, rfl⟩ | trace_state
  have dn : (!c.opn) = false := by rw [o]; rfl
  simp (maxSteps:=2000000) (disch:=omega) only [go_sem,Nat.reduceAdd,Nat.reduceSub,Nat.reduceMul,Nat.reduceBEq,Nat.reduceEqDiff,Nat.reduceLT,Nat.reduceLeDiff,Nat.reduceDiv,reduceIte,reduceCtorEq, dn]
  refine a_call [.arg 0] hs (ok1 rfl) ?_ ?_ ?_
  · refine zs ?_;try exact trivial
  · refine zs ?_;try exact trivial
    all_goals exact rfX
  rintro _ _ ⟨rfl, rfl⟩
  refine zc ?_;try exact trivial
  cases cov : (c.over || c.st.over)
  · have c1 : c.over = false := by cases q : c.over <;> simp_all
    have c2 : c.st.over = false := by cases q : c.st.over <;> simp_all
    simp (maxSteps:=2000000) (disch:=omega) only [go_sem,Nat.reduceAdd,Nat.reduceSub,Nat.reduceMul,Nat.reduceBEq,Nat.reduceEqDiff,Nat.reduceLT,Nat.reduceLeDiff,Nat.reduceDiv,reduceIte,reduceCtorEq, c1, c2]
    have hq := rseat_h c player
    have eq : seatR c player = seatP c player := by unfold seatR; rw [if_pos o]
    rw [eq] at hq
    refine a_call [.arg 0] hq (ok1 rfl) ?_ ?_ ?_
    · refine zs ?_;try exact trivial
    · refine zs ?_;try exact trivial
      all_goals exact rfX
    rintro _ _ ⟨rfl, rfl⟩
    by_cases hneg : seatP c player < 0
    · have ha : actP c player = 14 := by unfold actP; rw [if_neg (by rw [o]; simp), if_neg (by rw [cov]; simp), if_pos hneg]
      have e : mayJoinP c ⟨2, player, other, frame, inp, n⟩ = 14 := by unfold mayJoinP; rw [if_pos (by simp only; omega)]; exact ha
      have dneg : decide (seatP c player < 0) = true := decide_eq_true hneg
      rw [e]
      simp (maxSteps:=2000000) (disch:=omega) only [go_sem,Nat.reduceAdd,Nat.reduceSub,Nat.reduceMul,Nat.reduceBEq,Nat.reduceEqDiff,Nat.reduceLT,Nat.reduceLeDiff,Nat.reduceDiv,reduceIte,reduceCtorEq, dneg]
      all_goals first | exact leCs_refl _ | exact rf_le ⟨leC_refl _, rfl, rfl, leC_refl _, leC_refl _, leC_refl _, rfl, rfl, rfl, rfl, rfl, by first | rfl | assumption, by first | rfl | assumption, rfl, rfl⟩ | trace_state
    have ha : actP c player = 0 := by unfold actP; rw [if_neg (by rw [o]; simp), if_neg (by rw [cov]; simp), if_neg hneg]
    clear hf hs hq eq
    rcases seat_cases c player (by omega) with q | q
    · rw [q]
      have em : mayJoinP c ⟨2, player, other, frame, inp, n⟩ = if 100 ≤ c.l0 then 17 else 0 := by unfold mayJoinP; simp only; rw [if_neg (by rw [ha]; simp), if_pos q]
      rw [em]
      refine zc ?_;try exact trivial
      cases dl : decide (100 ≤ c.l0)
      · rw [if_neg (of_decide_eq_false dl)]
        simp (maxSteps:=2000000) (disch:=omega) only [go_sem,Nat.reduceAdd,Nat.reduceSub,Nat.reduceMul,Nat.reduceBEq,Nat.reduceEqDiff,Nat.reduceLT,Nat.reduceLeDiff,Nat.reduceDiv,reduceIte,reduceCtorEq, dl, Int.reduceEq, decide_false, decide_true, Bool.not_true, Bool.not_false, not_false_eq_true, not_true_eq_false, ne_eq]
        all_goals first | exact leCs_refl _ | exact rf_le ⟨leC_refl _, rfl, rfl, leC_refl _, leC_refl _, leC_refl _, rfl, rfl, rfl, rfl, rfl, by first | rfl | assumption, by first | rfl | assumption, rfl, rfl⟩ | trace_state
      rw [if_pos (of_decide_eq_true dl)]
      simp (maxSteps:=2000000) (disch:=omega) only [go_sem,Nat.reduceAdd,Nat.reduceSub,Nat.reduceMul,Nat.reduceBEq,Nat.reduceEqDiff,Nat.reduceLT,Nat.reduceLeDiff,Nat.reduceDiv,reduceIte,reduceCtorEq, dl]
      all_goals first | exact leCs_refl _ | exact rf_le ⟨leC_refl _, rfl, rfl, leC_refl _, leC_refl _, leC_refl _, rfl, rfl, rfl, rfl, rfl, by first | rfl | assumption, by first | rfl | assumption, rfl, rfl⟩ | trace_state
    rw [q]
    have em : mayJoinP c ⟨2, player, other, frame, inp, n⟩ = if 100 ≤ c.l1 then 17 else 0 := by unfold mayJoinP; simp only; rw [if_neg (by rw [ha]; simp), if_neg (show ¬ seatP c player = 0 by omega)]
    rw [em]
    refine zc ?_;try exact trivial
    cases dl : decide (100 ≤ c.l1)
    · rw [if_neg (of_decide_eq_false dl)]
      simp (maxSteps:=2000000) (disch:=omega) only [go_sem,Nat.reduceAdd,Nat.reduceSub,Nat.reduceMul,Nat.reduceBEq,Nat.reduceEqDiff,Nat.reduceLT,Nat.reduceLeDiff,Nat.reduceDiv,reduceIte,reduceCtorEq, dl, Int.reduceEq, decide_false, decide_true, Bool.not_true, Bool.not_false, not_false_eq_true, not_true_eq_false, ne_eq]
      all_goals first | exact leCs_refl _ | exact rf_le ⟨leC_refl _, rfl, rfl, leC_refl _, leC_refl _, leC_refl _, rfl, rfl, rfl, rfl, rfl, by first | rfl | assumption, by first | rfl | assumption, rfl, rfl⟩ | trace_state
    rw [if_pos (of_decide_eq_true dl)]
    simp (maxSteps:=2000000) (disch:=omega) only [go_sem,Nat.reduceAdd,Nat.reduceSub,Nat.reduceMul,Nat.reduceBEq,Nat.reduceEqDiff,Nat.reduceLT,Nat.reduceLeDiff,Nat.reduceDiv,reduceIte,reduceCtorEq, dl]
    all_goals first | exact leCs_refl _ | exact rf_le ⟨leC_refl _, rfl, rfl, leC_refl _, leC_refl _, leC_refl _, rfl, rfl, rfl, rfl, rfl, by first | rfl | assumption, by first | rfl | assumption, rfl, rfl⟩ | trace_state
  have ha : actP c player = 12 := by unfold actP; rw [if_neg (by rw [o]; simp), if_pos cov]
  have e : mayJoinP c ⟨2, player, other, frame, inp, n⟩ = 12 := by unfold mayJoinP; rw [if_pos (by simp only; omega)]; exact ha
  rw [e]
  cases c1 : c.over
  · have c2 : c.st.over = true := by rw [c1] at cov; simpa using cov
    simp (maxSteps:=2000000) (disch:=omega) only [go_sem,Nat.reduceAdd,Nat.reduceSub,Nat.reduceMul,Nat.reduceBEq,Nat.reduceEqDiff,Nat.reduceLT,Nat.reduceLeDiff,Nat.reduceDiv,reduceIte,reduceCtorEq, c1, c2]
    all_goals first | exact leCs_refl _ | exact rf_le ⟨leC_refl _, rfl, rfl, leC_refl _, leC_refl _, leC_refl _, rfl, rfl, rfl, rfl, rfl, by first | rfl | assumption, by first | rfl | assumption, rfl, rfl⟩ | trace_state
  simp (maxSteps:=2000000) (disch:=omega) only [go_sem,Nat.reduceAdd,Nat.reduceSub,Nat.reduceMul,Nat.reduceBEq,Nat.reduceEqDiff,Nat.reduceLT,Nat.reduceLeDiff,Nat.reduceDiv,reduceIte,reduceCtorEq, c1]
  all_goals first | exact leCs_refl _ | exact rf_le ⟨leC_refl _, rfl, rfl, leC_refl _, leC_refl _, leC_refl _, rfl, rfl, rfl, rfl, rfl, by first | rfl | assumption, by first | rfl | assumption, rfl, rfl⟩ | trace_state
set_option maxRecDepth 20000 in
set_option maxHeartbeats 16000000 in
theorem rmay3_h (c : Ct) (player other frame n : Int) (inp : UInt16) (h : Inv18 c) (hl : c.events.length ≤ 100000) : Holds Tryz.prog 14 [.ptr (.arg 0) 0, .ev ⟨3, player, other, frame, inp, n⟩] [(.arg 0, rfB (.arg 0) c)] (fun r h' => r = .int .i64 (mayP18 c ⟨3, player, other, frame, inp, n⟩) ∧ h' = [(.arg 0, rfB (.arg 0) c)]) := by
  have hf := rform_h ⟨3, player, other, frame, inp, n⟩
  have ef : formB ⟨3, player, other, frame, inp, n⟩ = bareB ⟨3, player, other, frame, inp, n⟩ := by unfold formB; rw [if_neg (by simp only; omega)]
  rw [ef] at hf
  have em : mayP18 c ⟨3, player, other, frame, inp, n⟩ = if bareB ⟨3, player, other, frame, inp, n⟩ = true then mayInputP c ⟨3, player, other, frame, inp, n⟩ else 3 := by unfold mayP18; rw [if_neg (by simp only; omega)]; rfl
  rw [em]
  clear em ef
  generalize bareB ⟨3, player, other, frame, inp, n⟩ = bb at hf ⊢
  have hs := rst_h c h hl
  have l0 := h.e0
  have l1 := h.e1
  refine holds_of_awp Tryz.func14 rfl (by decide +kernel) mixed Tryz.ntmps14 Tryz.results14 ?_
  refine zE ?_
  refine zc ?_;try exact trivial
  refine a_call [] (hf) ok0 ?_ ?_ ?_
  · refine zs ?_;try exact trivial
  · refine zs ?_;try exact trivial
  rintro _ _ ⟨rfl, rfl⟩
  cases bb
  · rw [if_neg (by simp)]
    refine zc ?_;try exact trivial
    all_goals first | exact leCs_refl _ | exact rf_le ⟨leC_refl _, rfl, rfl, leC_refl _, leC_refl _, leC_refl _, rfl, rfl, rfl, rfl, rfl, by first | rfl | assumption, by first | rfl | assumption, rfl, rfl⟩ | trace_state
  rw [if_pos rfl]
  refine zc ?_;try exact trivial
  cases o : c.opn
  · have ha : actP c player = 15 := by unfold actP; rw [if_pos o]
    have e : mayInputP c ⟨3, player, other, frame, inp, n⟩ = 15 := by unfold mayInputP; rw [if_pos (by simp only; omega)]; exact ha
    rw [e]
    simp (maxSteps:=2000000) (disch:=omega) only [go_sem,Nat.reduceAdd,Nat.reduceSub,Nat.reduceMul,Nat.reduceBEq,Nat.reduceEqDiff,Nat.reduceLT,Nat.reduceLeDiff,Nat.reduceDiv,reduceIte,reduceCtorEq, o, Bool.not_false]
    all_goals first | exact leCs_refl _ | exact rf_le ⟨leC_refl _, rfl, rfl, leC_refl _, leC_refl _, leC_refl _, rfl, rfl, rfl, rfl, rfl, by first | rfl | assumption, by first | rfl | assumption, rfl, rfl⟩ | trace_state
  have dn : (!c.opn) = false := by rw [o]; rfl
  simp (maxSteps:=2000000) (disch:=omega) only [go_sem,Nat.reduceAdd,Nat.reduceSub,Nat.reduceMul,Nat.reduceBEq,Nat.reduceEqDiff,Nat.reduceLT,Nat.reduceLeDiff,Nat.reduceDiv,reduceIte,reduceCtorEq, dn]
  refine a_call [.arg 0] hs (ok1 rfl) ?_ ?_ ?_
  · refine zs ?_;try exact trivial
  · refine zs ?_;try exact trivial
    all_goals exact rfX
  rintro _ _ ⟨rfl, rfl⟩
  refine zc ?_;try exact trivial
  cases cov : (c.over || c.st.over)
  · have c1 : c.over = false := by cases q : c.over <;> simp_all
    have c2 : c.st.over = false := by cases q : c.st.over <;> simp_all
    simp (maxSteps:=2000000) (disch:=omega) only [go_sem,Nat.reduceAdd,Nat.reduceSub,Nat.reduceMul,Nat.reduceBEq,Nat.reduceEqDiff,Nat.reduceLT,Nat.reduceLeDiff,Nat.reduceDiv,reduceIte,reduceCtorEq, c1, c2]
    have hq := rseat_h c player
    have eq : seatR c player = seatP c player := by unfold seatR; rw [if_pos o]
    rw [eq] at hq
    refine a_call [.arg 0] hq (ok1 rfl) ?_ ?_ ?_
    · refine zs ?_;try exact trivial
    · refine zs ?_;try exact trivial
      all_goals exact rfX
    rintro _ _ ⟨rfl, rfl⟩
    by_cases hneg : seatP c player < 0
    · have ha : actP c player = 14 := by unfold actP; rw [if_neg (by rw [o]; simp), if_neg (by rw [cov]; simp), if_pos hneg]
      have e : mayInputP c ⟨3, player, other, frame, inp, n⟩ = 14 := by unfold mayInputP; rw [if_pos (by simp only; omega)]; exact ha
      have dneg : decide (seatP c player < 0) = true := decide_eq_true hneg
      rw [e]
      simp (maxSteps:=2000000) (disch:=omega) only [go_sem,Nat.reduceAdd,Nat.reduceSub,Nat.reduceMul,Nat.reduceBEq,Nat.reduceEqDiff,Nat.reduceLT,Nat.reduceLeDiff,Nat.reduceDiv,reduceIte,reduceCtorEq, dneg]
      all_goals first | exact leCs_refl _ | exact rf_le ⟨leC_refl _, rfl, rfl, leC_refl _, leC_refl _, leC_refl _, rfl, rfl, rfl, rfl, rfl, by first | rfl | assumption, by first | rfl | assumption, rfl, rfl⟩ | trace_state
    have ha : actP c player = 0 := by unfold actP; rw [if_neg (by rw [o]; simp), if_neg (by rw [cov]; simp), if_neg hneg]
    clear hf hs hq eq
    rcases seat_cases c player (by omega) with q | q
    · rw [q]
      have em : mayInputP c ⟨3, player, other, frame, inp, n⟩ = winP c.cap c.in0 c.in1 ⟨3, player, other, frame, inp, n⟩ := by unfold mayInputP; simp only; rw [if_neg (by rw [ha]; simp), if_pos q]
      rw [em]
      refine zc ?_;try exact trivial
      cases d1 : decide (frame < 0)
      · have f1 := of_decide_eq_false d1
        cases d2 : decide (c.cap ≤ frame)
        · have f2 := of_decide_eq_false d2
          refine a_quiet (by kernel_rfl) (by kernel_rfl) (by kernel_rfl) ?_
          simp (maxSteps:=2000000) (disch:=omega) only [go_sem,Nat.reduceAdd,Nat.reduceSub,Nat.reduceMul,Nat.reduceBEq,Nat.reduceEqDiff,Nat.reduceLT,Nat.reduceLeDiff,Nat.reduceDiv,reduceIte,reduceCtorEq, d1, d2]
          refine a_quiet (by kernel_rfl) (by kernel_rfl) (by kernel_rfl) ?_
          cases d3 : decide (frame < (c.in0.length : Int))
          · have f3 := of_decide_eq_false d3
            simp (maxSteps:=2000000) (disch:=omega) only [go_sem,Nat.reduceAdd,Nat.reduceSub,Nat.reduceMul,Nat.reduceBEq,Nat.reduceEqDiff,Nat.reduceLT,Nat.reduceLeDiff,Nat.reduceDiv,reduceIte,reduceCtorEq, d3]
            cases d5 : decide ((c.in0.length : Int) < frame)
            · have f5 := of_decide_eq_false d5
              cases d6 : decide ((c.in1.length : Int) + 8 ≤ (c.in0.length : Int))
              · have f6 := of_decide_eq_false d6
                have e : winP c.cap c.in0 c.in1 ⟨3, player, other, frame, inp, n⟩ = 0 := by unfold winP; rw [if_neg (by simp only; omega), if_neg (by simp only; omega), if_neg (by simp only; omega), if_neg (by simp only; omega)]
                rw [e]
                simp (maxSteps:=2000000) (disch:=omega) only [go_sem,Nat.reduceAdd,Nat.reduceSub,Nat.reduceMul,Nat.reduceBEq,Nat.reduceEqDiff,Nat.reduceLT,Nat.reduceLeDiff,Nat.reduceDiv,reduceIte,reduceCtorEq, d5, d6, Int.reduceSub, Int.reduceToNat, Int.reduceAdd]
                all_goals first | exact leCs_refl _ | exact rf_le ⟨leC_refl _, rfl, rfl, leC_refl _, leC_refl _, leC_refl _, rfl, rfl, rfl, rfl, rfl, by first | rfl | assumption, by first | rfl | assumption, rfl, rfl⟩ | trace_state
              have f6 := of_decide_eq_true d6
              have e : winP c.cap c.in0 c.in1 ⟨3, player, other, frame, inp, n⟩ = 13 := by unfold winP; rw [if_neg (by simp only; omega), if_neg (by simp only; omega), if_neg (by simp only; omega), if_pos (by simp only; omega)]
              rw [e]
              simp (maxSteps:=2000000) (disch:=omega) only [go_sem,Nat.reduceAdd,Nat.reduceSub,Nat.reduceMul,Nat.reduceBEq,Nat.reduceEqDiff,Nat.reduceLT,Nat.reduceLeDiff,Nat.reduceDiv,reduceIte,reduceCtorEq, d5, d6, Int.reduceSub, Int.reduceToNat, Int.reduceAdd]
              all_goals first | exact leCs_refl _ | exact rf_le ⟨leC_refl _, rfl, rfl, leC_refl _, leC_refl _, leC_refl _, rfl, rfl, rfl, rfl, rfl, by first | rfl | assumption, by first | rfl | assumption, rfl, rfl⟩ | trace_state
            have f5 := of_decide_eq_true d5
            have e : winP c.cap c.in0 c.in1 ⟨3, player, other, frame, inp, n⟩ = 13 := by unfold winP; rw [if_neg (by simp only; omega), if_neg (by simp only; omega), if_neg (by simp only; omega), if_pos (by simp only; omega)]
            rw [e]
            simp (maxSteps:=2000000) (disch:=omega) only [go_sem,Nat.reduceAdd,Nat.reduceSub,Nat.reduceMul,Nat.reduceBEq,Nat.reduceEqDiff,Nat.reduceLT,Nat.reduceLeDiff,Nat.reduceDiv,reduceIte,reduceCtorEq, d5]
            all_goals first | exact leCs_refl _ | exact rf_le ⟨leC_refl _, rfl, rfl, leC_refl _, leC_refl _, leC_refl _, rfl, rfl, rfl, rfl, rfl, by first | rfl | assumption, by first | rfl | assumption, rfl, rfl⟩ | trace_state
          have f3 := of_decide_eq_true d3
          have f4 : frame.toNat < c.in0.length := by omega
          cases d4 : decide (U16 (c.in0.getD frame.toNat 0) = U16 inp)
          · have e : winP c.cap c.in0 c.in1 ⟨3, player, other, frame, inp, n⟩ = 18 := by unfold winP; rw [if_neg (by simp only; omega), if_neg (fun x => of_decide_eq_false d4 x.2), if_pos (by simp only; omega)]
            rw [e]
            simp (maxSteps:=2000000) (disch:=omega) only [go_sem,Nat.reduceAdd,Nat.reduceSub,Nat.reduceMul,Nat.reduceBEq,Nat.reduceEqDiff,Nat.reduceLT,Nat.reduceLeDiff,Nat.reduceDiv,reduceIte,reduceCtorEq, d3, d4]
            all_goals first | exact leCs_refl _ | exact rf_le ⟨leC_refl _, rfl, rfl, leC_refl _, leC_refl _, leC_refl _, rfl, rfl, rfl, rfl, rfl, by first | rfl | assumption, by first | rfl | assumption, rfl, rfl⟩ | trace_state
          have e : winP c.cap c.in0 c.in1 ⟨3, player, other, frame, inp, n⟩ = 8 := by unfold winP; rw [if_neg (by simp only; omega), if_pos ⟨f3, of_decide_eq_true d4⟩]
          rw [e]
          simp (maxSteps:=2000000) (disch:=omega) only [go_sem,Nat.reduceAdd,Nat.reduceSub,Nat.reduceMul,Nat.reduceBEq,Nat.reduceEqDiff,Nat.reduceLT,Nat.reduceLeDiff,Nat.reduceDiv,reduceIte,reduceCtorEq, d3, d4]
          all_goals first | exact leCs_refl _ | exact rf_le ⟨leC_refl _, rfl, rfl, leC_refl _, leC_refl _, leC_refl _, rfl, rfl, rfl, rfl, rfl, by first | rfl | assumption, by first | rfl | assumption, rfl, rfl⟩ | trace_state
        have f2 := of_decide_eq_true d2
        have e : winP c.cap c.in0 c.in1 ⟨3, player, other, frame, inp, n⟩ = 1 := by unfold winP; rw [if_pos (by simp only; omega)]
        rw [e]
        refine a_quiet (by kernel_rfl) (by kernel_rfl) (by kernel_rfl) ?_
        simp (maxSteps:=2000000) (disch:=omega) only [go_sem,Nat.reduceAdd,Nat.reduceSub,Nat.reduceMul,Nat.reduceBEq,Nat.reduceEqDiff,Nat.reduceLT,Nat.reduceLeDiff,Nat.reduceDiv,reduceIte,reduceCtorEq, d1, d2]
        all_goals first | exact leCs_refl _ | exact rf_le ⟨leC_refl _, rfl, rfl, leC_refl _, leC_refl _, leC_refl _, rfl, rfl, rfl, rfl, rfl, by first | rfl | assumption, by first | rfl | assumption, rfl, rfl⟩ | trace_state
      have f1 := of_decide_eq_true d1
      have e : winP c.cap c.in0 c.in1 ⟨3, player, other, frame, inp, n⟩ = 1 := by unfold winP; rw [if_pos (by simp only; omega)]
      rw [e]
      refine a_quiet (by kernel_rfl) (by kernel_rfl) (by kernel_rfl) ?_
      simp (maxSteps:=2000000) (disch:=omega) only [go_sem,Nat.reduceAdd,Nat.reduceSub,Nat.reduceMul,Nat.reduceBEq,Nat.reduceEqDiff,Nat.reduceLT,Nat.reduceLeDiff,Nat.reduceDiv,reduceIte,reduceCtorEq, d1]
      all_goals first | exact leCs_refl _ | exact rf_le ⟨leC_refl _, rfl, rfl, leC_refl _, leC_refl _, leC_refl _, rfl, rfl, rfl, rfl, rfl, by first | rfl | assumption, by first | rfl | assumption, rfl, rfl⟩ | trace_state
    rw [q]
    have em : mayInputP c ⟨3, player, other, frame, inp, n⟩ = winP c.cap c.in1 c.in0 ⟨3, player, other, frame, inp, n⟩ := by unfold mayInputP; simp only; rw [if_neg (by rw [ha]; simp), if_neg (show ¬ seatP c player = 0 by omega)]
    rw [em]
    refine zc ?_;try exact trivial
    cases d1 : decide (frame < 0)
    · have f1 := of_decide_eq_false d1
      cases d2 : decide (c.cap ≤ frame)
      · have f2 := of_decide_eq_false d2
        refine a_quiet (by kernel_rfl) (by kernel_rfl) (by kernel_rfl) ?_
        simp (maxSteps:=2000000) (disch:=omega) only [go_sem,Nat.reduceAdd,Nat.reduceSub,Nat.reduceMul,Nat.reduceBEq,Nat.reduceEqDiff,Nat.reduceLT,Nat.reduceLeDiff,Nat.reduceDiv,reduceIte,reduceCtorEq, d1, d2]
        refine a_quiet (by kernel_rfl) (by kernel_rfl) (by kernel_rfl) ?_
        cases d3 : decide (frame < (c.in1.length : Int))
        · have f3 := of_decide_eq_false d3
          simp (maxSteps:=2000000) (disch:=omega) only [go_sem,Nat.reduceAdd,Nat.reduceSub,Nat.reduceMul,Nat.reduceBEq,Nat.reduceEqDiff,Nat.reduceLT,Nat.reduceLeDiff,Nat.reduceDiv,reduceIte,reduceCtorEq, d3]
          cases d5 : decide ((c.in1.length : Int) < frame)
          · have f5 := of_decide_eq_false d5
            cases d6 : decide ((c.in0.length : Int) + 8 ≤ (c.in1.length : Int))
            · have f6 := of_decide_eq_false d6
              have e : winP c.cap c.in1 c.in0 ⟨3, player, other, frame, inp, n⟩ = 0 := by unfold winP; rw [if_neg (by simp only; omega), if_neg (by simp only; omega), if_neg (by simp only; omega), if_neg (by simp only; omega)]
              rw [e]
              simp (maxSteps:=2000000) (disch:=omega) only [go_sem,Nat.reduceAdd,Nat.reduceSub,Nat.reduceMul,Nat.reduceBEq,Nat.reduceEqDiff,Nat.reduceLT,Nat.reduceLeDiff,Nat.reduceDiv,reduceIte,reduceCtorEq, d5, d6, Int.reduceSub, Int.reduceToNat, Int.reduceAdd]
              all_goals first | exact leCs_refl _ | exact rf_le ⟨leC_refl _, rfl, rfl, leC_refl _, leC_refl _, leC_refl _, rfl, rfl, rfl, rfl, rfl, by first | rfl | assumption, by first | rfl | assumption, rfl, rfl⟩ | trace_state
            have f6 := of_decide_eq_true d6
            have e : winP c.cap c.in1 c.in0 ⟨3, player, other, frame, inp, n⟩ = 13 := by unfold winP; rw [if_neg (by simp only; omega), if_neg (by simp only; omega), if_neg (by simp only; omega), if_pos (by simp only; omega)]
            rw [e]
            simp (maxSteps:=2000000) (disch:=omega) only [go_sem,Nat.reduceAdd,Nat.reduceSub,Nat.reduceMul,Nat.reduceBEq,Nat.reduceEqDiff,Nat.reduceLT,Nat.reduceLeDiff,Nat.reduceDiv,reduceIte,reduceCtorEq, d5, d6, Int.reduceSub, Int.reduceToNat, Int.reduceAdd]
            all_goals first | exact leCs_refl _ | exact rf_le ⟨leC_refl _, rfl, rfl, leC_refl _, leC_refl _, leC_refl _, rfl, rfl, rfl, rfl, rfl, by first | rfl | assumption, by first | rfl | assumption, rfl, rfl⟩ | trace_state
          have f5 := of_decide_eq_true d5
          have e : winP c.cap c.in1 c.in0 ⟨3, player, other, frame, inp, n⟩ = 13 := by unfold winP; rw [if_neg (by simp only; omega), if_neg (by simp only; omega), if_neg (by simp only; omega), if_pos (by simp only; omega)]
          rw [e]
          simp (maxSteps:=2000000) (disch:=omega) only [go_sem,Nat.reduceAdd,Nat.reduceSub,Nat.reduceMul,Nat.reduceBEq,Nat.reduceEqDiff,Nat.reduceLT,Nat.reduceLeDiff,Nat.reduceDiv,reduceIte,reduceCtorEq, d5]
          all_goals first | exact leCs_refl _ | exact rf_le ⟨leC_refl _, rfl, rfl, leC_refl _, leC_refl _, leC_refl _, rfl, rfl, rfl, rfl, rfl, by first | rfl | assumption, by first | rfl | assumption, rfl, rfl⟩ | trace_state
        have f3 := of_decide_eq_true d3
        have f4 : frame.toNat < c.in1.length := by omega
        cases d4 : decide (U16 (c.in1.getD frame.toNat 0) = U16 inp)
        · have e : winP c.cap c.in1 c.in0 ⟨3, player, other, frame, inp, n⟩ = 18 := by unfold winP; rw [if_neg (by simp only; omega), if_neg (fun x => of_decide_eq_false d4 x.2), if_pos (by simp only; omega)]
          rw [e]
          simp (maxSteps:=2000000) (disch:=omega) only [go_sem,Nat.reduceAdd,Nat.reduceSub,Nat.reduceMul,Nat.reduceBEq,Nat.reduceEqDiff,Nat.reduceLT,Nat.reduceLeDiff,Nat.reduceDiv,reduceIte,reduceCtorEq, d3, d4]
          all_goals first | exact leCs_refl _ | exact rf_le ⟨leC_refl _, rfl, rfl, leC_refl _, leC_refl _, leC_refl _, rfl, rfl, rfl, rfl, rfl, by first | rfl | assumption, by first | rfl | assumption, rfl, rfl⟩ | trace_state
        have e : winP c.cap c.in1 c.in0 ⟨3, player, other, frame, inp, n⟩ = 8 := by unfold winP; rw [if_neg (by simp only; omega), if_pos ⟨f3, of_decide_eq_true d4⟩]
        rw [e]
        simp (maxSteps:=2000000) (disch:=omega) only [go_sem,Nat.reduceAdd,Nat.reduceSub,Nat.reduceMul,Nat.reduceBEq,Nat.reduceEqDiff,Nat.reduceLT,Nat.reduceLeDiff,Nat.reduceDiv,reduceIte,reduceCtorEq, d3, d4]
        all_goals first | exact leCs_refl _ | exact rf_le ⟨leC_refl _, rfl, rfl, leC_refl _, leC_refl _, leC_refl _, rfl, rfl, rfl, rfl, rfl, by first | rfl | assumption, by first | rfl | assumption, rfl, rfl⟩ | trace_state
      have f2 := of_decide_eq_true d2
      have e : winP c.cap c.in1 c.in0 ⟨3, player, other, frame, inp, n⟩ = 1 := by unfold winP; rw [if_pos (by simp only; omega)]
      rw [e]
      refine a_quiet (by kernel_rfl) (by kernel_rfl) (by kernel_rfl) ?_
      simp (maxSteps:=2000000) (disch:=omega) only [go_sem,Nat.reduceAdd,Nat.reduceSub,Nat.reduceMul,Nat.reduceBEq,Nat.reduceEqDiff,Nat.reduceLT,Nat.reduceLeDiff,Nat.reduceDiv,reduceIte,reduceCtorEq, d1, d2]
      all_goals first | exact leCs_refl _ | exact rf_le ⟨leC_refl _, rfl, rfl, leC_refl _, leC_refl _, leC_refl _, rfl, rfl, rfl, rfl, rfl, by first | rfl | assumption, by first | rfl | assumption, rfl, rfl⟩ | trace_state
    have f1 := of_decide_eq_true d1
    have e : winP c.cap c.in1 c.in0 ⟨3, player, other, frame, inp, n⟩ = 1 := by unfold winP; rw [if_pos (by simp only; omega)]
    rw [e]
    refine a_quiet (by kernel_rfl) (by kernel_rfl) (by kernel_rfl) ?_
    simp (maxSteps:=2000000) (disch:=omega) only [go_sem,Nat.reduceAdd,Nat.reduceSub,Nat.reduceMul,Nat.reduceBEq,Nat.reduceEqDiff,Nat.reduceLT,Nat.reduceLeDiff,Nat.reduceDiv,reduceIte,reduceCtorEq, d1]
    all_goals first | exact leCs_refl _ | exact rf_le ⟨leC_refl _, rfl, rfl, leC_refl _, leC_refl _, leC_refl _, rfl, rfl, rfl, rfl, rfl, by first | rfl | assumption, by first | rfl | assumption, rfl, rfl⟩ | trace_state
  have ha : actP c player = 12 := by unfold actP; rw [if_neg (by rw [o]; simp), if_pos cov]
  have e : mayInputP c ⟨3, player, other, frame, inp, n⟩ = 12 := by unfold mayInputP; rw [if_pos (by simp only; omega)]; exact ha
  rw [e]
  cases c1 : c.over
  · have c2 : c.st.over = true := by rw [c1] at cov; simpa using cov
    simp (maxSteps:=2000000) (disch:=omega) only [go_sem,Nat.reduceAdd,Nat.reduceSub,Nat.reduceMul,Nat.reduceBEq,Nat.reduceEqDiff,Nat.reduceLT,Nat.reduceLeDiff,Nat.reduceDiv,reduceIte,reduceCtorEq, c1, c2]
    all_goals first | exact leCs_refl _ | exact rf_le ⟨leC_refl _, rfl, rfl, leC_refl _, leC_refl _, leC_refl _, rfl, rfl, rfl, rfl, rfl, by first | rfl | assumption, by first | rfl | assumption, rfl, rfl⟩ | trace_state
  simp (maxSteps:=2000000) (disch:=omega) only [go_sem,Nat.reduceAdd,Nat.reduceSub,Nat.reduceMul,Nat.reduceBEq,Nat.reduceEqDiff,Nat.reduceLT,Nat.reduceLeDiff,Nat.reduceDiv,reduceIte,reduceCtorEq, c1]
  all_goals first | exact leCs_refl _ | exact rf_le ⟨leC_refl _, rfl, rfl, leC_refl _, leC_refl _, leC_refl _, rfl, rfl, rfl, rfl, rfl, by first | rfl | assumption, by first | rfl | assumption, rfl, rfl⟩ | trace_state
set_option maxRecDepth 20000 in
set_option maxHeartbeats 16000000 in
theorem rmay4_h (c : Ct) (player other frame n : Int) (inp : UInt16) (h : Inv18 c) (hl : c.events.length ≤ 100000) : Holds Tryz.prog 14 [.ptr (.arg 0) 0, .ev ⟨4, player, other, frame, inp, n⟩] [(.arg 0, rfB (.arg 0) c)] (fun r h' => r = .int .i64 (mayP18 c ⟨4, player, other, frame, inp, n⟩) ∧ h' = [(.arg 0, rfB (.arg 0) c)]) := by
  have hf := rform_h ⟨4, player, other, frame, inp, n⟩
  have ef : formB ⟨4, player, other, frame, inp, n⟩ = bareB ⟨4, player, other, frame, inp, n⟩ := by unfold formB; rw [if_neg (by simp only; omega)]
  rw [ef] at hf
  have em : mayP18 c ⟨4, player, other, frame, inp, n⟩ = if bareB ⟨4, player, other, frame, inp, n⟩ = true then actP c player else 3 := by unfold mayP18; rw [if_neg (by simp only; omega)]; rfl
  rw [em]
  clear em ef
  generalize bareB ⟨4, player, other, frame, inp, n⟩ = bb at hf ⊢
  have hs := rst_h c h hl
  have l0 := h.e0
  have l1 := h.e1
  refine holds_of_awp Tryz.func14 rfl (by decide +kernel) mixed Tryz.ntmps14 Tryz.results14 ?_
  refine zE ?_
  refine zc ?_;try exact trivial
  refine a_call [] (hf) ok0 ?_ ?_ ?_
  · refine zs ?_;try exact trivial
  · refine zs ?_;try exact trivial
  rintro _ _ ⟨rfl, rfl⟩
  cases bb
  · rw [if_neg (by simp)]
    refine zc ?_;try exact trivial
    all_goals first | exact leCs_refl _ | exact rf_le ⟨leC_refl _, rfl, rfl, leC_refl _, leC_refl _, leC_refl _, rfl, rfl, rfl, rfl, rfl, by first | rfl | assumption, by first | rfl | assumption, rfl, rfl⟩ | trace_state
  rw [if_pos rfl]
  refine zc ?_;try exact trivial
  cases o : c.opn
  · have ha : actP c player = 15 := by unfold actP; rw [if_pos o]
    have e : actP c player = 15 := by rw [ha]
    rw [e]
    simp (maxSteps:=2000000) (disch:=omega) only [go_sem,Nat.reduceAdd,Nat.reduceSub,Nat.reduceMul,Nat.reduceBEq,Nat.reduceEqDiff,Nat.reduceLT,Nat.reduceLeDiff,Nat.reduceDiv,reduceIte,reduceCtorEq, o, Bool.not_false]
    all_goals first | exact leCs_refl _ | exact rf_le ⟨leC_refl _, rfl, rfl, leC_refl _, leC_refl _, leC_refl _, rfl, rfl, rfl, rfl, rfl, by first | rfl | assumption, by first | rfl | assumption, rfl, rfl⟩ | trace_state
  have dn : (!c.opn) = false := by rw [o]; rfl
  simp (maxSteps:=2000000) (disch:=omega) only [go_sem,Nat.reduceAdd,Nat.reduceSub,Nat.reduceMul,Nat.reduceBEq,Nat.reduceEqDiff,Nat.reduceLT,Nat.reduceLeDiff,Nat.reduceDiv,reduceIte,reduceCtorEq, dn]
  refine a_call [.arg 0] hs (ok1 rfl) ?_ ?_ ?_
  · refine zs ?_;try exact trivial
  · refine zs ?_;try exact trivial
    all_goals exact rfX
  rintro _ _ ⟨rfl, rfl⟩
  refine zc ?_;try exact trivial
  cases cov : (c.over || c.st.over)
  · have c1 : c.over = false := by cases q : c.over <;> simp_all
    have c2 : c.st.over = false := by cases q : c.st.over <;> simp_all
    simp (maxSteps:=2000000) (disch:=omega) only [go_sem,Nat.reduceAdd,Nat.reduceSub,Nat.reduceMul,Nat.reduceBEq,Nat.reduceEqDiff,Nat.reduceLT,Nat.reduceLeDiff,Nat.reduceDiv,reduceIte,reduceCtorEq, c1, c2]
    have hq := rseat_h c player
    have eq : seatR c player = seatP c player := by unfold seatR; rw [if_pos o]
    rw [eq] at hq
    refine a_call [.arg 0] hq (ok1 rfl) ?_ ?_ ?_
    · refine zs ?_;try exact trivial
    · refine zs ?_;try exact trivial
      all_goals exact rfX
    rintro _ _ ⟨rfl, rfl⟩
    by_cases hneg : seatP c player < 0
    · have ha : actP c player = 14 := by unfold actP; rw [if_neg (by rw [o]; simp), if_neg (by rw [cov]; simp), if_pos hneg]
      have e : actP c player = 14 := by rw [ha]
      have dneg : decide (seatP c player < 0) = true := decide_eq_true hneg
      rw [e]
      simp (maxSteps:=2000000) (disch:=omega) only [go_sem,Nat.reduceAdd,Nat.reduceSub,Nat.reduceMul,Nat.reduceBEq,Nat.reduceEqDiff,Nat.reduceLT,Nat.reduceLeDiff,Nat.reduceDiv,reduceIte,reduceCtorEq, dneg]
      all_goals first | exact leCs_refl _ | exact rf_le ⟨leC_refl _, rfl, rfl, leC_refl _, leC_refl _, leC_refl _, rfl, rfl, rfl, rfl, rfl, by first | rfl | assumption, by first | rfl | assumption, rfl, rfl⟩ | trace_state
    have ha : actP c player = 0 := by unfold actP; rw [if_neg (by rw [o]; simp), if_neg (by rw [cov]; simp), if_neg hneg]
    clear hf hs hq eq
    rcases seat_cases c player (by omega) with q | q
    · rw [q]
      rw [ha]
      refine zc ?_;try exact trivial
      all_goals first | exact leCs_refl _ | exact rf_le ⟨leC_refl _, rfl, rfl, leC_refl _, leC_refl _, leC_refl _, rfl, rfl, rfl, rfl, rfl, by first | rfl | assumption, by first | rfl | assumption, rfl, rfl⟩ | trace_state
    rw [q]
    rw [ha]
    refine zc ?_;try exact trivial
    all_goals first | exact leCs_refl _ | exact rf_le ⟨leC_refl _, rfl, rfl, leC_refl _, leC_refl _, leC_refl _, rfl, rfl, rfl, rfl, rfl, by first | rfl | assumption, by first | rfl | assumption, rfl, rfl⟩ | trace_state
  have ha : actP c player = 12 := by unfold actP; rw [if_neg (by rw [o]; simp), if_pos cov]
  have e : actP c player = 12 := by rw [ha]
  rw [e]
  cases c1 : c.over
  · have c2 : c.st.over = true := by rw [c1] at cov; simpa using cov
    simp (maxSteps:=2000000) (disch:=omega) only [go_sem,Nat.reduceAdd,Nat.reduceSub,Nat.reduceMul,Nat.reduceBEq,Nat.reduceEqDiff,Nat.reduceLT,Nat.reduceLeDiff,Nat.reduceDiv,reduceIte,reduceCtorEq, c1, c2]
    all_goals first | exact leCs_refl _ | exact rf_le ⟨leC_refl _, rfl, rfl, leC_refl _, leC_refl _, leC_refl _, rfl, rfl, rfl, rfl, rfl, by first | rfl | assumption, by first | rfl | assumption, rfl, rfl⟩ | trace_state
  simp (maxSteps:=2000000) (disch:=omega) only [go_sem,Nat.reduceAdd,Nat.reduceSub,Nat.reduceMul,Nat.reduceBEq,Nat.reduceEqDiff,Nat.reduceLT,Nat.reduceLeDiff,Nat.reduceDiv,reduceIte,reduceCtorEq, c1]
  all_goals first | exact leCs_refl _ | exact rf_le ⟨leC_refl _, rfl, rfl, leC_refl _, leC_refl _, leC_refl _, rfl, rfl, rfl, rfl, rfl, by first | rfl | assumption, by first | rfl | assumption, rfl, rfl⟩ | trace_state
set_option maxRecDepth 20000 in
set_option maxHeartbeats 16000000 in
theorem rmay5_h (c : Ct) (player other frame n : Int) (inp : UInt16) (h : Inv18 c) (hl : c.events.length ≤ 100000) : Holds Tryz.prog 14 [.ptr (.arg 0) 0, .ev ⟨5, player, other, frame, inp, n⟩] [(.arg 0, rfB (.arg 0) c)] (fun r h' => r = .int .i64 (mayP18 c ⟨5, player, other, frame, inp, n⟩) ∧ h' = [(.arg 0, rfB (.arg 0) c)]) := by
  have hf := rform_h ⟨5, player, other, frame, inp, n⟩
  have ef : formB ⟨5, player, other, frame, inp, n⟩ = bareB ⟨5, player, other, frame, inp, n⟩ := by unfold formB; rw [if_neg (by simp only; omega)]
  rw [ef] at hf
  have em : mayP18 c ⟨5, player, other, frame, inp, n⟩ = if bareB ⟨5, player, other, frame, inp, n⟩ = true then mayResultP c ⟨5, player, other, frame, inp, n⟩ else 3 := by unfold mayP18; rw [if_neg (by simp only; omega)]; rfl
  rw [em]
  clear em ef
  generalize bareB ⟨5, player, other, frame, inp, n⟩ = bb at hf ⊢
  have hs := rst_h c h hl
  have l0 := h.e0
  have l1 := h.e1
  refine holds_of_awp Tryz.func14 rfl (by decide +kernel) mixed Tryz.ntmps14 Tryz.results14 ?_
  refine zE ?_
  refine zc ?_;try exact trivial
  refine a_call [] (hf) ok0 ?_ ?_ ?_
  · refine zs ?_;try exact trivial
  · refine zs ?_;try exact trivial
  rintro _ _ ⟨rfl, rfl⟩
  cases bb
  · rw [if_neg (by simp)]
    refine zc ?_;try exact trivial
    all_goals first | exact leCs_refl _ | exact rf_le ⟨leC_refl _, rfl, rfl, leC_refl _, leC_refl _, leC_refl _, rfl, rfl, rfl, rfl, rfl, by first | rfl | assumption, by first | rfl | assumption, rfl, rfl⟩ | trace_state
  rw [if_pos rfl]
  refine zc ?_;try exact trivial
  cases o : c.opn
  · have e : mayResultP c ⟨5, player, other, frame, inp, n⟩ = 15 := by unfold mayResultP; rw [if_pos o]
    rw [e]
    simp (maxSteps:=2000000) (disch:=omega) only [go_sem,Nat.reduceAdd,Nat.reduceSub,Nat.reduceMul,Nat.reduceBEq,Nat.reduceEqDiff,Nat.reduceLT,Nat.reduceLeDiff,Nat.reduceDiv,reduceIte,reduceCtorEq, o, Bool.not_false]
    all_goals first | exact leCs_refl _ | exact rf_le ⟨leC_refl _, rfl, rfl, leC_refl _, leC_refl _, leC_refl _, rfl, rfl, rfl, rfl, rfl, by first | rfl | assumption, by first | rfl | assumption, rfl, rfl⟩ | trace_state
  have dn : (!c.opn) = false := by rw [o]; rfl
  simp (maxSteps:=2000000) (disch:=omega) only [go_sem,Nat.reduceAdd,Nat.reduceSub,Nat.reduceMul,Nat.reduceBEq,Nat.reduceEqDiff,Nat.reduceLT,Nat.reduceLeDiff,Nat.reduceDiv,reduceIte,reduceCtorEq, dn]
  refine a_call [.arg 0] hs (ok1 rfl) ?_ ?_ ?_
  · refine zs ?_;try exact trivial
  · refine zs ?_;try exact trivial
    all_goals exact rfX
  rintro _ _ ⟨rfl, rfl⟩
  refine zc ?_;try exact trivial
  have hw := res_win (cap := c.cap) h.win
  have hr := rresult_h c.st c.cap c.fuel c.code
  have em : mayResultP c ⟨5, player, other, frame, inp, n⟩ = if c.over = true then 12 else if (resP c.st c.cap).2.2 = false then 15 else if player ≠ (if (resP c.st c.cap).1 = 0 then c.p0 else c.p1) ∨ n ≠ (resP c.st c.cap).2.1 then 18 else 0 := by unfold mayResultP; rw [if_neg (by rw [o]; simp)]
  rw [em]
  clear em hf hs
  generalize resP c.st c.cap = R at hr hw ⊢
  obtain ⟨w, y, z⟩ := R
  simp only at hr hw ⊢
  refine a_drawC (⟨[V.cell (.ptr (.arg 0) 0), .undef, .undef, V.cell (.ptr (.loc [3]) 0), .undef, V.cell (.ptr (.loc [5]) 0), V.int .i64 w, V.int .i64 y, V.bool z, U, U, U, U, U, U, U, U, U, U, U, U, U, U, U, U, U, U, U, U, U, U, U, U, U, U, U, U, U, U, U, U, U, U, U, U, U, U, U, U, U, U, U, U, U, U, U, U, U, U, U, U, U, U, U, U, U, U, U, U, U, U, U, U, U, U, U, U, U, U, U, U, U, U, U, U, U, U, U, U, U, U, U, U, U, U, U, U, U, U, U, U, U, U, U, U, U, U, U, U, U, U, U, U, U, U, U, U, U, U, U, U, U, U, U, U, U, U, U, U, U, U, U, U, U, U, U, U, U, U, U, U, U, U, U, U, U, U, U, U, U, U, U, U, U, U, U, U, U, U, U, U, U, U, U, U, U, U, U, U, U, U, U, U, U, U, U, U, U, U, U, U, U, .undef], [(.loc [5], (sd c.st).map D.toC), (.loc [3], evC ⟨5, player, other, frame, inp, n⟩), (.arg 0, rfB (.arg 0) c)]⟩) (.take 1 (.take 2 (.take 3 (.both [(0, .both [(4, .both [(5, .take 6 (.take 7 (.take 8 (.take 9 (.take 10 (.take 11 (.take 12 (.done))))))))])]), (4, .both [(0, .both [(5, .take 6 (.take 7 (.take 8 (.take 9 (.take 10 (.take 11 (.take 12 (.done))))))))])])])))) (by kernel_rfl) (by kernel_rfl) ?_ ?_
  · refine zc ?_;try exact trivial
    repeat' (with_reducible apply And.intro)
    all_goals (
      refine a_call [] (hr) ok0 ?_ ?_ ?_
      · refine zs ?_;try exact trivial
      · refine zs ?_;try exact trivial
      rintro _ _ ⟨rfl, rfl⟩
      (refine zc ?_; try exact trivial))
    all_goals first | exact leCs_refl _ | exact rf_le ⟨leC_refl _, rfl, rfl, leC_refl _, leC_refl _, leC_refl _, rfl, rfl, rfl, rfl, rfl, by first | rfl | assumption, by first | rfl | assumption, rfl, rfl⟩ | trace_state
  refine zc ?_;try exact trivial
  cases cov : c.over
  · rw [if_neg (by simp)]
    simp (maxSteps:=2000000) (disch:=omega) only [go_sem,Nat.reduceAdd,Nat.reduceSub,Nat.reduceMul,Nat.reduceBEq,Nat.reduceEqDiff,Nat.reduceLT,Nat.reduceLeDiff,Nat.reduceDiv,reduceIte,reduceCtorEq, cov]
    cases z
    · rw [if_pos rfl]
      refine zc ?_;try exact trivial
      all_goals first | exact leCs_refl _ | exact rf_le ⟨leC_refl _, rfl, rfl, leC_refl _, leC_refl _, leC_refl _, rfl, rfl, rfl, rfl, rfl, by first | rfl | assumption, by first | rfl | assumption, rfl, rfl⟩ | trace_state
    rw [if_neg (by simp)]
    refine zc ?_;try exact trivial
    rcases hw with rfl | rfl
    · refine a_quiet (by kernel_rfl) (by kernel_rfl) (by kernel_rfl) ?_
      cases dp : decide (player = c.p0)
      · rw [if_pos (.inl (by simpa using of_decide_eq_false dp))]
        simp (maxSteps:=2000000) (disch:=omega) only [go_sem,Nat.reduceAdd,Nat.reduceSub,Nat.reduceMul,Nat.reduceBEq,Nat.reduceEqDiff,Nat.reduceLT,Nat.reduceLeDiff,Nat.reduceDiv,reduceIte,reduceCtorEq, dp, Int.reduceLT, Int.reduceLE, Int.reduceToNat, decide_not, Bool.not_false]
        all_goals first | exact leCs_refl _ | exact rf_le ⟨leC_refl _, rfl, rfl, leC_refl _, leC_refl _, leC_refl _, rfl, rfl, rfl, rfl, rfl, by first | rfl | assumption, by first | rfl | assumption, rfl, rfl⟩ | trace_state
      cases dn : decide (n = y)
      · rw [if_pos (.inr (of_decide_eq_false dn))]
        simp (maxSteps:=2000000) (disch:=omega) only [go_sem,Nat.reduceAdd,Nat.reduceSub,Nat.reduceMul,Nat.reduceBEq,Nat.reduceEqDiff,Nat.reduceLT,Nat.reduceLeDiff,Nat.reduceDiv,reduceIte,reduceCtorEq, dp, dn, Int.reduceLT, Int.reduceLE, Int.reduceToNat, decide_not, Bool.not_false, Bool.not_true]
        all_goals first | exact leCs_refl _ | exact rf_le ⟨leC_refl _, rfl, rfl, leC_refl _, leC_refl _, leC_refl _, rfl, rfl, rfl, rfl, rfl, by first | rfl | assumption, by first | rfl | assumption, rfl, rfl⟩ | trace_state
      rw [if_neg (by rintro (q | q); exact q (by simpa using of_decide_eq_true dp); exact q (of_decide_eq_true dn))]
      simp (maxSteps:=2000000) (disch:=omega) only [go_sem,Nat.reduceAdd,Nat.reduceSub,Nat.reduceMul,Nat.reduceBEq,Nat.reduceEqDiff,Nat.reduceLT,Nat.reduceLeDiff,Nat.reduceDiv,reduceIte,reduceCtorEq, dp, dn, Int.reduceLT, Int.reduceLE, Int.reduceToNat, decide_not, Bool.not_false, Bool.not_true]
      all_goals first | exact leCs_refl _ | exact rf_le ⟨leC_refl _, rfl, rfl, leC_refl _, leC_refl _, leC_refl _, rfl, rfl, rfl, rfl, rfl, by first | rfl | assumption, by first | rfl | assumption, rfl, rfl⟩ | trace_state
    refine a_quiet (by kernel_rfl) (by kernel_rfl) (by kernel_rfl) ?_
    cases dp : decide (player = c.p1)
    · rw [if_pos (.inl (by simpa using of_decide_eq_false dp))]
      simp (maxSteps:=2000000) (disch:=omega) only [go_sem,Nat.reduceAdd,Nat.reduceSub,Nat.reduceMul,Nat.reduceBEq,Nat.reduceEqDiff,Nat.reduceLT,Nat.reduceLeDiff,Nat.reduceDiv,reduceIte,reduceCtorEq, dp, Int.reduceLT, Int.reduceLE, Int.reduceToNat, decide_not, Bool.not_false]
      all_goals first | exact leCs_refl _ | exact rf_le ⟨leC_refl _, rfl, rfl, leC_refl _, leC_refl _, leC_refl _, rfl, rfl, rfl, rfl, rfl, by first | rfl | assumption, by first | rfl | assumption, rfl, rfl⟩ | trace_state
    cases dn : decide (n = y)
    · rw [if_pos (.inr (of_decide_eq_false dn))]
      simp (maxSteps:=2000000) (disch:=omega) only [go_sem,Nat.reduceAdd,Nat.reduceSub,Nat.reduceMul,Nat.reduceBEq,Nat.reduceEqDiff,Nat.reduceLT,Nat.reduceLeDiff,Nat.reduceDiv,reduceIte,reduceCtorEq, dp, dn, Int.reduceLT, Int.reduceLE, Int.reduceToNat, decide_not, Bool.not_false, Bool.not_true]
      all_goals first | exact leCs_refl _ | exact rf_le ⟨leC_refl _, rfl, rfl, leC_refl _, leC_refl _, leC_refl _, rfl, rfl, rfl, rfl, rfl, by first | rfl | assumption, by first | rfl | assumption, rfl, rfl⟩ | trace_state
    rw [if_neg (by rintro (q | q); exact q (by simpa using of_decide_eq_true dp); exact q (of_decide_eq_true dn))]
    simp (maxSteps:=2000000) (disch:=omega) only [go_sem,Nat.reduceAdd,Nat.reduceSub,Nat.reduceMul,Nat.reduceBEq,Nat.reduceEqDiff,Nat.reduceLT,Nat.reduceLeDiff,Nat.reduceDiv,reduceIte,reduceCtorEq, dp, dn, Int.reduceLT, Int.reduceLE, Int.reduceToNat, decide_not, Bool.not_false, Bool.not_true]
    all_goals first | exact leCs_refl _ | exact rf_le ⟨leC_refl _, rfl, rfl, leC_refl _, leC_refl _, leC_refl _, rfl, rfl, rfl, rfl, rfl, by first | rfl | assumption, by first | rfl | assumption, rfl, rfl⟩ | trace_state
  rw [if_pos rfl]
  simp (maxSteps:=2000000) (disch:=omega) only [go_sem,Nat.reduceAdd,Nat.reduceSub,Nat.reduceMul,Nat.reduceBEq,Nat.reduceEqDiff,Nat.reduceLT,Nat.reduceLeDiff,Nat.reduceDiv,reduceIte,reduceCtorEq, cov]
  all_goals first | exact leCs_refl _ | exact rf_le ⟨leC_refl _, rfl, rfl, leC_refl _, leC_refl _, leC_refl _, rfl, rfl, rfl, rfl, rfl, by first | rfl | assumption, by first | rfl | assumption, rfl, rfl⟩ | trace_state
end
section
@[go_sem] theorem add_code {c : Ct} {e : Ev} : (c.add e).code = c.code := nr rfl
@[go_sem] theorem add_cap {c : Ct} {e : Ev} : (c.add e).cap = c.cap := nr rfl
@[go_sem] theorem add_fuel {c : Ct} {e : Ev} : (c.add e).fuel = c.fuel := nr rfl
@[go_sem] theorem add_p0 {c : Ct} {e : Ev} : (c.add e).p0 = c.p0 := nr rfl
@[go_sem] theorem add_p1 {c : Ct} {e : Ev} : (c.add e).p1 = c.p1 := nr rfl
@[go_sem] theorem add_seed {c : Ct} {e : Ev} : (c.add e).seed = c.seed := nr rfl
@[go_sem] theorem add_l0 {c : Ct} {e : Ev} : (c.add e).l0 = c.l0 := nr rfl
@[go_sem] theorem add_l1 {c : Ct} {e : Ev} : (c.add e).l1 = c.l1 := nr rfl
@[go_sem] theorem add_over {c : Ct} {e : Ev} : (c.add e).over = c.over := nr rfl
@[go_sem] theorem add_winner {c : Ct} {e : Ev} : (c.add e).winner = c.winner := nr rfl
@[go_sem] theorem add_why {c : Ct} {e : Ev} : (c.add e).why = c.why := nr rfl
@[go_sem] theorem add_opn {c : Ct} {e : Ev} : (c.add e).opn = c.opn := nr rfl
@[go_sem] theorem add_in0 {c : Ct} {e : Ev} : (c.add e).in0 = c.in0 := nr rfl
@[go_sem] theorem add_in1 {c : Ct} {e : Ev} : (c.add e).in1 = c.in1 := nr rfl
set_option maxRecDepth 20000 in
theorem rmayX_h (c : Ct) (e : Ev) (hk : e.kind < 1 ∨ 6 ≤ e.kind) : Holds Tryz.prog 14 [.ptr (.arg 0) 0, .ev e] [(.arg 0, rfB (.arg 0) c)] (fun r h' => r = .int .i64 (mayP18 c e) ∧ h' = [(.arg 0, rfB (.arg 0) c)]) := by
  have em : mayP18 c e = 3 := by unfold mayP18; rw [if_pos hk]
  have hf := rform_h e
  have ef : formB e = false := by unfold formB; rw [if_pos hk]
  rw [ef] at hf
  rw [em]
  refine holds_of_awp Tryz.func14 rfl (by decide +kernel) mixed Tryz.ntmps14 Tryz.results14 ?_
  refine zE ?_
  refine zc ?_;try exact trivial
  refine a_call [] (hf) ok0 ?_ ?_ ?_
  · refine zs ?_;try exact trivial
  · refine zs ?_;try exact trivial
  rintro _ _ ⟨rfl, rfl⟩
  refine zc ?_;try exact trivial
  all_goals exact leCs_refl _
theorem rmay_all (c : Ct) (e : Ev) (h : Inv18 c) (hl : c.events.length ≤ 100000) : Holds Tryz.prog 14 [.ptr (.arg 0) 0, .ev e] [(.arg 0, rfB (.arg 0) c)] (fun r h' => r = .int .i64 (mayP18 c e) ∧ h' = [(.arg 0, rfB (.arg 0) c)]) := by
  by_cases hk : e.kind < 1 ∨ 6 ≤ e.kind
  · exact rmayX_h c e hk
  rcases (by omega : e.kind = 1 ∨ e.kind = 2 ∨ e.kind = 3 ∨ e.kind = 4 ∨ e.kind = 5) with k | k | k | k | k
  · rw [ev_eq k]; exact rmay1_h c _ _ _ _ _ h hl
  · rw [ev_eq k]; exact rmay2_h c _ _ _ _ _ h hl
  · rw [ev_eq k]; exact rmay3_h c _ _ _ _ _ h hl
  · rw [ev_eq k]; exact rmay4_h c _ _ _ _ _ h hl
  rw [ev_eq k]; exact rmay5_h c _ _ _ _ _ h hl
theorem rapplyN_h (c : Ct) (e : Ev) (h : Inv18 c) (hl : c.events.length ≤ 100000) (hm : mayP18 c e ≠ 0) : Holds Tryz.prog 20 [.ptr (.arg 0) 0, .ev e] [(.arg 0, rfB (.arg 0) c)] (fun r h' => r = .int .i64 (mayP18 c e) ∧ h' = [(.arg 0, rfB (.arg 0) c)]) := by
  have dm : decide (mayP18 c e = 0) = false := decide_eq_false hm
  have hy := rmay_all c e h hl
  refine holds_of_awp Tryz.func20 rfl (by decide +kernel) mixed Tryz.ntmps20 Tryz.results20 ?_
  refine zE ?_
  refine zc ?_;try exact trivial
  refine a_call [.arg 0] (hy) (ok1 rfl) ?_ ?_ ?_
  · refine zs ?_;try exact trivial
  · refine zs ?_;try exact trivial
  rintro _ _ ⟨rfl, rfl⟩
  simp (maxSteps:=2000000) (disch:=omega) only [go_sem,Nat.reduceAdd,Nat.reduceSub,Nat.reduceMul,Nat.reduceBEq,Nat.reduceEqDiff,Nat.reduceLT,Nat.reduceLeDiff,Nat.reduceDiv,reduceIte,reduceCtorEq, dm, decide_not, Bool.not_false]
  all_goals exact leCs_refl _
theorem seatR_add {c : Ct} {e : Ev} {x : Int} : seatR (c.add e) x = seatR c x := rfl

set_option maxRecDepth 20000 in
set_option maxHeartbeats 16000000 in
theorem rapplyY1_h (c : Ct) (player other frame n : Int) (inp : UInt16) (h : Inv18 c) (hl : c.events.length ≤ 100000) (hm : mayP18 c ⟨1, player, other, frame, inp, n⟩ = 0) (hn : 0 ≤ n ∧ n ≤ 4294967295) : Holds Tryz.prog 20 [.ptr (.arg 0) 0, .ev ⟨1, player, other, frame, inp, n⟩] [(.arg 0, rfB (.arg 0) c)] (fun r h' => r = .int .i64 0 ∧ h' = [(.arg 0, rfB (.arg 0) ((openP c ⟨1, player, other, frame, inp, n⟩).add ⟨1, player, other, frame, inp, n⟩))]) := by
  have hy := rmay_all c ⟨1, player, other, frame, inp, n⟩ h hl
  rw [hm] at hy
  have l0 := h.e0
  have l1 := h.e1
  have b0 := h.l0
  have b1 := h.l1
  have hq := rseat_h (c.add ⟨1, player, other, frame, inp, n⟩) player
  refine holds_of_awp Tryz.func20 rfl (by decide +kernel) mixed Tryz.ntmps20 Tryz.results20 ?_
  refine zE ?_
  refine zc ?_;try exact trivial
  refine a_call [.arg 0] (hy) (ok1 rfl) ?_ ?_ ?_
  · refine zs ?_;try exact trivial
  · refine zs ?_;try exact trivial
  rintro _ _ ⟨rfl, rfl⟩
  refine zc ?_;try exact trivial
  refine a_drawC (⟨[V.cell (.ptr (.arg 0) 0), .undef, .undef, V.cell (.ptr (.loc [3]) 0), V.int .i64 0, U, U, U, U, U, U, U, U, U, U, U, U, U, U, U, U, U, U, U, U, U, U, U, U, U, U, U, U, U, U, U, U, U, U, U, U, U, U, U, U, U, U, U, U, U, U, U, U, U, U, U, U, U, U, U, U, U, U, U, U, U, U, U, U, U, U, U, U, U, U, U, U, U, U, U, U, U, U, U, U, U, U, U, U, U, U, U, U, U, U, U, U, U, U, U, U, U, U, .undef], [(.loc [3], evC ⟨1, player, other, frame, inp, n⟩), (.arg 0, rfB (.arg 0) (c.add ⟨1, player, other, frame, inp, n⟩))]⟩) (.take 0 (.take 1 (.take 2 (.take 3 (.both [(4, .both [(5, .both [(6, .both [(7, .take 8 (.take 9 (.both [(10, .done)])))])])]), (5, .both [(4, .both [(6, .both [(7, .take 8 (.take 9 (.both [(10, .done)])))])]), (6, .both [(4, .both [(7, .take 8 (.take 9 (.both [(10, .done)])))])])])]))))) (by kernel_rfl) (by kernel_rfl) ?_ ?_
  · refine zc ?_;try exact trivial
    repeat' (with_reducible apply And.intro)
    all_goals first | omega | exact leCs_refl _ | trace_state
  refine zc ?_;try exact trivial
  refine a_call [.arg 0] hq (ok1 rfl) ?_ ?_ ?_
  · refine zs ?_;try exact trivial
  · refine zs ?_;try exact trivial
    all_goals exact leCs_refl _
  rintro _ _ ⟨rfl, rfl⟩
  have hU : U32 (UInt32.ofNat n.toNat) = n := by unfold U32; rw [UInt32.toNat_ofNat']; omega
  refine zc ?_;try exact trivial
  refine a_drawC (⟨[V.cell (.ptr (.arg 0) 0), .undef, .undef, V.cell (.ptr (.loc [3]) 0), V.int .i64 0, U, U, U, U, U, U, U, U, U, U, U, U, U, U, U, U, U, U, U, U, U, U, U, U, U, U, U, U, U, U, U, U, U, U, U, U, U, U, U, U, U, U, U, U, U, U, U, U, U, U, U, U, U, U, U, U, U, U, U, U, U, U, U, U, U, U, U, U, U, U, U, U, U, U, U, U, U, U, U, U, U, U, U, U, U, U, U, U, U, U, U, U, U, U, U, U, U, U, .undef], [(.loc [3], evC ⟨1, player, other, frame, inp, n⟩), (.arg 0, rfB (.arg 0) ((openP c ⟨1, player, other, frame, inp, n⟩).add ⟨1, player, other, frame, inp, n⟩))]⟩) (.take 0 (.take 1 (.take 2 (.take 3 (.take 5 (.take 8 (.take 11 (.take 12 (.both [(4, .both [(6, .both [(7, .both [(9, .take 10 (.both [(13, .take 14 (.take 15 (.both [(16, .take 17 (.take 18 (.both [(19, .done)])))])))])), (13, .take 14 (.take 15 (.both [(9, .take 10 (.both [(16, .take 17 (.take 18 (.both [(19, .done)])))])), (16, .both [(9, .take 10 (.take 17 (.take 18 (.both [(19, .done)]))))])])))]), (9, .take 10 (.both [(7, .both [(13, .take 14 (.take 15 (.both [(16, .take 17 (.take 18 (.both [(19, .done)])))])))]), (13, .both [(7, .take 14 (.take 15 (.both [(16, .take 17 (.take 18 (.both [(19, .done)])))])))])])), (13, .both [(7, .take 14 (.take 15 (.both [(9, .take 10 (.both [(16, .take 17 (.take 18 (.both [(19, .done)])))])), (16, .both [(9, .take 10 (.take 17 (.take 18 (.both [(19, .done)]))))])]))), (9, .take 10 (.both [(7, .take 14 (.take 15 (.both [(16, .take 17 (.take 18 (.both [(19, .done)])))])))]))])]), (9, .take 10 (.both [(6, .both [(7, .both [(13, .take 14 (.take 15 (.both [(16, .take 17 (.take 18 (.both [(19, .done)])))])))]), (13, .both [(7, .take 14 (.take 15 (.both [(16, .take 17 (.take 18 (.both [(19, .done)])))])))])]), (13, .both [(6, .both [(7, .take 14 (.take 15 (.both [(16, .take 17 (.take 18 (.both [(19, .done)])))])))])])])), (13, .both [(6, .both [(7, .take 14 (.take 15 (.both [(9, .take 10 (.both [(16, .take 17 (.take 18 (.both [(19, .done)])))])), (16, .both [(9, .take 10 (.take 17 (.take 18 (.both [(19, .done)]))))])]))), (9, .take 10 (.both [(7, .take 14 (.take 15 (.both [(16, .take 17 (.take 18 (.both [(19, .done)])))])))]))]), (9, .take 10 (.both [(6, .both [(7, .take 14 (.take 15 (.both [(16, .take 17 (.take 18 (.both [(19, .done)])))])))])]))])]), (6, .both [(4, .both [(7, .both [(9, .take 10 (.both [(13, .take 14 (.take 15 (.both [(16, .take 17 (.take 18 (.both [(19, .done)])))])))])), (13, .take 14 (.take 15 (.both [(9, .take 10 (.both [(16, .take 17 (.take 18 (.both [(19, .done)])))])), (16, .both [(9, .take 10 (.take 17 (.take 18 (.both [(19, .done)]))))])])))]), (9, .take 10 (.both [(7, .both [(13, .take 14 (.take 15 (.both [(16, .take 17 (.take 18 (.both [(19, .done)])))])))]), (13, .both [(7, .take 14 (.take 15 (.both [(16, .take 17 (.take 18 (.both [(19, .done)])))])))])])), (13, .both [(7, .take 14 (.take 15 (.both [(9, .take 10 (.both [(16, .take 17 (.take 18 (.both [(19, .done)])))])), (16, .both [(9, .take 10 (.take 17 (.take 18 (.both [(19, .done)]))))])]))), (9, .take 10 (.both [(7, .take 14 (.take 15 (.both [(16, .take 17 (.take 18 (.both [(19, .done)])))])))]))])]), (9, .take 10 (.both [(4, .both [(7, .both [(13, .take 14 (.take 15 (.both [(16, .take 17 (.take 18 (.both [(19, .done)])))])))]), (13, .both [(7, .take 14 (.take 15 (.both [(16, .take 17 (.take 18 (.both [(19, .done)])))])))])]), (13, .both [(4, .both [(7, .take 14 (.take 15 (.both [(16, .take 17 (.take 18 (.both [(19, .done)])))])))])])])), (13, .both [(4, .both [(7, .take 14 (.take 15 (.both [(9, .take 10 (.both [(16, .take 17 (.take 18 (.both [(19, .done)])))])), (16, .both [(9, .take 10 (.take 17 (.take 18 (.both [(19, .done)]))))])]))), (9, .take 10 (.both [(7, .take 14 (.take 15 (.both [(16, .take 17 (.take 18 (.both [(19, .done)])))])))]))]), (9, .take 10 (.both [(4, .both [(7, .take 14 (.take 15 (.both [(16, .take 17 (.take 18 (.both [(19, .done)])))])))])]))])]), (9, .take 10 (.both [(4, .both [(6, .both [(7, .both [(13, .take 14 (.take 15 (.both [(16, .take 17 (.take 18 (.both [(19, .done)])))])))]), (13, .both [(7, .take 14 (.take 15 (.both [(16, .take 17 (.take 18 (.both [(19, .done)])))])))])]), (13, .both [(6, .both [(7, .take 14 (.take 15 (.both [(16, .take 17 (.take 18 (.both [(19, .done)])))])))])])]), (6, .both [(4, .both [(7, .both [(13, .take 14 (.take 15 (.both [(16, .take 17 (.take 18 (.both [(19, .done)])))])))]), (13, .both [(7, .take 14 (.take 15 (.both [(16, .take 17 (.take 18 (.both [(19, .done)])))])))])]), (13, .both [(4, .both [(7, .take 14 (.take 15 (.both [(16, .take 17 (.take 18 (.both [(19, .done)])))])))])])]), (13, .both [(4, .both [(6, .both [(7, .take 14 (.take 15 (.both [(16, .take 17 (.take 18 (.both [(19, .done)])))])))])]), (6, .both [(4, .both [(7, .take 14 (.take 15 (.both [(16, .take 17 (.take 18 (.both [(19, .done)])))])))])])])])), (13, .both [(4, .both [(6, .both [(7, .take 14 (.take 15 (.both [(9, .take 10 (.both [(16, .take 17 (.take 18 (.both [(19, .done)])))])), (16, .both [(9, .take 10 (.take 17 (.take 18 (.both [(19, .done)]))))])]))), (9, .take 10 (.both [(7, .take 14 (.take 15 (.both [(16, .take 17 (.take 18 (.both [(19, .done)])))])))]))]), (9, .take 10 (.both [(6, .both [(7, .take 14 (.take 15 (.both [(16, .take 17 (.take 18 (.both [(19, .done)])))])))])]))]), (6, .both [(4, .both [(7, .take 14 (.take 15 (.both [(9, .take 10 (.both [(16, .take 17 (.take 18 (.both [(19, .done)])))])), (16, .both [(9, .take 10 (.take 17 (.take 18 (.both [(19, .done)]))))])]))), (9, .take 10 (.both [(7, .take 14 (.take 15 (.both [(16, .take 17 (.take 18 (.both [(19, .done)])))])))]))]), (9, .take 10 (.both [(4, .both [(7, .take 14 (.take 15 (.both [(16, .take 17 (.take 18 (.both [(19, .done)])))])))])]))]), (9, .take 10 (.both [(4, .both [(6, .both [(7, .take 14 (.take 15 (.both [(16, .take 17 (.take 18 (.both [(19, .done)])))])))])]), (6, .both [(4, .both [(7, .take 14 (.take 15 (.both [(16, .take 17 (.take 18 (.both [(19, .done)])))])))])])]))])]))))))))) (by kernel_rfl) (by kernel_rfl) ?_ ?_
  · refine zc ?_;try exact trivial
    repeat' (with_reducible apply And.intro)
    all_goals first | exact leCs_refl _ | (refine rf_le ⟨leC_refl _, ?_, ?_, leC_refl _, leC_refl _, leC_refl _, ?_, ?_, ?_, ?_, ?_, ?_, ?_, ?_, ?_⟩ <;> rfl) | trace_state
  refine zc ?_;try exact trivial
  all_goals first | exact leCs_refl _ | (refine rf_le ⟨leC_refl _, ?_, ?_, leC_refl _, leC_refl _, leC_refl _, ?_, ?_, ?_, ?_, ?_, ?_, ?_, ?_, ?_⟩ <;> rfl) | trace_state
set_option maxRecDepth 20000 in
set_option maxHeartbeats 16000000 in
theorem rapplyY2_h (c : Ct) (player other frame n : Int) (inp : UInt16) (h : Inv18 c) (hl : c.events.length ≤ 100000) (hm : mayP18 c ⟨2, player, other, frame, inp, n⟩ = 0) (ho : c.opn = true) (hs : 0 ≤ seatP c player) : Holds Tryz.prog 20 [.ptr (.arg 0) 0, .ev ⟨2, player, other, frame, inp, n⟩] [(.arg 0, rfB (.arg 0) c)] (fun r h' => r = .int .i64 0 ∧ h' = [(.arg 0, rfB (.arg 0) ((joinP c ⟨2, player, other, frame, inp, n⟩).add ⟨2, player, other, frame, inp, n⟩))]) := by
  have hy := rmay_all c ⟨2, player, other, frame, inp, n⟩ h hl
  rw [hm] at hy
  have l0 := h.e0
  have l1 := h.e1
  have b0 := h.l0
  have b1 := h.l1
  have hq := rseat_h (c.add ⟨2, player, other, frame, inp, n⟩) player
  have eq : seatR (c.add ⟨2, player, other, frame, inp, n⟩) player = seatP c player := by rw [seatR_add]; unfold seatR; rw [if_pos ho]
  rw [eq] at hq
  refine holds_of_awp Tryz.func20 rfl (by decide +kernel) mixed Tryz.ntmps20 Tryz.results20 ?_
  refine zE ?_
  refine zc ?_;try exact trivial
  refine a_call [.arg 0] (hy) (ok1 rfl) ?_ ?_ ?_
  · refine zs ?_;try exact trivial
  · refine zs ?_;try exact trivial
  rintro _ _ ⟨rfl, rfl⟩
  refine zc ?_;try exact trivial
  refine a_drawC (⟨[V.cell (.ptr (.arg 0) 0), .undef, .undef, V.cell (.ptr (.loc [3]) 0), V.int .i64 0, U, U, U, U, U, U, U, U, U, U, U, U, U, U, U, U, U, U, U, U, U, U, U, U, U, U, U, U, U, U, U, U, U, U, U, U, U, U, U, U, U, U, U, U, U, U, U, U, U, U, U, U, U, U, U, U, U, U, U, U, U, U, U, U, U, U, U, U, U, U, U, U, U, U, U, U, U, U, U, U, U, U, U, U, U, U, U, U, U, U, U, U, U, U, U, U, U, U, .undef], [(.loc [3], evC ⟨2, player, other, frame, inp, n⟩), (.arg 0, rfB (.arg 0) (c.add ⟨2, player, other, frame, inp, n⟩))]⟩) (.take 0 (.take 1 (.take 2 (.take 3 (.both [(4, .both [(5, .both [(6, .both [(7, .take 8 (.take 9 (.both [(10, .done)])))])])]), (5, .both [(4, .both [(6, .both [(7, .take 8 (.take 9 (.both [(10, .done)])))])]), (6, .both [(4, .both [(7, .take 8 (.take 9 (.both [(10, .done)])))])])])]))))) (by kernel_rfl) (by kernel_rfl) ?_ ?_
  · refine zc ?_;try exact trivial
    repeat' (with_reducible apply And.intro)
    all_goals first | omega | exact leCs_refl _ | trace_state
  refine zc ?_;try exact trivial
  refine a_call [.arg 0] hq (ok1 rfl) ?_ ?_ ?_
  · refine zs ?_;try exact trivial
  · refine zs ?_;try exact trivial
    all_goals exact leCs_refl _
  rintro _ _ ⟨rfl, rfl⟩
  rcases seat_cases c player (by omega) with q | q
  · rw [q]
    refine zc ?_;try exact trivial
    have en : ∀ i, rfB i ((joinP c ⟨2, player, other, frame, inp, n⟩).add ⟨2, player, other, frame, inp, n⟩) = rfB i (({ c with l0 := c.l0 + 1 } : Ct).add ⟨2, player, other, frame, inp, n⟩) := fun i => by unfold joinP; simp only; rw [if_pos q]
    rw [en]
    refine a_drawC (⟨[V.cell (.ptr (.arg 0) 0), .undef, .undef, V.cell (.ptr (.loc [3]) 0), V.int .i64 0, U, U, U, U, U, U, U, U, U, U, U, U, U, U, U, U, U, U, U, U, U, U, U, U, U, U, U, U, U, U, U, U, U, U, U, U, U, U, U, U, U, U, U, U, U, U, U, U, U, U, U, U, U, U, U, U, U, U, U, U, U, U, U, U, U, U, U, U, U, U, U, U, U, U, U, U, U, U, U, U, U, U, U, U, U, U, U, U, U, U, U, U, U, U, U, U, U, U, .undef], [(.loc [3], evC ⟨2, player, other, frame, inp, n⟩), (.arg 0, rfB (.arg 0) (({ c with l0 := c.l0 + 1 } : Ct).add ⟨2, player, other, frame, inp, n⟩))]⟩) (.take 0 (.take 1 (.take 2 (.take 3 (.take 4 (.take 7 (.take 8 (.both [(5, .take 6 (.take 9 (.both [(10, .done)])))])))))))) (by kernel_rfl) (by kernel_rfl) ?_ ?_
    · refine zc ?_;try exact trivial
      repeat' (with_reducible apply And.intro)
      all_goals first | omega | exact leCs_refl _ | (refine rf_le ⟨leC_refl _, ?_, ?_, leC_refl _, leC_refl _, leC_refl _, ?_, ?_, ?_, ?_, ?_, ?_, ?_, ?_, ?_⟩ <;> rfl) | trace_state
    refine zc ?_;try exact trivial
    all_goals first | exact leCs_refl _ | (refine rf_le ⟨leC_refl _, ?_, ?_, leC_refl _, leC_refl _, leC_refl _, ?_, ?_, ?_, ?_, ?_, ?_, ?_, ?_, ?_⟩ <;> rfl) | trace_state
  rw [q]
  refine zc ?_;try exact trivial
  have en : ∀ i, rfB i ((joinP c ⟨2, player, other, frame, inp, n⟩).add ⟨2, player, other, frame, inp, n⟩) = rfB i (({ c with l1 := c.l1 + 1 } : Ct).add ⟨2, player, other, frame, inp, n⟩) := fun i => by unfold joinP; simp only; rw [if_neg (show ¬ seatP c player = 0 by omega)]
  rw [en]
  refine a_drawC (⟨[V.cell (.ptr (.arg 0) 0), .undef, .undef, V.cell (.ptr (.loc [3]) 0), V.int .i64 0, U, U, U, U, U, U, U, U, U, U, U, U, U, U, U, U, U, U, U, U, U, U, U, U, U, U, U, U, U, U, U, U, U, U, U, U, U, U, U, U, U, U, U, U, U, U, U, U, U, U, U, U, U, U, U, U, U, U, U, U, U, U, U, U, U, U, U, U, U, U, U, U, U, U, U, U, U, U, U, U, U, U, U, U, U, U, U, U, U, U, U, U, U, U, U, U, U, U, .undef], [(.loc [3], evC ⟨2, player, other, frame, inp, n⟩), (.arg 0, rfB (.arg 0) (({ c with l1 := c.l1 + 1 } : Ct).add ⟨2, player, other, frame, inp, n⟩))]⟩) (.take 0 (.take 1 (.take 2 (.take 3 (.take 4 (.take 7 (.take 8 (.both [(5, .take 6 (.take 9 (.both [(10, .done)])))])))))))) (by kernel_rfl) (by kernel_rfl) ?_ ?_
  · refine zc ?_;try exact trivial
    repeat' (with_reducible apply And.intro)
    all_goals first | omega | exact leCs_refl _ | (refine rf_le ⟨leC_refl _, ?_, ?_, leC_refl _, leC_refl _, leC_refl _, ?_, ?_, ?_, ?_, ?_, ?_, ?_, ?_, ?_⟩ <;> rfl) | trace_state
  refine zc ?_;try exact trivial
  all_goals first | exact leCs_refl _ | (refine rf_le ⟨leC_refl _, ?_, ?_, leC_refl _, leC_refl _, leC_refl _, ?_, ?_, ?_, ?_, ?_, ?_, ?_, ?_, ?_⟩ <;> rfl) | trace_state
set_option maxRecDepth 20000 in
set_option maxHeartbeats 16000000 in
theorem rapplyY3_h (c : Ct) (player other frame n : Int) (inp : UInt16) (h : Inv18 c) (hl : c.events.length ≤ 100000) (hm : mayP18 c ⟨3, player, other, frame, inp, n⟩ = 0) (ho : c.opn = true) (hs : 0 ≤ seatP c player) : Holds Tryz.prog 20 [.ptr (.arg 0) 0, .ev ⟨3, player, other, frame, inp, n⟩] [(.arg 0, rfB (.arg 0) c)] (fun r h' => r = .int .i64 0 ∧ h' = [(.arg 0, rfB (.arg 0) ((inputP c ⟨3, player, other, frame, inp, n⟩).add ⟨3, player, other, frame, inp, n⟩))]) := by
  have hy := rmay_all c ⟨3, player, other, frame, inp, n⟩ h hl
  rw [hm] at hy
  have l0 := h.e0
  have l1 := h.e1
  have b0 := h.l0
  have b1 := h.l1
  have hq := rseat_h (c.add ⟨3, player, other, frame, inp, n⟩) player
  have eq : seatR (c.add ⟨3, player, other, frame, inp, n⟩) player = seatP c player := by rw [seatR_add]; unfold seatR; rw [if_pos ho]
  rw [eq] at hq
  refine holds_of_awp Tryz.func20 rfl (by decide +kernel) mixed Tryz.ntmps20 Tryz.results20 ?_
  refine zE ?_
  refine zc ?_;try exact trivial
  refine a_call [.arg 0] (hy) (ok1 rfl) ?_ ?_ ?_
  · refine zs ?_;try exact trivial
  · refine zs ?_;try exact trivial
  rintro _ _ ⟨rfl, rfl⟩
  refine zc ?_;try exact trivial
  refine a_drawC (⟨[V.cell (.ptr (.arg 0) 0), .undef, .undef, V.cell (.ptr (.loc [3]) 0), V.int .i64 0, U, U, U, U, U, U, U, U, U, U, U, U, U, U, U, U, U, U, U, U, U, U, U, U, U, U, U, U, U, U, U, U, U, U, U, U, U, U, U, U, U, U, U, U, U, U, U, U, U, U, U, U, U, U, U, U, U, U, U, U, U, U, U, U, U, U, U, U, U, U, U, U, U, U, U, U, U, U, U, U, U, U, U, U, U, U, U, U, U, U, U, U, U, U, U, U, U, U, .undef], [(.loc [3], evC ⟨3, player, other, frame, inp, n⟩), (.arg 0, rfB (.arg 0) (c.add ⟨3, player, other, frame, inp, n⟩))]⟩) (.take 0 (.take 1 (.take 2 (.take 3 (.both [(4, .both [(5, .both [(6, .both [(7, .take 8 (.take 9 (.both [(10, .done)])))])])]), (5, .both [(4, .both [(6, .both [(7, .take 8 (.take 9 (.both [(10, .done)])))])]), (6, .both [(4, .both [(7, .take 8 (.take 9 (.both [(10, .done)])))])])])]))))) (by kernel_rfl) (by kernel_rfl) ?_ ?_
  · refine zc ?_;try exact trivial
    repeat' (with_reducible apply And.intro)
    all_goals first | omega | exact leCs_refl _ | trace_state
  refine zc ?_;try exact trivial
  refine a_call [.arg 0] hq (ok1 rfl) ?_ ?_ ?_
  · refine zs ?_;try exact trivial
  · refine zs ?_;try exact trivial
    all_goals exact leCs_refl _
  rintro _ _ ⟨rfl, rfl⟩
  rcases seat_cases c player (by omega) with q | q
  · rw [q]
    refine zc ?_;try exact trivial
    have en : ∀ i, rfB i ((inputP c ⟨3, player, other, frame, inp, n⟩).add ⟨3, player, other, frame, inp, n⟩) = rfB i (({ c with in0 := c.in0 ++ [inp] } : Ct).add ⟨3, player, other, frame, inp, n⟩) := fun i => by unfold inputP inputP0; simp only; rw [if_pos q]; rfl
    rw [en]
    refine a_drawC (⟨[V.cell (.ptr (.arg 0) 0), .undef, .undef, V.cell (.ptr (.loc [3]) 0), V.int .i64 0, U, U, U, U, U, U, U, U, U, U, U, U, U, U, U, U, U, U, U, U, U, U, U, U, U, U, U, U, U, U, U, U, U, U, U, U, U, U, U, U, U, U, U, U, U, U, U, U, U, U, U, U, U, U, U, U, U, U, U, U, U, U, U, U, U, U, U, U, U, U, U, U, U, U, U, U, U, U, U, U, U, U, U, U, U, U, U, U, U, U, U, U, U, U, U, U, U, U, .undef], [(.loc [3], evC ⟨3, player, other, frame, inp, n⟩), (.arg 0, rfB (.arg 0) (({ c with in0 := c.in0 ++ [inp] } : Ct).add ⟨3, player, other, frame, inp, n⟩))]⟩) (.take 0 (.take 1 (.take 2 (.take 3 (.take 4 (.take 5 (.take 6 (.take 8 (.take 12 (.take 13 (.both [(7, .both [(9, .both [(10, .both [(11, .take 14 (.both [(15, .done)]))])])]), (9, .both [(7, .both [(10, .both [(11, .take 14 (.both [(15, .done)]))])]), (10, .both [(7, .both [(11, .take 14 (.both [(15, .done)]))])])])]))))))))))) (by kernel_rfl) (by kernel_rfl) ?_ ?_
    · refine zc ?_;try exact trivial
      repeat' (with_reducible apply And.intro)
      all_goals first | omega | exact leCs_refl _ | (refine rf_le ⟨leC_refl _, ?_, ?_, leC_refl _, leC_refl _, leC_refl _, ?_, ?_, ?_, ?_, ?_, ?_, ?_, ?_, ?_⟩ <;> rfl) | trace_state
    refine zc ?_;try exact trivial
    all_goals first | exact leCs_refl _ | (refine rf_le ⟨leC_refl _, ?_, ?_, leC_refl _, leC_refl _, leC_refl _, ?_, ?_, ?_, ?_, ?_, ?_, ?_, ?_, ?_⟩ <;> rfl) | trace_state
  rw [q]
  refine zc ?_;try exact trivial
  have en : ∀ i, rfB i ((inputP c ⟨3, player, other, frame, inp, n⟩).add ⟨3, player, other, frame, inp, n⟩) = rfB i (({ c with in1 := c.in1 ++ [inp] } : Ct).add ⟨3, player, other, frame, inp, n⟩) := fun i => by unfold inputP inputP0; simp only; rw [if_neg (show ¬ seatP c player = 0 by omega)]; rfl
  rw [en]
  refine a_drawC (⟨[V.cell (.ptr (.arg 0) 0), .undef, .undef, V.cell (.ptr (.loc [3]) 0), V.int .i64 0, U, U, U, U, U, U, U, U, U, U, U, U, U, U, U, U, U, U, U, U, U, U, U, U, U, U, U, U, U, U, U, U, U, U, U, U, U, U, U, U, U, U, U, U, U, U, U, U, U, U, U, U, U, U, U, U, U, U, U, U, U, U, U, U, U, U, U, U, U, U, U, U, U, U, U, U, U, U, U, U, U, U, U, U, U, U, U, U, U, U, U, U, U, U, U, U, U, U, .undef], [(.loc [3], evC ⟨3, player, other, frame, inp, n⟩), (.arg 0, rfB (.arg 0) (({ c with in1 := c.in1 ++ [inp] } : Ct).add ⟨3, player, other, frame, inp, n⟩))]⟩) (.take 0 (.take 1 (.take 2 (.take 3 (.take 4 (.take 5 (.take 6 (.take 8 (.take 12 (.take 13 (.both [(7, .both [(9, .both [(10, .both [(11, .take 14 (.both [(15, .done)]))])])]), (9, .both [(7, .both [(10, .both [(11, .take 14 (.both [(15, .done)]))])]), (10, .both [(7, .both [(11, .take 14 (.both [(15, .done)]))])])])]))))))))))) (by kernel_rfl) (by kernel_rfl) ?_ ?_
  · refine zc ?_;try exact trivial
    repeat' (with_reducible apply And.intro)
    all_goals first | omega | exact leCs_refl _ | (refine rf_le ⟨leC_refl _, ?_, ?_, leC_refl _, leC_refl _, leC_refl _, ?_, ?_, ?_, ?_, ?_, ?_, ?_, ?_, ?_⟩ <;> rfl) | trace_state
  refine zc ?_;try exact trivial
  all_goals first | exact leCs_refl _ | (refine rf_le ⟨leC_refl _, ?_, ?_, leC_refl _, leC_refl _, leC_refl _, ?_, ?_, ?_, ?_, ?_, ?_, ?_, ?_, ?_⟩ <;> rfl) | trace_state
set_option maxRecDepth 20000 in
set_option maxHeartbeats 16000000 in
theorem rapplyY4_h (c : Ct) (player other frame n : Int) (inp : UInt16) (h : Inv18 c) (hl : c.events.length ≤ 100000) (hm : mayP18 c ⟨4, player, other, frame, inp, n⟩ = 0) (ho : c.opn = true) (hs : 0 ≤ seatP c player) : Holds Tryz.prog 20 [.ptr (.arg 0) 0, .ev ⟨4, player, other, frame, inp, n⟩] [(.arg 0, rfB (.arg 0) c)] (fun r h' => r = .int .i64 0 ∧ h' = [(.arg 0, rfB (.arg 0) ((forfeitP c ⟨4, player, other, frame, inp, n⟩).add ⟨4, player, other, frame, inp, n⟩))]) := by
  have hy := rmay_all c ⟨4, player, other, frame, inp, n⟩ h hl
  rw [hm] at hy
  have l0 := h.e0
  have l1 := h.e1
  have b0 := h.l0
  have b1 := h.l1
  have hq := rseat_h (c.add ⟨4, player, other, frame, inp, n⟩) player
  have eq : seatR (c.add ⟨4, player, other, frame, inp, n⟩) player = seatP c player := by rw [seatR_add]; unfold seatR; rw [if_pos ho]
  rw [eq] at hq
  refine holds_of_awp Tryz.func20 rfl (by decide +kernel) mixed Tryz.ntmps20 Tryz.results20 ?_
  refine zE ?_
  refine zc ?_;try exact trivial
  refine a_call [.arg 0] (hy) (ok1 rfl) ?_ ?_ ?_
  · refine zs ?_;try exact trivial
  · refine zs ?_;try exact trivial
  rintro _ _ ⟨rfl, rfl⟩
  refine zc ?_;try exact trivial
  refine a_drawC (⟨[V.cell (.ptr (.arg 0) 0), .undef, .undef, V.cell (.ptr (.loc [3]) 0), V.int .i64 0, U, U, U, U, U, U, U, U, U, U, U, U, U, U, U, U, U, U, U, U, U, U, U, U, U, U, U, U, U, U, U, U, U, U, U, U, U, U, U, U, U, U, U, U, U, U, U, U, U, U, U, U, U, U, U, U, U, U, U, U, U, U, U, U, U, U, U, U, U, U, U, U, U, U, U, U, U, U, U, U, U, U, U, U, U, U, U, U, U, U, U, U, U, U, U, U, U, U, .undef], [(.loc [3], evC ⟨4, player, other, frame, inp, n⟩), (.arg 0, rfB (.arg 0) (c.add ⟨4, player, other, frame, inp, n⟩))]⟩) (.take 0 (.take 1 (.take 2 (.take 3 (.both [(4, .both [(5, .both [(6, .both [(7, .take 8 (.take 9 (.both [(10, .done)])))])])]), (5, .both [(4, .both [(6, .both [(7, .take 8 (.take 9 (.both [(10, .done)])))])]), (6, .both [(4, .both [(7, .take 8 (.take 9 (.both [(10, .done)])))])])])]))))) (by kernel_rfl) (by kernel_rfl) ?_ ?_
  · refine zc ?_;try exact trivial
    repeat' (with_reducible apply And.intro)
    all_goals first | omega | exact leCs_refl _ | trace_state
  refine zc ?_;try exact trivial
  refine a_call [.arg 0] hq (ok1 rfl) ?_ ?_ ?_
  · refine zs ?_;try exact trivial
  · refine zs ?_;try exact trivial
    all_goals exact leCs_refl _
  rintro _ _ ⟨rfl, rfl⟩
  rcases seat_cases c player (by omega) with q | q
  · rw [q]
    refine zc ?_;try exact trivial
    have en : ∀ i, rfB i ((forfeitP c ⟨4, player, other, frame, inp, n⟩).add ⟨4, player, other, frame, inp, n⟩) = rfB i (({ c with over := true, winner := 1, why := 3 } : Ct).add ⟨4, player, other, frame, inp, n⟩) := fun i => by unfold forfeitP; simp only; rw [q]; rfl
    rw [en]
    all_goals first | exact leCs_refl _ | (refine rf_le ⟨leC_refl _, ?_, ?_, leC_refl _, leC_refl _, leC_refl _, ?_, ?_, ?_, ?_, ?_, ?_, ?_, ?_, ?_⟩ <;> rfl) | trace_state
  rw [q]
  refine zc ?_;try exact trivial
  have en : ∀ i, rfB i ((forfeitP c ⟨4, player, other, frame, inp, n⟩).add ⟨4, player, other, frame, inp, n⟩) = rfB i (({ c with over := true, winner := 0, why := 3 } : Ct).add ⟨4, player, other, frame, inp, n⟩) := fun i => by unfold forfeitP; simp only; rw [q]; rfl
  rw [en]
  all_goals first | exact leCs_refl _ | (refine rf_le ⟨leC_refl _, ?_, ?_, leC_refl _, leC_refl _, leC_refl _, ?_, ?_, ?_, ?_, ?_, ?_, ?_, ?_, ?_⟩ <;> rfl) | trace_state
set_option maxRecDepth 20000 in
set_option maxHeartbeats 16000000 in
theorem rapplyY5_h (c : Ct) (player other frame n : Int) (inp : UInt16) (h : Inv18 c) (hl : c.events.length ≤ 100000) (hm : mayP18 c ⟨5, player, other, frame, inp, n⟩ = 0) (ho : c.opn = true) (hs : 0 ≤ seatP c player) : Holds Tryz.prog 20 [.ptr (.arg 0) 0, .ev ⟨5, player, other, frame, inp, n⟩] [(.arg 0, rfB (.arg 0) c)] (fun r h' => r = .int .i64 0 ∧ h' = [(.arg 0, rfB (.arg 0) ((resultP c ⟨5, player, other, frame, inp, n⟩).add ⟨5, player, other, frame, inp, n⟩))]) := by
  have hy := rmay_all c ⟨5, player, other, frame, inp, n⟩ h hl
  rw [hm] at hy
  have l0 := h.e0
  have l1 := h.e1
  have b0 := h.l0
  have b1 := h.l1
  have hq := rseat_h (c.add ⟨5, player, other, frame, inp, n⟩) player
  have eq : seatR (c.add ⟨5, player, other, frame, inp, n⟩) player = seatP c player := by rw [seatR_add]; unfold seatR; rw [if_pos ho]
  rw [eq] at hq
  refine holds_of_awp Tryz.func20 rfl (by decide +kernel) mixed Tryz.ntmps20 Tryz.results20 ?_
  refine zE ?_
  refine zc ?_;try exact trivial
  refine a_call [.arg 0] (hy) (ok1 rfl) ?_ ?_ ?_
  · refine zs ?_;try exact trivial
  · refine zs ?_;try exact trivial
  rintro _ _ ⟨rfl, rfl⟩
  refine zc ?_;try exact trivial
  refine a_drawC (⟨[V.cell (.ptr (.arg 0) 0), .undef, .undef, V.cell (.ptr (.loc [3]) 0), V.int .i64 0, U, U, U, U, U, U, U, U, U, U, U, U, U, U, U, U, U, U, U, U, U, U, U, U, U, U, U, U, U, U, U, U, U, U, U, U, U, U, U, U, U, U, U, U, U, U, U, U, U, U, U, U, U, U, U, U, U, U, U, U, U, U, U, U, U, U, U, U, U, U, U, U, U, U, U, U, U, U, U, U, U, U, U, U, U, U, U, U, U, U, U, U, U, U, U, U, U, U, .undef], [(.loc [3], evC ⟨5, player, other, frame, inp, n⟩), (.arg 0, rfB (.arg 0) (c.add ⟨5, player, other, frame, inp, n⟩))]⟩) (.take 0 (.take 1 (.take 2 (.take 3 (.both [(4, .both [(5, .both [(6, .both [(7, .take 8 (.take 9 (.both [(10, .done)])))])])]), (5, .both [(4, .both [(6, .both [(7, .take 8 (.take 9 (.both [(10, .done)])))])]), (6, .both [(4, .both [(7, .take 8 (.take 9 (.both [(10, .done)])))])])])]))))) (by kernel_rfl) (by kernel_rfl) ?_ ?_
  · refine zc ?_;try exact trivial
    repeat' (with_reducible apply And.intro)
    all_goals first | omega | exact leCs_refl _ | trace_state
  refine zc ?_;try exact trivial
  refine a_call [.arg 0] hq (ok1 rfl) ?_ ?_ ?_
  · refine zs ?_;try exact trivial
  · refine zs ?_;try exact trivial
    all_goals exact leCs_refl _
  rintro _ _ ⟨rfl, rfl⟩
  rcases seat_cases c player (by omega) with q | q
  · rw [q]
    refine zc ?_;try exact trivial
    have en : ∀ i, rfB i ((resultP c ⟨5, player, other, frame, inp, n⟩).add ⟨5, player, other, frame, inp, n⟩) = rfB i (({ c with over := true, winner := 0, why := n } : Ct).add ⟨5, player, other, frame, inp, n⟩) := fun i => by unfold resultP; simp only; rw [q]
    rw [en]
    refine a_drawC (⟨[V.cell (.ptr (.arg 0) 0), .undef, .undef, V.cell (.ptr (.loc [3]) 0), V.int .i64 0, U, U, U, U, U, U, U, U, U, U, U, U, U, U, U, U, U, U, U, U, U, U, U, U, U, U, U, U, U, U, U, U, U, U, U, U, U, U, U, U, U, U, U, U, U, U, U, U, U, U, U, U, U, U, U, U, U, U, U, U, U, U, U, U, U, U, U, U, U, U, U, U, U, U, U, U, U, U, U, U, U, U, U, U, U, U, U, U, U, U, U, U, U, U, U, U, U, U, .undef], [(.loc [3], evC ⟨5, player, other, frame, inp, n⟩), (.arg 0, rfB (.arg 0) (({ c with over := true, winner := 0, why := n } : Ct).add ⟨5, player, other, frame, inp, n⟩))]⟩) (.take 0 (.take 1 (.take 2 (.take 3 (.take 4 (.take 6 (.take 7 (.both [(5, .both [(8, .take 9 (.take 10 (.both [(11, .take 12 (.take 13 (.both [(14, .done)])))])))]), (8, .take 9 (.take 10 (.both [(5, .both [(11, .take 12 (.take 13 (.both [(14, .done)])))]), (11, .both [(5, .take 12 (.take 13 (.both [(14, .done)])))])])))])))))))) (by kernel_rfl) (by kernel_rfl) ?_ ?_
    · refine zc ?_;try exact trivial
      repeat' (with_reducible apply And.intro)
      all_goals first | omega | exact leCs_refl _ | (refine rf_le ⟨leC_refl _, ?_, ?_, leC_refl _, leC_refl _, leC_refl _, ?_, ?_, ?_, ?_, ?_, ?_, ?_, ?_, ?_⟩ <;> rfl) | trace_state
    refine zc ?_;try exact trivial
    all_goals first | exact leCs_refl _ | (refine rf_le ⟨leC_refl _, ?_, ?_, leC_refl _, leC_refl _, leC_refl _, ?_, ?_, ?_, ?_, ?_, ?_, ?_, ?_, ?_⟩ <;> rfl) | trace_state
  rw [q]
  refine zc ?_;try exact trivial
  have en : ∀ i, rfB i ((resultP c ⟨5, player, other, frame, inp, n⟩).add ⟨5, player, other, frame, inp, n⟩) = rfB i (({ c with over := true, winner := 1, why := n } : Ct).add ⟨5, player, other, frame, inp, n⟩) := fun i => by unfold resultP; simp only; rw [q]
  rw [en]
  refine a_drawC (⟨[V.cell (.ptr (.arg 0) 0), .undef, .undef, V.cell (.ptr (.loc [3]) 0), V.int .i64 0, U, U, U, U, U, U, U, U, U, U, U, U, U, U, U, U, U, U, U, U, U, U, U, U, U, U, U, U, U, U, U, U, U, U, U, U, U, U, U, U, U, U, U, U, U, U, U, U, U, U, U, U, U, U, U, U, U, U, U, U, U, U, U, U, U, U, U, U, U, U, U, U, U, U, U, U, U, U, U, U, U, U, U, U, U, U, U, U, U, U, U, U, U, U, U, U, U, U, .undef], [(.loc [3], evC ⟨5, player, other, frame, inp, n⟩), (.arg 0, rfB (.arg 0) (({ c with over := true, winner := 1, why := n } : Ct).add ⟨5, player, other, frame, inp, n⟩))]⟩) (.take 0 (.take 1 (.take 2 (.take 3 (.take 4 (.take 6 (.take 7 (.both [(5, .both [(8, .take 9 (.take 10 (.both [(11, .take 12 (.take 13 (.both [(14, .done)])))])))]), (8, .take 9 (.take 10 (.both [(5, .both [(11, .take 12 (.take 13 (.both [(14, .done)])))]), (11, .both [(5, .take 12 (.take 13 (.both [(14, .done)])))])])))])))))))) (by kernel_rfl) (by kernel_rfl) ?_ ?_
  · refine zc ?_;try exact trivial
    repeat' (with_reducible apply And.intro)
    all_goals first | omega | exact leCs_refl _ | (refine rf_le ⟨leC_refl _, ?_, ?_, leC_refl _, leC_refl _, leC_refl _, ?_, ?_, ?_, ?_, ?_, ?_, ?_, ?_, ?_⟩ <;> rfl) | trace_state
  refine zc ?_;try exact trivial
  all_goals first | exact leCs_refl _ | (refine rf_le ⟨leC_refl _, ?_, ?_, leC_refl _, leC_refl _, leC_refl _, ?_, ?_, ?_, ?_, ?_, ?_, ?_, ?_, ?_⟩ <;> rfl) | trace_state
end
section
theorem mayX_h (c : Ct) (e : Ev) (hk : e.kind < 1 ∨ 6 ≤ e.kind) : Holds Tryz.prog 55 [.ptr (.arg 0) 0, .ev e] [(.arg 0, ctB (.arg 0) c)] (fun r h' => r = .int .i64 (mayP18 c e) ∧ h' = [(.arg 0, ctB (.arg 0) c)]) := by
  have em : mayP18 c e = 3 := by unfold mayP18; rw [if_pos hk]
  rw [em]
  refine holds_of_awp Tryz.func55 rfl (by decide +kernel) mixed Tryz.ntmps55 Tryz.results55 ?_
  refine zE ?_
  cases d1 : decide (e.kind < 1)
  · have d2 : decide (6 ≤ e.kind) = true := decide_eq_true (by have := of_decide_eq_false d1; omega)
    simp (maxSteps:=2000000) (disch:=omega) only [go_sem,Nat.reduceAdd,Nat.reduceSub,Nat.reduceMul,Nat.reduceBEq,Nat.reduceEqDiff,Nat.reduceLT,Nat.reduceLeDiff,Nat.reduceDiv,reduceIte,reduceCtorEq, d1, d2]
  simp (maxSteps:=2000000) (disch:=omega) only [go_sem,Nat.reduceAdd,Nat.reduceSub,Nat.reduceMul,Nat.reduceBEq,Nat.reduceEqDiff,Nat.reduceLT,Nat.reduceLeDiff,Nat.reduceDiv,reduceIte,reduceCtorEq, d1]
theorem applyX_h (c : Ct) (e : Ev) (hk : e.kind < 1 ∨ 6 ≤ e.kind) : Holds Tryz.prog 40 [.ptr (.arg 0) 0, .ev e] [(.arg 0, ctB (.arg 0) c)] (fun r h' => r = .int .i64 (mayP18 c e) ∧ h' = [(.arg 0, ctB (.arg 0) c)]) := by
  have em : mayP18 c e = 3 := by unfold mayP18; rw [if_pos hk]
  have hm := mayX_h c e hk
  rw [em] at hm ⊢
  refine holds_of_awp Tryz.func40 rfl (by decide +kernel) mixed Tryz.ntmps40 Tryz.results40 ?_
  refine zE ?_
  refine zc ?_;try exact trivial
  refine a_call [.arg 0] (hm) (ok1 rfl) ?_ ?_ ?_
  · refine zs ?_;try exact trivial
  · refine zs ?_;try exact trivial
  rintro _ _ ⟨rfl, rfl⟩
  refine zc ?_;try exact trivial
theorem doP_events (c : Ct) (e : Ev) : (doP c e).events = c.events := by
  unfold doP openP joinP inputP goP inputP0 forfeitP resultP
  repeat' split
  all_goals rfl
theorem apply_all (c : Ct) (e : Ev) (h : Inv18 c) (hl : c.events.length ≤ 100000) : Holds Tryz.prog 40 [.ptr (.arg 0) 0, .ev e] [(.arg 0, ctB (.arg 0) c)] (fun r h' => r = .int .i64 (mayP18 c e) ∧ h' = [(.arg 0, ctB (.arg 0) (nextP c e))]) := by
  have e0 := h.e0
  have e1 := h.e1
  by_cases hk : e.kind < 1 ∨ 6 ≤ e.kind
  · have em : mayP18 c e = 3 := by unfold mayP18; rw [if_pos hk]
    have en : nextP c e = c := by unfold nextP; rw [if_neg (by omega)]
    rw [en]
    exact applyX_h c e hk
  by_cases hm : mayP18 c e = 0
  · have en : nextP c e = (doP c e).add e := by unfold nextP; rw [if_pos hm]
    have hd : (doP c e).events.length ≤ 1000000 := by rw [doP_events]; omega
    obtain ⟨_, hb, h1⟩ := may_kind hm
    rw [en, hm]
    unfold may1P at h1
    unfold doP at hd ⊢
    rcases (by omega : e.kind = 1 ∨ e.kind = 2 ∨ e.kind = 3 ∨ e.kind = 4 ∨ e.kind = 5) with k | k | k | k | k
    · rw [if_pos k] at h1 hd ⊢
      have hn : 0 ≤ e.n ∧ e.n ≤ 4294967295 := by
        unfold mayOpenP at h1
        by_cases q : c.opn = true
        · rw [if_pos q] at h1; cases h1
        rw [if_neg q] at h1
        by_cases q2 : e.player < 1 ∨ e.other < 1 ∨ e.player = e.other ∨ e.n < 0 ∨ 4294967295 < e.n
        · rw [if_pos q2] at h1; cases h1
        omega
      have ho := open_h c e hn
      generalize openP c e = c' at hd ho ⊢
      rw [ev_eq k] at hm ho ⊢
      exact applyY1_h c c' _ _ _ _ _ hm hd ho
    · rw [if_neg (by omega), if_pos k] at h1 hd ⊢
      have hs := (act_0 (mayJoin_0 h1).1).2.2.2
      have ho := join_h c e hs (by have := h.l0; omega) (by have := h.l1; omega)
      generalize joinP c e = c' at hd ho ⊢
      rw [ev_eq k] at hm ho ⊢
      exact applyY2_h c c' _ _ _ _ _ hm hd ho
    · rw [if_neg (by omega), if_neg (by omega), if_pos k] at h1 hd ⊢
      have hs := (act_0 (mayInput_0 h1)).2.2.2
      have hle := h.le
      have ho := input_h c e (by omega) (by omega) (by omega) hs h.g h.B
      generalize inputP c e = c' at hd ho ⊢
      rw [ev_eq k] at hm ho ⊢
      exact applyY3_h c c' _ _ _ _ _ (by omega) (by omega) hm hd ho
    · rw [if_neg (by omega), if_neg (by omega), if_neg (by omega), if_pos k] at h1 hd ⊢
      have hs := (act_0 h1).2.2.2
      have ho := forfeit_h c e hs
      generalize forfeitP c e = c' at hd ho ⊢
      rw [ev_eq k] at hm ho ⊢
      exact applyY4_h c c' _ _ _ _ _ hm hd ho
    rw [if_neg (by omega), if_neg (by omega), if_neg (by omega), if_neg (by omega)] at h1 hd ⊢
    have hs : 0 ≤ seatP c e.player := by
      unfold mayResultP at h1
      by_cases q1 : c.opn = false
      · rw [if_pos q1] at h1; cases h1
      rw [if_neg q1] at h1
      by_cases q2 : c.over = true
      · rw [if_pos q2] at h1; cases h1
      rw [if_neg q2] at h1
      by_cases q3 : (resP c.st c.cap).2.2 = false
      · rw [if_pos q3] at h1; cases h1
      rw [if_neg q3] at h1
      by_cases q4 : e.player ≠ (if (resP c.st c.cap).1 = 0 then c.p0 else c.p1) ∨ e.n ≠ (resP c.st c.cap).2.1
      · rw [if_pos q4] at h1; cases h1
      have q5 : e.player = (if (resP c.st c.cap).1 = 0 then c.p0 else c.p1) := Decidable.byContradiction fun x => q4 (.inl x)
      unfold seatP
      rw [q5]
      by_cases w : (resP c.st c.cap).1 = 0
      · rw [if_pos w, if_pos rfl]; omega
      rw [if_neg w]
      by_cases y : c.p0 = c.p1
      · rw [if_pos y]; omega
      rw [if_neg y, if_pos rfl]; omega
    have ho := result_h c e hs
    generalize resultP c e = c' at hd ho ⊢
    rw [ev_eq k] at hm ho ⊢
    exact applyY5_h c c' _ _ _ _ _ h.win hm hd ho
  have en : nextP c e = c := by unfold nextP; rw [if_neg hm]
  rw [en]
  rcases (by omega : e.kind = 1 ∨ e.kind = 2 ∨ e.kind = 3 ∨ e.kind = 4 ∨ e.kind = 5) with k | k | k | k | k
  · rw [ev_eq k] at hm ⊢; exact applyN1_h c _ _ _ _ _ hm
  · rw [ev_eq k] at hm ⊢; exact applyN2_h c _ _ _ _ _ hm
  · rw [ev_eq k] at hm ⊢; exact applyN3_h c _ _ _ _ _ (by omega) (by omega) hm
  · rw [ev_eq k] at hm ⊢; exact applyN4_h c _ _ _ _ _ hm
  rw [ev_eq k] at hm ⊢; exact applyN5_h c _ _ _ _ _ h.win hm
/-- what both did, as a copy -/
theorem pairs_h (c : Ct) (hb : c.pairs.length ≤ 100000000) : Holds Tryz.prog 25 [.ptr (.arg 0) 0] [(.arg 0, ctB (.arg 0) c)] (fun r h' => r = .cell (.lst .no none 2 (prs c.pairs)) ∧ h' = [(.arg 0, ctB (.arg 0) c)]) := by
  refine holds_of_awp Tryz.func25 rfl (by decide +kernel) mixed Tryz.ntmps25 Tryz.results25 ?_
  refine zE ?_
  refine zc ?_;try exact trivial
  refine a_call [] (cloneP_h c.pairs hb) ok0 ?_ ?_ ?_
  · refine zs ?_;try exact trivial
  · refine zs ?_;try exact trivial
  rintro _ _ ⟨rfl, rfl⟩
  refine zc ?_;try exact trivial
end
section
theorem rapply_all (c : Ct) (e : Ev) (h : Inv18 c) (hl : c.events.length ≤ 100000) : Holds Tryz.prog 20 [.ptr (.arg 0) 0, .ev e] [(.arg 0, rfB (.arg 0) c)] (fun r h' => r = .int .i64 (mayP18 c e) ∧ h' = [(.arg 0, rfB (.arg 0) (nextP c e))]) := by
  by_cases hm : mayP18 c e = 0
  · have en : nextP c e = (doP c e).add e := by unfold nextP; rw [if_pos hm]
    obtain ⟨hk, hb, h1⟩ := may_kind hm
    rw [en]
    have hm' := hm
    rw [hm]
    unfold may1P at h1
    unfold doP
    rcases (by omega : e.kind = 1 ∨ e.kind = 2 ∨ e.kind = 3 ∨ e.kind = 4 ∨ e.kind = 5) with k | k | k | k | k
    · rw [if_pos k] at h1 ⊢
      have hn : 0 ≤ e.n ∧ e.n ≤ 4294967295 := by
        unfold mayOpenP at h1
        by_cases q : c.opn = true
        · rw [if_pos q] at h1; cases h1
        rw [if_neg q] at h1
        by_cases q2 : e.player < 1 ∨ e.other < 1 ∨ e.player = e.other ∨ e.n < 0 ∨ 4294967295 < e.n
        · rw [if_pos q2] at h1; cases h1
        omega
      rw [ev_eq k] at hm' ⊢
      exact rapplyY1_h c _ _ _ _ _ h hl hm' hn
    · rw [if_neg (by omega), if_pos k] at h1 ⊢
      obtain ⟨o, _, _, hs⟩ := act_0 (mayJoin_0 h1).1
      rw [ev_eq k] at hm' ⊢
      exact rapplyY2_h c _ _ _ _ _ h hl hm' o hs
    · rw [if_neg (by omega), if_neg (by omega), if_pos k] at h1 ⊢
      obtain ⟨o, _, _, hs⟩ := act_0 (mayInput_0 h1)
      rw [ev_eq k] at hm' ⊢
      exact rapplyY3_h c _ _ _ _ _ h hl hm' o hs
    · rw [if_neg (by omega), if_neg (by omega), if_neg (by omega), if_pos k] at h1 ⊢
      obtain ⟨o, _, _, hs⟩ := act_0 h1
      rw [ev_eq k] at hm' ⊢
      exact rapplyY4_h c _ _ _ _ _ h hl hm' o hs
    rw [if_neg (by omega), if_neg (by omega), if_neg (by omega), if_neg (by omega)] at h1 ⊢
    have hs : c.opn = true ∧ 0 ≤ seatP c e.player := by
      unfold mayResultP at h1
      by_cases q1 : c.opn = false
      · rw [if_pos q1] at h1; cases h1
      rw [if_neg q1] at h1
      by_cases q2 : c.over = true
      · rw [if_pos q2] at h1; cases h1
      rw [if_neg q2] at h1
      by_cases q3 : (resP c.st c.cap).2.2 = false
      · rw [if_pos q3] at h1; cases h1
      rw [if_neg q3] at h1
      by_cases q4 : e.player ≠ (if (resP c.st c.cap).1 = 0 then c.p0 else c.p1) ∨ e.n ≠ (resP c.st c.cap).2.1
      · rw [if_pos q4] at h1; cases h1
      have q5 : e.player = (if (resP c.st c.cap).1 = 0 then c.p0 else c.p1) := Decidable.byContradiction fun x => q4 (.inl x)
      refine ⟨by cases q : c.opn; exact absurd q q1; rfl, ?_⟩
      unfold seatP
      rw [q5]
      by_cases w : (resP c.st c.cap).1 = 0
      · rw [if_pos w, if_pos rfl]; omega
      rw [if_neg w]
      by_cases y : c.p0 = c.p1
      · rw [if_pos y]; omega
      rw [if_neg y, if_pos rfl]; omega
    rw [ev_eq k] at hm' hs ⊢
    exact rapplyY5_h c _ _ _ _ _ h hl hm' hs.1 hs.2
  have en : nextP c e = c := by unfold nextP; rw [if_neg hm]
  rw [en]
  exact rapplyN_h c e h hl hm
end
section
def aWnS (P : Program) (l : List Oper) (t : Option Tmp) (w : Bool) (d : Option Tmp) (op : Op) (ty : TypeId) (ps : String) (af : Array Edge) (K : St → Prop) (s : St) : Prop :=
  aWn t s w (aStep P l.toArray ⟨d, op, ty, ps, af, none⟩ s K) (K (s.put d V.off))
def aWvS (P : Program) (l : List Oper) (v : V) (w : Bool) (d : Option Tmp) (op : Op) (ty : TypeId) (ps : String) (af : Array Edge) (K : St → Prop) (s : St) : Prop :=
  aWv v w (aStep P l.toArray ⟨d, op, ty, ps, af, none⟩ s K) (K (s.put d V.off))
section
variable {P : Program} {l : List Oper} {op : Op} {d : Option Tmp} {ty : TypeId} {ps : String} {af : Array Edge} {K : St → Prop} {s s' : St} {w : Bool}
@[congr] theorem cg_aWnS {t t' : Option Tmp} (h0 : t = t') (h1 : s = s') : aWnS P l t w d op ty ps af K s = aWnS P l t' w d op ty ps af K s' := by subst h0; subst h1; rfl
@[congr] theorem cg_aWvS {t t' : V} (h0 : t = t') (h1 : s = s') : aWvS P l t w d op ty ps af K s = aWvS P l t' w d op ty ps af K s' := by subst h0; subst h1; rfl
@[go_sem ↓ 1200] theorem s_guardS {j : Nat} : aStep P l.toArray ⟨d, op, ty, ps, af, some (j, w)⟩ s K = aWnS P l (opDst l j) w d op ty ps af K s := s_guard
@[go_sem ↓] theorem e_wnS {t : Tmp} {sl : List V} {h : Heap} : aWnS P l (some t) w d op ty ps af K ⟨sl, h⟩ = aWvS P l (sl.getD t V.undef) w d op ty ps af K ⟨sl, h⟩ := nr rfl
@[go_sem ↓] theorem e_wStt : aWvS P l (V.bool true) true d op ty ps af K s = aStep P l.toArray ⟨d, op, ty, ps, af, none⟩ s K := by simp [aWvS, aWv]
@[go_sem ↓] theorem e_wStf : aWvS P l (V.bool true) false d op ty ps af K s = K (s.put d V.off) := by simp [aWvS, aWv]
@[go_sem ↓] theorem e_wS0 : aWvS P l V.off w d op ty ps af K s = K (s.put d V.off) := nr rfl
@[go_sem ↓] theorem e_wSff : aWvS P l (V.bool false) false d op ty ps af K s = aStep P l.toArray ⟨d, op, ty, ps, af, none⟩ s K := by simp [aWvS, aWv]
end
end
section

end
section
structure Act where
  kind : Int
  seat : Int
  off : Int
  inp : UInt16
  e : Ev
abbrev aC (a : Act) : List C := [.val (.int .i64 a.kind), .val (.int .i64 a.seat), .val (.int .i64 a.off), .val (.int .u16 (U16 a.inp)), .val (.int .i64 a.e.kind), .val (.int .i64 a.e.player), .val (.int .i64 a.e.other), .val (.int .i64 a.e.frame), .val (.int .u16 (U16 a.e.inp)), .val (.int .i64 a.e.n)]
abbrev W.act (a : Act) : W := .agg (aC a)
def eventP (c : Ct) (a : Act) : Ev :=
  if a.kind = 1 then ⟨1, 1, 2, 0, 0, a.seat % 1024⟩
  else if a.kind = 2 then ⟨2, if a.seat % 2 = 0 then c.p0 else c.p1, 0, 0, 0, 0⟩
  else if a.kind = 3 then ⟨3, if a.seat % 2 = 0 then c.p0 else c.p1, 0, (if a.seat % 2 = 0 then (c.in0.length : Int) else (c.in1.length : Int)) + max (-2) (min 2 a.off), a.inp, 0⟩
  else if a.kind = 4 then ⟨4, if a.seat % 2 = 0 then c.p0 else c.p1, 0, 0, 0, 0⟩
  else if a.kind = 5 then ⟨5, IntKind.i64.wrap ((if (resP c.st c.cap).1 = 0 then c.p0 else c.p1) + max (-2) (min 2 a.off)), 0, 0, 0, (resP c.st c.cap).2.1⟩
  else a.e
theorem bits_and (a : Int) (k m : Nat) (hm : m = 2 ^ k - 1) (h1 : k ≤ 62) : (BitVec.ofInt IntKind.i64.bits a &&& BitVec.ofInt IntKind.i64.bits (m : Int)).toNat = (a % ((2 ^ k : Nat) : Int)).toNat := by
  show (BitVec.ofInt 64 a &&& BitVec.ofInt 64 (m : Int)).toNat = _
  have hp : 2 ^ k ≤ 2 ^ 62 := Nat.pow_le_pow_right (by omega) h1
  have hq : (2 : Nat) ^ 62 = 4611686018427387904 := rfl
  have h0 : 0 < 2 ^ k := Nat.two_pow_pos k
  rw [BitVec.toNat_and, BitVec.toNat_ofInt, BitVec.toNat_ofInt]
  have e1 : ((m : Int) % ((2 ^ 64 : Nat) : Int)).toNat = 2 ^ k - 1 := by omega
  rw [e1, Nat.and_two_pow_sub_one_eq_mod]
  have hd : ((2 ^ k : Nat) : Int) ∣ ((2 ^ 64 : Nat) : Int) := by
    refine Int.natCast_dvd_natCast.2 (Nat.pow_dvd_pow 2 (by omega))
  have e2 : a % ((2 ^ 64 : Nat) : Int) % ((2 ^ k : Nat) : Int) = a % ((2 ^ k : Nat) : Int) := Int.emod_emod_of_dvd a hd
  have p1 : 0 ≤ a % ((2 ^ 64 : Nat) : Int) := Int.emod_nonneg a (by omega)
  have e3 : (((a % ((2 ^ 64 : Nat) : Int)).toNat % 2 ^ k : Nat) : Int) = a % ((2 ^ k : Nat) : Int) := by
    rw [Int.natCast_emod, Int.toNat_of_nonneg p1]
    exact e2
  omega
@[go_sem ↓ 1200] theorem i64_m1 {a : Int} {V' : V → Prop} : aInt .and .i64 a .i64 1 V' = V' (.int .i64 (a % 2)) := by
  rw [e_and]
  have h := bits_and a 1 1 rfl (by omega)
  have e : ((1 : Nat) : Int) = 1 := rfl
  have e2 : ((2 ^ 1 : Nat) : Int) = 2 := rfl
  rw [e, e2] at h
  rw [h, wrap_i64 (by omega) (by omega), Int.toNat_of_nonneg (by omega)]
@[go_sem ↓ 1200] theorem i64_m1023 {a : Int} {V' : V → Prop} : aInt .and .i64 a .i64 1023 V' = V' (.int .i64 (a % 1024)) := by
  rw [e_and]
  have h := bits_and a 10 1023 rfl (by omega)
  have e : ((1023 : Nat) : Int) = 1023 := rfl
  have e2 : ((2 ^ 10 : Nat) : Int) = 1024 := rfl
  rw [e, e2] at h
  rw [h, wrap_i64 (by omega) (by omega), Int.toNat_of_nonneg (by omega)]
@[go_sem 1200] theorem t_act {x0 x1 x2 x3 x4 x5 x6 x7 x8 x9 : C} : List.take 6 (List.drop 4 [x0, x1, x2, x3, x4, x5, x6, x7, x8, x9]) = [x4, x5, x6, x7, x8, x9] := nr rfl

set_option maxRecDepth 20000 in
set_option maxHeartbeats 16000000 in
theorem event_h (c : Ct) (x : Act) (h : Inv18 c) (hl : c.events.length ≤ 100000) : Holds Tryz.prog 21 [.ptr (.arg 0) 0, .act x] [(.arg 0, rfB (.arg 0) c)] (fun r h' => r = .w (.ev (eventP c x)) ∧ h' = [(.arg 0, rfB (.arg 0) c)]) := by
  have hs := rst_h c h hl
  have l0 := h.e0
  have l1 := h.e1
  have hw := res_win (cap := c.cap) h.win
  have hr := rresult_h c.st c.cap c.fuel c.code
  refine holds_of_awp Tryz.func21 rfl (by decide +kernel) mixed Tryz.ntmps21 Tryz.results21 ?_
  refine zE ?_
  obtain ⟨kind, seat, off, inp, ⟨ek, ep, eo, ef, ei, en⟩⟩ := x
  have ho : -2 ≤ max (-2) (min 2 off) ∧ max (-2) (min 2 off) ≤ 2 := by omega
  obtain ⟨o, hoe⟩ : ∃ o, max (-2) (min 2 off) = o := ⟨_, rfl⟩
  rw [hoe] at ho
  rcases (by omega : seat % 2 = 0 ∨ seat % 2 = 1) with q | q
  · simp (maxSteps:=2000000) (disch:=omega) only [go_sem,Nat.reduceAdd,Nat.reduceSub,Nat.reduceMul,Nat.reduceBEq,Nat.reduceEqDiff,Nat.reduceLT,Nat.reduceLeDiff,Nat.reduceDiv,reduceIte,reduceCtorEq, q, hoe, Int.reduceLT, Int.reduceLE, Int.reduceToNat, Int.reduceNeg]
    cases k1 : decide (kind = 1)
    · skip
      cases k2 : decide (kind = 2)
      · skip
        cases k3 : decide (kind = 3)
        · skip
          cases k4 : decide (kind = 4)
          · skip
            cases k5 : decide (kind = 5)
            · skip
              have e : eventP c ⟨kind, seat, off, inp, ⟨ek, ep, eo, ef, ei, en⟩⟩ = ⟨ek, ep, eo, ef, ei, en⟩ := by unfold eventP; simp only; rw [if_neg (of_decide_eq_false k1), if_neg (of_decide_eq_false k2), if_neg (of_decide_eq_false k3), if_neg (of_decide_eq_false k4), if_neg (of_decide_eq_false k5)]
              rw [e]
              simp (maxSteps:=2000000) (disch:=omega) only [go_sem,Nat.reduceAdd,Nat.reduceSub,Nat.reduceMul,Nat.reduceBEq,Nat.reduceEqDiff,Nat.reduceLT,Nat.reduceLeDiff,Nat.reduceDiv,reduceIte,reduceCtorEq, k1, k2, k3, k4, k5, Int.reduceLT, Int.reduceLE, Int.reduceToNat]
              all_goals first | exact leCs_refl _ | exact rfX | trace_state
            skip
            have e : eventP c ⟨kind, seat, off, inp, ⟨ek, ep, eo, ef, ei, en⟩⟩ = ⟨5, IntKind.i64.wrap ((if (resP c.st c.cap).1 = 0 then c.p0 else c.p1) + o), 0, 0, 0, (resP c.st c.cap).2.1⟩ := by unfold eventP; simp only; rw [if_neg (of_decide_eq_false k1), if_neg (of_decide_eq_false k2), if_neg (of_decide_eq_false k3), if_neg (of_decide_eq_false k4), if_pos (of_decide_eq_true k5)]; rw [hoe]
            rw [e]
            simp (maxSteps:=2000000) (disch:=omega) only [go_sem,Nat.reduceAdd,Nat.reduceSub,Nat.reduceMul,Nat.reduceBEq,Nat.reduceEqDiff,Nat.reduceLT,Nat.reduceLeDiff,Nat.reduceDiv,reduceIte,reduceCtorEq, k1, k2, k3, k4, k5, Int.reduceLT, Int.reduceLE, Int.reduceToNat]
            generalize resP c.st c.cap = R at hr hw ⊢
            obtain ⟨w, y, z⟩ := R
            simp only at hr hw ⊢
            refine a_draw (.take 0 (.take 2 (.take 3 (.take 4 (.both [(1, .both [(5, .both [(6, .take 7 (.take 8 (.take 9 (.take 10 (.take 11 (.take 12 (.take 13 (.done))))))))])]), (5, .both [(1, .both [(6, .take 7 (.take 8 (.take 9 (.take 10 (.take 11 (.take 12 (.take 13 (.done))))))))])])]))))) (by kernel_rfl) (by kernel_rfl) ?_
            refine zc ?_;try exact trivial
            repeat' (with_reducible apply And.intro)
            all_goals (
              refine a_call [.arg 0] hs (ok1 rfl) ?_ ?_ ?_
              · refine zs ?_;try exact trivial
              · refine zs ?_;try exact trivial
              rintro _ _ ⟨rfl, rfl⟩
              refine zc ?_;try exact trivial
              repeat' (with_reducible apply And.intro)
              all_goals (
                refine a_call [] (hr) ok0 ?_ ?_ ?_
                · refine zs ?_;try exact trivial
                · refine zs ?_;try exact trivial
                rintro _ _ ⟨rfl, rfl⟩
                rcases hw with rfl | rfl
                · rw [if_pos rfl]
                  refine zc ?_;try exact trivial
                  all_goals first | exact leCs_refl _ | exact rfX | trace_state
                rw [if_neg (by omega)]
                refine zc ?_;try exact trivial
                all_goals first | exact leCs_refl _ | exact rfX | trace_state))
          skip
          have e : eventP c ⟨kind, seat, off, inp, ⟨ek, ep, eo, ef, ei, en⟩⟩ = ⟨4, c.p0, 0, 0, 0, 0⟩ := by unfold eventP; simp only; rw [if_neg (of_decide_eq_false k1), if_neg (of_decide_eq_false k2), if_neg (of_decide_eq_false k3), if_pos (of_decide_eq_true k4)]; rw [if_pos q]
          rw [e]
          simp (maxSteps:=2000000) (disch:=omega) only [go_sem,Nat.reduceAdd,Nat.reduceSub,Nat.reduceMul,Nat.reduceBEq,Nat.reduceEqDiff,Nat.reduceLT,Nat.reduceLeDiff,Nat.reduceDiv,reduceIte,reduceCtorEq, k1, k2, k3, k4, Int.reduceLT, Int.reduceLE, Int.reduceToNat]
          all_goals first | exact leCs_refl _ | exact rfX | trace_state
        skip
        have e : eventP c ⟨kind, seat, off, inp, ⟨ek, ep, eo, ef, ei, en⟩⟩ = ⟨3, c.p0, 0, (c.in0.length : Int) + o, inp, 0⟩ := by unfold eventP; simp only; rw [if_neg (of_decide_eq_false k1), if_neg (of_decide_eq_false k2), if_pos (of_decide_eq_true k3)]; rw [if_pos q, if_pos q, hoe]
        rw [e]
        simp (maxSteps:=2000000) (disch:=omega) only [go_sem,Nat.reduceAdd,Nat.reduceSub,Nat.reduceMul,Nat.reduceBEq,Nat.reduceEqDiff,Nat.reduceLT,Nat.reduceLeDiff,Nat.reduceDiv,reduceIte,reduceCtorEq, k1, k2, k3, Int.reduceLT, Int.reduceLE, Int.reduceToNat]
        refine a_draw (.take 0 (.take 1 (.take 2 (.take 3 (.take 4 (.take 5 (.take 8 (.take 10 (.both [(6, .take 7 (.take 9 (.both [(11, .both [(12, .both [(13, .done)])])]))), (11, .both [(6, .take 7 (.take 9 (.both [(12, .both [(13, .done)])])))])]))))))))) (by kernel_rfl) (by kernel_rfl) ?_
        simp (maxSteps:=2000000) (disch:=omega) only [go_sem,Nat.reduceAdd,Nat.reduceSub,Nat.reduceMul,Nat.reduceBEq,Nat.reduceEqDiff,Nat.reduceLT,Nat.reduceLeDiff,Nat.reduceDiv,reduceIte,reduceCtorEq, Int.reduceLT, Int.reduceLE, Int.reduceToNat, Int.reduceAdd]
        all_goals first | exact leCs_refl _ | exact rfX | trace_state
      skip
      have e : eventP c ⟨kind, seat, off, inp, ⟨ek, ep, eo, ef, ei, en⟩⟩ = ⟨2, c.p0, 0, 0, 0, 0⟩ := by unfold eventP; simp only; rw [if_neg (of_decide_eq_false k1), if_pos (of_decide_eq_true k2)]; rw [if_pos q]
      rw [e]
      simp (maxSteps:=2000000) (disch:=omega) only [go_sem,Nat.reduceAdd,Nat.reduceSub,Nat.reduceMul,Nat.reduceBEq,Nat.reduceEqDiff,Nat.reduceLT,Nat.reduceLeDiff,Nat.reduceDiv,reduceIte,reduceCtorEq, k1, k2, Int.reduceLT, Int.reduceLE, Int.reduceToNat]
      all_goals first | exact leCs_refl _ | exact rfX | trace_state
    skip
    have e : eventP c ⟨kind, seat, off, inp, ⟨ek, ep, eo, ef, ei, en⟩⟩ = ⟨1, 1, 2, 0, 0, seat % 1024⟩ := by unfold eventP; simp only; rw [if_pos (of_decide_eq_true k1)]
    rw [e]
    simp (maxSteps:=2000000) (disch:=omega) only [go_sem,Nat.reduceAdd,Nat.reduceSub,Nat.reduceMul,Nat.reduceBEq,Nat.reduceEqDiff,Nat.reduceLT,Nat.reduceLeDiff,Nat.reduceDiv,reduceIte,reduceCtorEq, k1, Int.reduceLT, Int.reduceLE, Int.reduceToNat]
    all_goals first | exact leCs_refl _ | exact rfX | trace_state
  simp (maxSteps:=2000000) (disch:=omega) only [go_sem,Nat.reduceAdd,Nat.reduceSub,Nat.reduceMul,Nat.reduceBEq,Nat.reduceEqDiff,Nat.reduceLT,Nat.reduceLeDiff,Nat.reduceDiv,reduceIte,reduceCtorEq, q, hoe, Int.reduceLT, Int.reduceLE, Int.reduceToNat, Int.reduceNeg]
  cases k1 : decide (kind = 1)
  · skip
    cases k2 : decide (kind = 2)
    · skip
      cases k3 : decide (kind = 3)
      · skip
        cases k4 : decide (kind = 4)
        · skip
          cases k5 : decide (kind = 5)
          · skip
            have e : eventP c ⟨kind, seat, off, inp, ⟨ek, ep, eo, ef, ei, en⟩⟩ = ⟨ek, ep, eo, ef, ei, en⟩ := by unfold eventP; simp only; rw [if_neg (of_decide_eq_false k1), if_neg (of_decide_eq_false k2), if_neg (of_decide_eq_false k3), if_neg (of_decide_eq_false k4), if_neg (of_decide_eq_false k5)]
            rw [e]
            simp (maxSteps:=2000000) (disch:=omega) only [go_sem,Nat.reduceAdd,Nat.reduceSub,Nat.reduceMul,Nat.reduceBEq,Nat.reduceEqDiff,Nat.reduceLT,Nat.reduceLeDiff,Nat.reduceDiv,reduceIte,reduceCtorEq, k1, k2, k3, k4, k5, Int.reduceLT, Int.reduceLE, Int.reduceToNat]
            all_goals first | exact leCs_refl _ | exact rfX | trace_state
          skip
          have e : eventP c ⟨kind, seat, off, inp, ⟨ek, ep, eo, ef, ei, en⟩⟩ = ⟨5, IntKind.i64.wrap ((if (resP c.st c.cap).1 = 0 then c.p0 else c.p1) + o), 0, 0, 0, (resP c.st c.cap).2.1⟩ := by unfold eventP; simp only; rw [if_neg (of_decide_eq_false k1), if_neg (of_decide_eq_false k2), if_neg (of_decide_eq_false k3), if_neg (of_decide_eq_false k4), if_pos (of_decide_eq_true k5)]; rw [hoe]
          rw [e]
          simp (maxSteps:=2000000) (disch:=omega) only [go_sem,Nat.reduceAdd,Nat.reduceSub,Nat.reduceMul,Nat.reduceBEq,Nat.reduceEqDiff,Nat.reduceLT,Nat.reduceLeDiff,Nat.reduceDiv,reduceIte,reduceCtorEq, k1, k2, k3, k4, k5, Int.reduceLT, Int.reduceLE, Int.reduceToNat]
          generalize resP c.st c.cap = R at hr hw ⊢
          obtain ⟨w, y, z⟩ := R
          simp only at hr hw ⊢
          refine a_draw (.take 0 (.take 2 (.take 3 (.take 4 (.both [(1, .both [(5, .both [(6, .take 7 (.take 8 (.take 9 (.take 10 (.take 11 (.take 12 (.take 13 (.done))))))))])]), (5, .both [(1, .both [(6, .take 7 (.take 8 (.take 9 (.take 10 (.take 11 (.take 12 (.take 13 (.done))))))))])])]))))) (by kernel_rfl) (by kernel_rfl) ?_
          refine zc ?_;try exact trivial
          repeat' (with_reducible apply And.intro)
          all_goals (
            refine a_call [.arg 0] hs (ok1 rfl) ?_ ?_ ?_
            · refine zs ?_;try exact trivial
            · refine zs ?_;try exact trivial
            rintro _ _ ⟨rfl, rfl⟩
            refine zc ?_;try exact trivial
            repeat' (with_reducible apply And.intro)
            all_goals (
              refine a_call [] (hr) ok0 ?_ ?_ ?_
              · refine zs ?_;try exact trivial
              · refine zs ?_;try exact trivial
              rintro _ _ ⟨rfl, rfl⟩
              rcases hw with rfl | rfl
              · rw [if_pos rfl]
                refine zc ?_;try exact trivial
                all_goals first | exact leCs_refl _ | exact rfX | trace_state
              rw [if_neg (by omega)]
              refine zc ?_;try exact trivial
              all_goals first | exact leCs_refl _ | exact rfX | trace_state))
        skip
        have e : eventP c ⟨kind, seat, off, inp, ⟨ek, ep, eo, ef, ei, en⟩⟩ = ⟨4, c.p1, 0, 0, 0, 0⟩ := by unfold eventP; simp only; rw [if_neg (of_decide_eq_false k1), if_neg (of_decide_eq_false k2), if_neg (of_decide_eq_false k3), if_pos (of_decide_eq_true k4)]; rw [if_neg (show ¬ seat % 2 = 0 by omega)]
        rw [e]
        simp (maxSteps:=2000000) (disch:=omega) only [go_sem,Nat.reduceAdd,Nat.reduceSub,Nat.reduceMul,Nat.reduceBEq,Nat.reduceEqDiff,Nat.reduceLT,Nat.reduceLeDiff,Nat.reduceDiv,reduceIte,reduceCtorEq, k1, k2, k3, k4, Int.reduceLT, Int.reduceLE, Int.reduceToNat]
        all_goals first | exact leCs_refl _ | exact rfX | trace_state
      skip
      have e : eventP c ⟨kind, seat, off, inp, ⟨ek, ep, eo, ef, ei, en⟩⟩ = ⟨3, c.p1, 0, (c.in1.length : Int) + o, inp, 0⟩ := by unfold eventP; simp only; rw [if_neg (of_decide_eq_false k1), if_neg (of_decide_eq_false k2), if_pos (of_decide_eq_true k3)]; rw [if_neg (show ¬ seat % 2 = 0 by omega), if_neg (show ¬ seat % 2 = 0 by omega), hoe]
      rw [e]
      simp (maxSteps:=2000000) (disch:=omega) only [go_sem,Nat.reduceAdd,Nat.reduceSub,Nat.reduceMul,Nat.reduceBEq,Nat.reduceEqDiff,Nat.reduceLT,Nat.reduceLeDiff,Nat.reduceDiv,reduceIte,reduceCtorEq, k1, k2, k3, Int.reduceLT, Int.reduceLE, Int.reduceToNat]
      refine a_draw (.take 0 (.take 1 (.take 2 (.take 3 (.take 4 (.take 5 (.take 8 (.take 10 (.both [(6, .take 7 (.take 9 (.both [(11, .both [(12, .both [(13, .done)])])]))), (11, .both [(6, .take 7 (.take 9 (.both [(12, .both [(13, .done)])])))])]))))))))) (by kernel_rfl) (by kernel_rfl) ?_
      simp (maxSteps:=2000000) (disch:=omega) only [go_sem,Nat.reduceAdd,Nat.reduceSub,Nat.reduceMul,Nat.reduceBEq,Nat.reduceEqDiff,Nat.reduceLT,Nat.reduceLeDiff,Nat.reduceDiv,reduceIte,reduceCtorEq, Int.reduceLT, Int.reduceLE, Int.reduceToNat, Int.reduceAdd]
      all_goals first | exact leCs_refl _ | exact rfX | trace_state
    skip
    have e : eventP c ⟨kind, seat, off, inp, ⟨ek, ep, eo, ef, ei, en⟩⟩ = ⟨2, c.p1, 0, 0, 0, 0⟩ := by unfold eventP; simp only; rw [if_neg (of_decide_eq_false k1), if_pos (of_decide_eq_true k2)]; rw [if_neg (show ¬ seat % 2 = 0 by omega)]
    rw [e]
    simp (maxSteps:=2000000) (disch:=omega) only [go_sem,Nat.reduceAdd,Nat.reduceSub,Nat.reduceMul,Nat.reduceBEq,Nat.reduceEqDiff,Nat.reduceLT,Nat.reduceLeDiff,Nat.reduceDiv,reduceIte,reduceCtorEq, k1, k2, Int.reduceLT, Int.reduceLE, Int.reduceToNat]
    all_goals first | exact leCs_refl _ | exact rfX | trace_state
  skip
  have e : eventP c ⟨kind, seat, off, inp, ⟨ek, ep, eo, ef, ei, en⟩⟩ = ⟨1, 1, 2, 0, 0, seat % 1024⟩ := by unfold eventP; simp only; rw [if_pos (of_decide_eq_true k1)]
  rw [e]
  simp (maxSteps:=2000000) (disch:=omega) only [go_sem,Nat.reduceAdd,Nat.reduceSub,Nat.reduceMul,Nat.reduceBEq,Nat.reduceEqDiff,Nat.reduceLT,Nat.reduceLeDiff,Nat.reduceDiv,reduceIte,reduceCtorEq, k1, Int.reduceLT, Int.reduceLE, Int.reduceToNat]
  all_goals first | exact leCs_refl _ | exact rfX | trace_state
end
section
def aD (a : Act) : List D := [.val (.int .i64 a.kind), .val (.int .i64 a.seat), .val (.int .i64 a.off), .val (.int .u16 (U16 a.inp)), .val (.int .i64 a.e.kind), .val (.int .i64 a.e.player), .val (.int .i64 a.e.other), .val (.int .i64 a.e.frame), .val (.int .u16 (U16 a.e.inp)), .val (.int .i64 a.e.n)]
def acs (l : List Act) : List D := (l.map aD).flatten
def gac (l : List Act) (i : Nat) : Act := l.getD i ⟨0, 0, 0, 0, ⟨0, 0, 0, 0, 0, 0⟩⟩
@[go_sem] theorem acs_len {l : List Act} : (acs l).length = l.length * 10 := by
  induction l with
  | nil => rfl
  | cons s l ih =>
    have e : acs (s :: l) = aD s ++ acs l := by simp [acs]
    have e2 : (aD s).length = 10 := rfl
    rw [e, List.length_append, e2, ih, List.length_cons]; omega
theorem acs_drop (l : List Act) (k : Nat) : (acs l).drop (k * 10) = acs (l.drop k) := by
  induction l generalizing k with
  | nil => simp [acs]
  | cons s l ih =>
    cases k with
    | zero => simp [acs]
    | succ k =>
      have e : acs (s :: l) = aD s ++ acs l := by simp [acs]
      have e2 : (aD s).length = 10 := rfl
      rw [e, List.drop_succ_cons, List.drop_append, e2, List.drop_eq_nil_of_le (by rw [e2]; omega), show (k + 1) * 10 - 10 = k * 10 by omega, ih]; rfl
@[go_sem ↓ 1200] theorem e_IAac {V' : V → Prop} {l : List Act} {o : Own} {nl : Option Bool} {a : Int} {t : TypeId} (h0 : 0 ≤ a) (h1 : a < l.length) : aIA (some (none, t, 10)) (.cell (.lst o nl 10 (acs l))) a V' = V' (.cell (.mem (.val (.int .i64 (gac l a.toNat).kind) :: .val (.int .i64 (gac l a.toNat).seat) :: .val (.int .i64 (gac l a.toNat).off) :: .val (.int .u16 (U16 (gac l a.toNat).inp)) :: .val (.int .i64 (gac l a.toNat).e.kind) :: .val (.int .i64 (gac l a.toNat).e.player) :: .val (.int .i64 (gac l a.toNat).e.other) :: .val (.int .i64 (gac l a.toNat).e.frame) :: .val (.int .u16 (U16 (gac l a.toNat).e.inp)) :: .val (.int .i64 (gac l a.toNat).e.n) :: acs (l.drop (a.toNat + 1))))) := by
  have h2 : a.toNat < l.length := by omega
  have e : acs (l.drop a.toNat) = aD (gac l a.toNat) ++ acs (l.drop (a.toNat + 1)) := by
    have e : gac l a.toNat = l[a.toNat] := by simp [gac, List.getD, h2]
    rw [List.drop_eq_getElem_cons h2, e]; rfl
  have e3 := acs_drop l a.toNat
  rw [e] at e3
  simp only [aIA, acs_len, h0, true_and]
  have : a * ((10 : Nat) : Int) < ((l.length * 10 : Nat) : Int) := by omega
  simp only [this, true_and]
  rw [e3]; rfl
@[go_sem ↓ 1200] theorem e_lenac {P : Program} {t : TypeId} {l : List Act} {o : Own} {nl : Option Bool} {V' : V → Prop} : aLen P t (.cell (.lst o nl 10 (acs l))) V' = (isSlcT P t = true ∧ V' (.int .i64 l.length)) := by
  simp only [aLen, acs_len, Nat.mul_div_cancel _ (show 0 < 10 by omega)]
@[go_sem 1200] theorem t_ac10 {x0 x1 x2 x3 x4 x5 x6 x7 x8 x9 : C} {r : List C} : List.take 10 (List.drop 0 (x0 :: x1 :: x2 :: x3 :: x4 :: x5 :: x6 :: x7 :: x8 :: x9 :: r)) = [x0, x1, x2, x3, x4, x5, x6, x7, x8, x9] := nr rfl
end
section
open Go Go.RowKit Go.ChangeShapes Go.WideShapes
theorem acts_rows : ∀ {L : List (List Value)}, (∀ q ∈ L, All2 okV [some .i64, some .i64, some .i64, some .u16, some .i64, some .i64, some .i64, some .i64, some .u16, some .i64] q) → ∃ l : List Act, L.flatten.map D.val = acs l ∧ l.length = L.length
  | [], _ => ⟨[], rfl, rfl⟩
  | q :: L, h => by
    obtain ⟨_, q1, rfl, ⟨n0, rfl, _⟩, h1⟩ := (h q (List.mem_cons_self ..)).cons_inv
    obtain ⟨_, q2, rfl, ⟨n1, rfl, _⟩, h2⟩ := h1.cons_inv
    obtain ⟨_, q3, rfl, ⟨n2, rfl, _⟩, h3⟩ := h2.cons_inv
    obtain ⟨_, q4, rfl, ⟨n3, rfl, w3⟩, h4⟩ := h3.cons_inv
    obtain ⟨e, he⟩ := ev_inv h4
    obtain ⟨l, e1, e2⟩ := acts_rows (L := L) fun q hq => h q (List.mem_cons_of_mem _ hq)
    refine ⟨⟨n0, n1, n2, UInt16.ofNat n3.toNat, e⟩ :: l, ?_, by simp [e2]⟩
    rw [List.flatten_cons, List.map_append, e1]
    have ea : acs (⟨n0, n1, n2, UInt16.ofNat n3.toNat, e⟩ :: l) = aD ⟨n0, n1, n2, UInt16.ofNat n3.toNat, e⟩ ++ acs l := by simp [acs]
    rw [ea]
    congr 1
    have hd : ∀ (vs : List Value) (e : Ev), vs.map C.val = evC e → vs.map D.val = evD e := by
      intro vs e h
      have h2 : (evD e).map D.toC = evC e := rfl
      have : (vs.map D.val).map D.toC = (evD e).map D.toC := by
        rw [h2, ← h, List.map_map]; rfl
      have inj : ∀ (xs ys : List D), (∀ d ∈ xs, ∃ v, d = .val v) → (∀ d ∈ ys, ∃ v, d = .val v) → xs.map D.toC = ys.map D.toC → xs = ys := by
        intro xs
        induction xs with
        | nil => intro ys _ _ h; cases ys with
          | nil => rfl
          | cons y ys => simp at h
        | cons x xs ih => intro ys hx hy h; cases ys with
          | nil => simp at h
          | cons y ys =>
            obtain ⟨v, rfl⟩ := hx x (List.mem_cons_self ..)
            obtain ⟨w, rfl⟩ := hy y (List.mem_cons_self ..)
            simp only [List.map_cons, List.cons.injEq] at h
            have e1 : v = w := by
              have := h.1
              simpa [D.toC] using this
            rw [e1, ih ys (fun d hd => hx d (List.mem_cons_of_mem _ hd)) (fun d hd => hy d (List.mem_cons_of_mem _ hd)) h.2]
      refine inj _ _ ?_ ?_ this
      · intro d hd
        rw [List.mem_map] at hd
        obtain ⟨v, _, rfl⟩ := hd
        exact ⟨v, rfl⟩
      intro d hd
      unfold evD at hd
      simp only [List.mem_cons, List.not_mem_nil, or_false] at hd
      rcases hd with rfl | rfl | rfl | rfl | rfl | rfl <;> exact ⟨_, rfl⟩
    show D.val (.int .i64 n0) :: D.val (.int .i64 n1) :: D.val (.int .i64 n2) :: D.val (.int .u16 n3) :: q4.map D.val = _
    rw [hd q4 e he]
    show _ = D.val (.int .i64 n0) :: D.val (.int .i64 n1) :: D.val (.int .i64 n2) :: D.val (.int .u16 (U16 (UInt16.ofNat n3.toNat))) :: evD e
    rw [u16_wf w3]
theorem flatAct : flatK Tryz.prog 8 71 = some [some .i64, some .i64, some .i64, some .u16, some .i64, some .i64, some .i64, some .i64, some .u16, some .i64] := by kernel_rfl
set_option maxRecDepth 100000 in
theorem open_acts {H : Type} {enc : TypeId × Value → H} {W : World} {v : Value} {d : DataW H} {ps : List MemPlace} {r : Reach} {b0 : Nat}
    (hv : Value.okWide Tryz.prog W r b0 25 v) (h : DataW.Trod enc Tryz.prog W 0 (fun _ => true) true 25 v d ps) :
    ∃ l : List Act, RelW (ghOf W) (.c (.lst .no none 10 (acs l))) v ∧ l.length ≤ maxLen := by
  obtain ⟨L, h1, h2, h3⟩ := open_flats (sz := 10) Tryz.underlying25 flatAct rfl (by omega) hv h
  obtain ⟨l, e, h4⟩ := acts_rows h1
  rw [e] at h3
  exact ⟨l, h3, by omega⟩
end
section
open Go Go.RowKit Go.ChangeShapes Go.WideShapes
theorem ev_vals (vs : List Value) (e : Ev) (h : vs.map C.val = evC e) : vs.map D.val = evD e := by
  have h2 : (evD e).map D.toC = evC e := rfl
  have : (vs.map D.val).map D.toC = (evD e).map D.toC := by
    rw [h2, ← h, List.map_map]; rfl
  have inj : ∀ (xs ys : List D), (∀ d ∈ xs, ∃ v, d = .val v) → (∀ d ∈ ys, ∃ v, d = .val v) → xs.map D.toC = ys.map D.toC → xs = ys := by
    intro xs
    induction xs with
    | nil => intro ys _ _ h; cases ys with
      | nil => rfl
      | cons y ys => simp at h
    | cons x xs ih => intro ys hx hy h; cases ys with
      | nil => simp at h
      | cons y ys =>
        obtain ⟨v, rfl⟩ := hx x (List.mem_cons_self ..)
        obtain ⟨w, rfl⟩ := hy y (List.mem_cons_self ..)
        simp only [List.map_cons, List.cons.injEq] at h
        have e1 : v = w := by
          have := h.1
          simpa [D.toC] using this
        rw [e1, ih ys (fun d hd => hx d (List.mem_cons_of_mem _ hd)) (fun d hd => hy d (List.mem_cons_of_mem _ hd)) h.2]
  refine inj _ _ ?_ ?_ this
  · intro d hd
    rw [List.mem_map] at hd
    obtain ⟨v, _, rfl⟩ := hd
    exact ⟨v, rfl⟩
  intro d hd
  unfold evD at hd
  simp only [List.mem_cons, List.not_mem_nil, or_false] at hd
  rcases hd with rfl | rfl | rfl | rfl | rfl | rfl <;> exact ⟨_, rfl⟩
theorem evs_rows : ∀ {L : List (List Value)}, (∀ q ∈ L, All2 okV [some .i64, some .i64, some .i64, some .i64, some .u16, some .i64] q) → ∃ l : List Ev, L.flatten.map D.val = evs l ∧ l.length = L.length
  | [], _ => ⟨[], rfl, rfl⟩
  | q :: L, h => by
    obtain ⟨e, he⟩ := ev_inv (h q (List.mem_cons_self ..))
    obtain ⟨l, e1, e2⟩ := evs_rows (L := L) fun q hq => h q (List.mem_cons_of_mem _ hq)
    refine ⟨e :: l, ?_, by simp [e2]⟩
    rw [List.flatten_cons, List.map_append, e1, ev_vals q e he]
    simp [evs]
set_option maxRecDepth 100000 in
theorem open_evs {H : Type} {enc : TypeId × Value → H} {W : World} {v : Value} {d : DataW H} {ps : List MemPlace} {r : Reach} {b0 : Nat}
    (hv : Value.okWide Tryz.prog W r b0 27 v) (h : DataW.Trod enc Tryz.prog W 0 (fun _ => true) true 27 v d ps) :
    ∃ l : List Ev, RelW (ghOf W) (.c (.lst .no none 6 (evs l))) v ∧ l.length ≤ maxLen := by
  obtain ⟨L, h1, h2, h3⟩ := open_flats (sz := 6) Tryz.underlying27 flatEv rfl (by omega) hv h
  obtain ⟨l, e, h4⟩ := evs_rows h1
  rw [e] at h3
  exact ⟨l, h3, by omega⟩
end
section
theorem next_case {c : Ct} {e : Ev} (P : Ct → Prop) (hN : mayP18 c e ≠ 0 → P c) (h1 : mayP18 c e = 0 → e.kind = 1 → c.opn = false → mayOpenP c e = 0 → P ((openP c e).add e)) (h2 : mayP18 c e = 0 → e.kind = 2 → actP c e.player = 0 → P ((joinP c e).add e))
    (h3 : mayP18 c e = 0 → e.kind = 3 → actP c e.player = 0 → P ((inputP c e).add e)) (h4 : mayP18 c e = 0 → e.kind = 4 → actP c e.player = 0 → P ((forfeitP c e).add e)) (h5 : mayP18 c e = 0 → e.kind = 5 → mayResultP c e = 0 → P ((resultP c e).add e)) : P (nextP c e) := by
  unfold nextP
  split
  · rename_i hm
    obtain ⟨hk, hb, hy⟩ := may_kind hm
    unfold may1P at hy
    unfold doP
    rcases (by omega : e.kind = 1 ∨ e.kind = 2 ∨ e.kind = 3 ∨ e.kind = 4 ∨ e.kind = 5) with k | k | k | k | k
    · rw [if_pos k] at hy ⊢
      refine h1 hm k ?_ hy
      unfold mayOpenP at hy
      cases q : c.opn
      · rfl
      rw [if_pos q] at hy; cases hy
    · rw [if_neg (by omega), if_pos k] at hy ⊢
      exact h2 hm k (mayJoin_0 hy).1
    · rw [if_neg (by omega), if_neg (by omega), if_pos k] at hy ⊢
      exact h3 hm k (mayInput_0 hy)
    · rw [if_neg (by omega), if_neg (by omega), if_neg (by omega), if_pos k] at hy ⊢
      exact h4 hm k hy
    rw [if_neg (by omega), if_neg (by omega), if_neg (by omega), if_neg (by omega)] at hy ⊢
    exact h5 hm k hy
  rename_i hm; exact hN hm
theorem join_f (c : Ct) (e : Ev) : (joinP c e).code = c.code ∧ (joinP c e).cap = c.cap ∧ (joinP c e).fuel = c.fuel ∧ (joinP c e).p0 = c.p0 ∧ (joinP c e).p1 = c.p1 ∧ (joinP c e).opn = c.opn ∧ (joinP c e).over = c.over ∧ (joinP c e).why = c.why ∧ (joinP c e).winner = c.winner ∧ (joinP c e).st = c.st ∧ (joinP c e).pairs = c.pairs ∧ (joinP c e).events = c.events := by
  unfold joinP; split <;> exact ⟨rfl, rfl, rfl, rfl, rfl, rfl, rfl, rfl, rfl, rfl, rfl, rfl⟩
theorem input_f (c : Ct) (e : Ev) : (inputP c e).code = c.code ∧ (inputP c e).cap = c.cap ∧ (inputP c e).fuel = c.fuel ∧ (inputP c e).p0 = c.p0 ∧ (inputP c e).p1 = c.p1 ∧ (inputP c e).opn = c.opn ∧ (inputP c e).over = c.over ∧ (inputP c e).why = c.why ∧ (inputP c e).winner = c.winner ∧ (inputP c e).events = c.events := by
  unfold inputP goP inputP0; split <;> exact ⟨rfl, rfl, rfl, rfl, rfl, rfl, rfl, rfl, rfl, rfl⟩
/-- the game stays -/
theorem next_game (c : Ct) (e : Ev) : (nextP c e).code = c.code ∧ (nextP c e).cap = c.cap ∧ (nextP c e).fuel = c.fuel := by
  refine next_case (fun d => d.code = c.code ∧ d.cap = c.cap ∧ d.fuel = c.fuel) (fun _ => ⟨rfl, rfl, rfl⟩) (fun _ _ _ _ => ⟨rfl, rfl, rfl⟩) (fun _ _ _ => ?_) (fun _ _ _ => ?_) (fun _ _ _ => ⟨rfl, rfl, rfl⟩) (fun _ _ _ => ⟨rfl, rfl, rfl⟩)
  · have h := join_f c e; exact ⟨h.1, h.2.1, h.2.2.1⟩
  have h := input_f c e; exact ⟨h.1, h.2.1, h.2.2.1⟩
/-- what is open stays so, and who plays -/
theorem next_open {c : Ct} (h : c.opn = true) (e : Ev) : (nextP c e).opn = true ∧ (nextP c e).p0 = c.p0 ∧ (nextP c e).p1 = c.p1 := by
  refine next_case (fun d => d.opn = true ∧ d.p0 = c.p0 ∧ d.p1 = c.p1) (fun _ => ⟨h, rfl, rfl⟩) (fun _ _ q _ => by rw [h] at q; cases q) (fun _ _ _ => ?_) (fun _ _ _ => ?_) (fun _ _ _ => ⟨h, rfl, rfl⟩) (fun _ _ _ => ⟨h, rfl, rfl⟩)
  · have f := join_f c e; exact ⟨f.2.2.2.2.2.1.trans h, f.2.2.2.1, f.2.2.2.2.1⟩
  have f := input_f c e; exact ⟨f.2.2.2.2.2.1.trans h, f.2.2.2.1, f.2.2.2.2.1⟩
/-- of a match without a result -/
structure Nr (c : Ct) : Prop where
  why : c.over = true → c.why = 3
  won : c.winner = 0 ∨ c.winner = 1
  clo : c.opn = false → c.st.over = false ∧ c.over = false ∧ c.events = []
  nor : ∀ e ∈ c.events, e.kind ≠ 5
theorem nr_new (code : List (Int × Int)) (cap fuel : Int) : Nr (ctNew code cap fuel) := ⟨fun h => (by cases h), .inl rfl, fun _ => ⟨rfl, rfl, rfl⟩, fun e h => (by cases h)⟩
theorem mem_add {c : Ct} {e x : Ev} (h : x ∈ c.events ++ [e]) : x ∈ c.events ∨ x = e := by
  rcases List.mem_append.1 h with q | q
  · exact .inl q
  exact .inr (by simpa using q)
theorem Nr.next {c : Ct} (h : Nr c) {e : Ev} (hk : e.kind ≠ 5) : Nr (nextP c e) := by
  refine next_case (fun d => Nr d) (fun _ => h) (fun _ _ q _ => ?_) (fun _ _ q => ?_) (fun _ _ q => ?_) (fun _ _ q => ?_) (fun _ q _ => absurd q hk)
  · obtain ⟨c1, c2, c3⟩ := h.clo q
    refine ⟨fun o => ?_, h.won, fun o => (by cases o), fun x hx => ?_⟩
    · rw [show c.over = true from o] at c2; cases c2
    rcases mem_add (c := c) hx with q | q
    · exact h.nor x q
    rw [q]; exact hk
  · obtain ⟨f1, f2, f3, f4, f5, f6, f7, f8, f9, f10, f11, f12⟩ := join_f c e
    refine ⟨fun o => ?_, ?_, fun o => ?_, fun x hx => ?_⟩
    · show (joinP c e).why = 3
      rw [f8]; exact h.why (f7.symm.trans o)
    · show (joinP c e).winner = 0 ∨ (joinP c e).winner = 1
      rw [f9]; exact h.won
    · have := (act_0 q).1
      rw [← f6] at this; rw [show (joinP c e).opn = false from o] at this; cases this
    have hx' : x ∈ (joinP c e).events ++ [e] := hx
    rw [f12] at hx'
    rcases mem_add (c := c) hx' with q | q
    · exact h.nor x q
    rw [q]; exact hk
  · obtain ⟨f1, f2, f3, f4, f5, f6, f7, f8, f9, f12⟩ := input_f c e
    refine ⟨fun o => ?_, ?_, fun o => ?_, fun x hx => ?_⟩
    · show (inputP c e).why = 3
      rw [f8]; exact h.why (f7.symm.trans o)
    · show (inputP c e).winner = 0 ∨ (inputP c e).winner = 1
      rw [f9]; exact h.won
    · have := (act_0 q).1
      rw [← f6] at this; rw [show (inputP c e).opn = false from o] at this; cases this
    have hx' : x ∈ (inputP c e).events ++ [e] := hx
    rw [f12] at hx'
    rcases mem_add (c := c) hx' with q | q
    · exact h.nor x q
    rw [q]; exact hk
  obtain ⟨o1, o2, o3, o4⟩ := act_0 q
  refine ⟨fun _ => rfl, ?_, fun o => ?_, fun x hx => ?_⟩
  · show 1 - seatP c e.player = 0 ∨ 1 - seatP c e.player = 1
    rcases seat_cases c e.player o4 with s | s <;> rw [s]
    · exact .inr rfl
    exact .inl rfl
  · rw [show c.opn = false from o] at o1; cases o1
  rcases mem_add (c := c) hx with q | q
  · exact h.nor x q
  rw [q]; exact hk
/-- the match behind a row of events but results -/
def ovC (c : Ct) : List Ev → Ct
  | [] => c
  | e :: l => if e.kind = 5 then ovC c l else ovC (nextP c e) l
/-- the first that errs, and its error -/
def ovE (c : Ct) (i : Nat) : List Ev → Int × Int
  | [] => (0, 0)
  | e :: l => if e.kind = 5 then ovE c (i + 1) l else if mayP18 c e = 0 then ovE (nextP c e) (i + 1) l else ((i : Int), mayP18 c e)
theorem ovC_cons (c : Ct) (e : Ev) (l : List Ev) : ovC c (e :: l) = if e.kind = 5 then ovC c l else ovC (nextP c e) l := rfl
theorem ovE_cons (c : Ct) (i : Nat) (e : Ev) (l : List Ev) : ovE c i (e :: l) = if e.kind = 5 then ovE c (i + 1) l else if mayP18 c e = 0 then ovE (nextP c e) (i + 1) l else ((i : Int), mayP18 c e) := rfl
theorem ovC_app : ∀ {a b : List Ev} {c : Ct}, ovC c (a ++ b) = ovC (ovC c a) b
  | [], _, _ => rfl
  | e :: a, b, c => by
    show ovC c (e :: (a ++ b)) = ovC (ovC c (e :: a)) b
    rw [ovC_cons, ovC_cons]
    split
    · exact ovC_app
    exact ovC_app
theorem ovE_app : ∀ {a b : List Ev} {c : Ct} {i : Nat}, (ovE c i a).2 = 0 → ovE c i (a ++ b) = ovE (ovC c a) (i + a.length) b
  | [], _, _, _, _ => rfl
  | e :: a, b, c, i, h => by
    have en : i + (e :: a).length = i + 1 + a.length := by simp only [List.length_cons]; omega
    rw [en]
    show ovE c i (e :: (a ++ b)) = ovE (ovC c (e :: a)) (i + 1 + a.length) b
    by_cases q : e.kind = 5
    · have h' : (ovE c (i + 1) a).2 = 0 := by rw [ovE_cons] at h; rw [if_pos q] at h; exact h
      have e1 : ovC c (e :: a) = ovC c a := by rw [ovC_cons, if_pos q]
      rw [e1, ovE_cons, if_pos q, ovE_app h']
    have e1 : ovC c (e :: a) = ovC (nextP c e) a := by rw [ovC_cons, if_neg q]
    rw [ovE_cons] at h
    rw [if_neg q] at h
    split at h
    · rename_i q2
      rw [e1, ovE_cons, if_neg q, if_pos q2, ovE_app h]
    rename_i q2; exact absurd h q2
theorem ovE_bad {a b : List Ev} {e : Ev} {c : Ct} (h : (ovE c 0 a).2 = 0) (hk : e.kind ≠ 5) (hm : mayP18 (ovC c a) e ≠ 0) : ovE c 0 (a ++ e :: b) = ((a.length : Int), mayP18 (ovC c a) e) := by
  rw [ovE_app h, ovE_cons, if_neg hk, if_neg hm, Nat.zero_add]
theorem ovE_no {a : List Ev} {e : Ev} {c : Ct} (h : (ovE c 0 a).2 = 0) (hk : e.kind = 5 ∨ mayP18 (ovC c a) e = 0) : (ovE c 0 (a ++ [e])).2 = 0 := by
  rw [ovE_app h, ovE_cons]
  rcases hk with k | k
  · rw [if_pos k]; rfl
  by_cases q : e.kind = 5
  · rw [if_pos q]; rfl
  rw [if_neg q, if_pos k]; rfl
theorem ovC_one {a : List Ev} {e : Ev} {c : Ct} : ovC c (a ++ [e]) = if e.kind = 5 then ovC c a else nextP (ovC c a) e := by
  rw [ovC_app]
  show ovC (ovC c a) [e] = _
  rw [ovC_cons]
  split <;> rfl
theorem Inv18.ov : ∀ {l : List Ev} {c : Ct}, Inv18 c → Inv18 (ovC c l)
  | [], _, h => h
  | e :: l, c, h => by
    rw [ovC_cons]
    split
    · exact Inv18.ov h
    exact Inv18.ov (h.next e)
theorem Nr.ov : ∀ {l : List Ev} {c : Ct}, Nr c → Nr (ovC c l)
  | [], _, h => h
  | e :: l, c, h => by
    rw [ovC_cons]
    split
    · exact Nr.ov h
    rename_i q; exact Nr.ov (h.next q)
theorem ov_len : ∀ {l : List Ev} {c : Ct}, (ovC c l).events.length ≤ c.events.length + l.length
  | [], _ => Nat.le_refl _
  | e :: l, c => by
    rw [ovC_cons]
    have h2 := next_events (c := c) (e := e)
    split
    · have h1 := ov_len (l := l) (c := c)
      simp only [List.length_cons]; omega
    have h1 := ov_len (l := l) (c := nextP c e)
    simp only [List.length_cons]; omega
theorem ov_game : ∀ {l : List Ev} {c : Ct}, (ovC c l).code = c.code ∧ (ovC c l).cap = c.cap ∧ (ovC c l).fuel = c.fuel
  | [], _ => ⟨rfl, rfl, rfl⟩
  | e :: l, c => by
    rw [ovC_cons]
    split
    · exact ov_game
    have h1 := ov_game (l := l) (c := nextP c e)
    have h2 := next_game c e
    exact ⟨h1.1.trans h2.1, h1.2.1.trans h2.2.1, h1.2.2.trans h2.2.2⟩
theorem ov_open : ∀ {l : List Ev} {c : Ct}, c.opn = true → (ovC c l).opn = true ∧ (ovC c l).p0 = c.p0 ∧ (ovC c l).p1 = c.p1
  | [], _, h => ⟨h, rfl, rfl⟩
  | e :: l, c, h => by
    rw [ovC_cons]
    split
    · exact ov_open h
    have h2 := next_open h e
    have h1 := ov_open (l := l) h2.1
    exact ⟨h1.1, h1.2.1.trans h2.2.1, h1.2.2.trans h2.2.2⟩
/-- the first event opens -/
theorem ov_first {c : Ct} (hc : c.opn = false) {e : Ev} {l : List Ev} (hk : e.kind ≠ 5) (h : (ovE c 0 (e :: l)).2 = 0) : (ovC c (e :: l)).opn = true ∧ (ovC c (e :: l)).p0 = e.player ∧ (ovC c (e :: l)).p1 = e.other := by
  rw [ovE_cons, if_neg hk] at h
  by_cases hm : mayP18 c e = 0
  · rw [ovC_cons, if_neg hk]
    have hn : (nextP c e).opn = true ∧ (nextP c e).p0 = e.player ∧ (nextP c e).p1 = e.other := by
      refine next_case (fun d => d.opn = true ∧ d.p0 = e.player ∧ d.p1 = e.other) (fun q => absurd hm q) (fun _ _ _ _ => ⟨rfl, rfl, rfl⟩) (fun _ _ q => ?_) (fun _ _ q => ?_) (fun _ _ q => ?_) (fun _ q _ => absurd q hk)
      all_goals (have := (act_0 q).1; rw [hc] at this; cases this)
    have h1 := ov_open (l := l) hn.1
    exact ⟨h1.1, h1.2.1.trans hn.2.1, h1.2.2.trans hn.2.2⟩
  rw [if_neg hm] at h; exact absurd h hm
/-! ### the verdict -/
def vdP (c : Ct) : Int × Int × Bool := if c.over = true then (c.winner, c.why, true) else resP c.st c.cap
/-- how many results -/
def cnt5 : List Ev → Nat
  | [] => 0
  | e :: l => (if e.kind = 5 then 1 else 0) + cnt5 l
theorem cnt5_app : ∀ {a b : List Ev}, cnt5 (a ++ b) = cnt5 a + cnt5 b
  | [], _ => by simp [cnt5]
  | e :: a, b => by
    show (if e.kind = 5 then 1 else 0) + cnt5 (a ++ b) = (if e.kind = 5 then 1 else 0) + cnt5 a + cnt5 b
    rw [cnt5_app]; omega
theorem cnt5_zero : ∀ {l : List Ev}, cnt5 l = 0 ↔ ∀ e ∈ l, e.kind ≠ 5
  | [] => by simp [cnt5]
  | e :: l => by
    show (if e.kind = 5 then 1 else 0) + cnt5 l = 0 ↔ _
    by_cases q : e.kind = 5
    · rw [if_pos q]
      constructor
      · intro h; omega
      intro h; exact absurd q (h e (List.mem_cons_self ..))
    rw [if_neg q]
    have := cnt5_zero (l := l)
    constructor
    · intro h x hx
      rcases List.mem_cons.1 hx with rfl | hx
      · exact q
      exact this.1 (by omega) x hx
    intro h
    have := this.2 fun x hx => h x (List.mem_cons_of_mem _ hx)
    omega
def plr (a : Int) (x y : Int) : Int := if a = 0 then x else y
/-- judge.Agrees at the first result -/
def agP (d : Ct) (l : List Ev) (i : Nat) (x : Ev) : Bool := decide (i + 1 = l.length) && decide (0 < i) && (vdP d).2.2 && decide ((vdP d).2.1 ≠ 3) && decide (x.player = plr (vdP d).1 ((l.getD 0 ⟨0, 0, 0, 0, 0, 0⟩).player) ((l.getD 0 ⟨0, 0, 0, 0, 0, 0⟩).other)) && decide (x.n = (vdP d).2.1)
/-- the document's -/
def ragP (d : Ct) (l : List Ev) (x : Ev) : Bool := decide (cnt5 l = 1) && decide (x.kind = 5) && (resP d.st d.cap).2.2 && (!d.over) && decide (x.player = plr (resP d.st d.cap).1 d.p0 d.p1) && decide (x.n = (resP d.st d.cap).2.1)
theorem resP_why {s : Sta} {cap : Int} : (resP s cap).2.1 ≠ 3 := by
  unfold resP
  split
  · show (0 : Int) ≠ 3; omega
  show (if s.frame = cap then (2 : Int) else 1) ≠ 3
  split <;> omega
theorem resP_over {s : Sta} {cap : Int} : (resP s cap).2.2 = s.over := by
  unfold resP
  split
  · rename_i h; exact h.symm
  rename_i h; cases q : s.over
  · exact absurd q h
  rfl
theorem ag_eq {c0 : Ct} (hc : c0.opn = false) (hn : Nr c0) {a b : List Ev} {x : Ev} (ha : ∀ e ∈ a, e.kind ≠ 5) (hx : x.kind = 5) (hE : (ovE c0 0 (a ++ x :: b)).2 = 0) :
    agP (ovC c0 (a ++ x :: b)) (a ++ x :: b) a.length x = ragP (ovC c0 (a ++ x :: b)) (a ++ x :: b) ((a ++ x :: b).getD ((a ++ x :: b).length - 1) ⟨0, 0, 0, 0, 0, 0⟩) := by
  have hN := hn.ov (l := a ++ x :: b)
  have hcnt : cnt5 (a ++ x :: b) = 1 + cnt5 b := by
    rw [cnt5_app, cnt5_zero.2 ha]
    show 0 + ((if x.kind = 5 then 1 else 0) + cnt5 b) = _
    rw [if_pos hx]; omega
  cases b with
  | cons y b =>
    unfold agP ragP
    rw [decide_eq_false (by simp only [List.length_append, List.length_cons]; omega)]
    simp only [Bool.false_and]
    by_cases q : cnt5 (a ++ x :: y :: b) = 1
    · have hb : cnt5 (y :: b) = 0 := by omega
      have hb := cnt5_zero.1 hb
      have hl : ((a ++ x :: y :: b).getD ((a ++ x :: y :: b).length - 1) ⟨0, 0, 0, 0, 0, 0⟩) ∈ y :: b := by
        rw [List.getD_eq_getElem?_getD, ← List.getLast?_eq_getElem?]
        have : (a ++ x :: y :: b).getLast? = (y :: b).getLast? := by rw [show a ++ x :: y :: b = (a ++ [x]) ++ (y :: b) by simp, List.getLast?_append, List.getLast?_eq_some_getLast (l := y :: b) (by simp)]; rfl
        rw [this, List.getLast?_eq_some_getLast (by simp)]
        exact List.getLast_mem _
      rw [decide_eq_false (hb _ hl)]
      simp
    rw [decide_eq_false q]; simp
  | nil =>
    have hl : (a ++ [x]).getD ((a ++ [x]).length - 1) ⟨0, 0, 0, 0, 0, 0⟩ = x := by simp
    rw [hl]
    have hcnt1 : cnt5 (a ++ [x]) = 1 := hcnt
    unfold agP ragP
    rw [decide_eq_true (show a.length + 1 = (a ++ [x]).length by simp), hcnt1, decide_eq_true hx]
    cases a with
    | nil =>
      have hd : ovC c0 ([] ++ [x]) = c0 := by show ovC c0 [x] = c0; rw [ovC_cons, if_pos hx]; rfl
      rw [hd]
      have : c0.st.over = false := (hn.clo hc).1
      rw [resP_over, this]
      simp
    | cons e a =>
      have hk : e.kind ≠ 5 := ha e (List.mem_cons_self ..)
      obtain ⟨o1, o2, o3⟩ := ov_first hc (l := a ++ [x]) hk hE
      have e0 : (e :: a ++ [x]).getD 0 ⟨0, 0, 0, 0, 0, 0⟩ = e := rfl
      rw [e0]
      show _ = (true && true && (resP (ovC c0 (e :: (a ++ [x]))).st (ovC c0 (e :: (a ++ [x]))).cap).2.2 && (!(ovC c0 (e :: (a ++ [x]))).over) && decide (x.player = plr (resP (ovC c0 (e :: (a ++ [x]))).st (ovC c0 (e :: (a ++ [x]))).cap).1 (ovC c0 (e :: (a ++ [x]))).p0 (ovC c0 (e :: (a ++ [x]))).p1) && decide (x.n = (resP (ovC c0 (e :: (a ++ [x]))).st (ovC c0 (e :: (a ++ [x]))).cap).2.1))
      rw [o2, o3]
      have ee : e :: a ++ [x] = e :: (a ++ [x]) := rfl
      rw [ee] at hN ⊢
      generalize ovC c0 (e :: (a ++ [x])) = d at hN
      rw [decide_eq_true (show 0 < (e :: a).length by simp)]
      unfold vdP
      cases q : d.over
      · rw [if_neg (by simp), decide_eq_true resP_why]
        simp
      rw [if_pos rfl]
      have : d.why = 3 := hN.why q
      rw [this]
      simp
/-! ### a match's own events, anew -/
/-- d: what is made anew of the events of c -/
structure Rp (c0 c d : Ct) : Prop where
  he : (ovE c0 0 c.events).2 = 0
  hd : ovC c0 c.events = d
  eq : c = d ∨ (d.over = false ∧ c.over = true ∧ c.opn = true ∧ c.st = d.st ∧ c.cap = d.cap ∧ c.pairs = d.pairs ∧ resP d.st d.cap = (c.winner, c.why, true) ∧ (∀ x ∈ d.events, x.kind ≠ 5) ∧ d.opn = true ∧
    ∃ x, c.events = d.events ++ [x] ∧ x.kind = 5 ∧ x.player = plr (resP d.st d.cap).1 d.p0 d.p1 ∧ x.n = (resP d.st d.cap).2.1)
theorem rp_new (code : List (Int × Int)) (cap fuel : Int) : Rp (ctNew code cap fuel) (ctNew code cap fuel) (ctNew code cap fuel) := ⟨rfl, rfl, .inl rfl⟩
/-- behind a result nothing is taken -/
theorem may_over {c : Ct} (o : c.opn = true) (v : c.over = true) (e : Ev) : mayP18 c e ≠ 0 := by
  intro h
  obtain ⟨hk, hb, hy⟩ := may_kind h
  unfold may1P at hy
  rcases (by omega : e.kind = 1 ∨ e.kind = 2 ∨ e.kind = 3 ∨ e.kind = 4 ∨ e.kind = 5) with k | k | k | k | k
  · rw [if_pos k] at hy; unfold mayOpenP at hy; rw [if_pos o] at hy; cases hy
  · rw [if_neg (by omega), if_pos k] at hy; have := (act_0 (mayJoin_0 hy).1).2.1; rw [v] at this; cases this
  · rw [if_neg (by omega), if_neg (by omega), if_pos k] at hy; have := (act_0 (mayInput_0 hy)).2.1; rw [v] at this; cases this
  · rw [if_neg (by omega), if_neg (by omega), if_neg (by omega), if_pos k] at hy; have := (act_0 hy).2.1; rw [v] at this; cases this
  rw [if_neg (by omega), if_neg (by omega), if_neg (by omega), if_neg (by omega)] at hy; unfold mayResultP at hy; rw [if_neg (by rw [o]; simp), if_pos v] at hy; cases hy
theorem mayResult_0 {c : Ct} {e : Ev} (h : mayResultP c e = 0) : c.opn = true ∧ c.over = false ∧ (resP c.st c.cap).2.2 = true ∧ e.player = plr (resP c.st c.cap).1 c.p0 c.p1 ∧ e.n = (resP c.st c.cap).2.1 := by
  unfold mayResultP at h
  by_cases q1 : c.opn = false
  · rw [if_pos q1] at h; cases h
  rw [if_neg q1] at h
  by_cases q2 : c.over = true
  · rw [if_pos q2] at h; cases h
  rw [if_neg q2] at h
  by_cases q3 : (resP c.st c.cap).2.2 = false
  · rw [if_pos q3] at h; cases h
  rw [if_neg q3] at h
  by_cases q4 : e.player ≠ (if (resP c.st c.cap).1 = 0 then c.p0 else c.p1) ∨ e.n ≠ (resP c.st c.cap).2.1
  · rw [if_pos q4] at h; cases h
  refine ⟨by cases q : c.opn; exact absurd q q1; rfl, by cases q : c.over; rfl; exact absurd q q2, by cases q : (resP c.st c.cap).2.2; exact absurd q q3; rfl, Decidable.byContradiction fun w => q4 (.inl w), Decidable.byContradiction fun w => q4 (.inr w)⟩
/-- who plays are two -/
def Two (c : Ct) : Prop := c.opn = true → c.p0 ≠ c.p1
theorem Two.next {c : Ct} (h : Two c) (e : Ev) : Two (nextP c e) := by
  refine next_case (fun d => Two d) (fun _ => h) (fun _ _ _ q => ?_) (fun _ _ _ => ?_) (fun _ _ _ => ?_) (fun _ _ _ => h) (fun _ _ _ => h)
  · intro _
    show e.player ≠ e.other
    unfold mayOpenP at q
    split at q
    · cases q
    split at q
    · cases q
    rename_i w; exact fun x => w (.inr (.inr (.inl x)))
  · have f := join_f c e
    intro o
    show (joinP c e).p0 ≠ (joinP c e).p1
    rw [f.2.2.2.1, f.2.2.2.2.1]; exact h (f.2.2.2.2.2.1.symm.trans o)
  have f := input_f c e
  intro o
  show (inputP c e).p0 ≠ (inputP c e).p1
  rw [f.2.2.2.1, f.2.2.2.2.1]; exact h (f.2.2.2.2.2.1.symm.trans o)
theorem Rp.next {c0 c d : Ct} (hn : Nr c0) (hI : Inv18 c) (h2 : Two c) (h : Rp c0 c d) (e : Ev) : ∃ d', Rp c0 (nextP c e) d' := by
  obtain ⟨he, hd, hq⟩ := h
  by_cases hm : mayP18 c e = 0
  · have hc : c = d := by
      rcases hq with q | q
      · exact q
      exact absurd hm (may_over q.2.2.1 q.2.1 e)
    subst hc
    have hev : (nextP c e).events = c.events ++ [e] := by
      unfold nextP
      rw [if_pos hm]
      show (doP c e).events ++ [e] = _
      congr 1
      unfold doP openP joinP inputP goP inputP0 forfeitP resultP
      repeat' split
      all_goals rfl
    have hN : Nr c := hd ▸ hn.ov
    by_cases hk : e.kind = 5
    · refine ⟨c, ?_, ?_, .inr ?_⟩
      · rw [hev]; exact ovE_no he (.inl hk)
      · rw [hev, ovC_one, if_pos hk, hd]
      have hx : nextP c e = (resultP c e).add e := by unfold nextP doP; rw [if_pos hm, if_neg (by omega), if_neg (by omega), if_neg (by omega), if_neg (by omega)]
      have hy := (may_kind hm).2.2
      unfold may1P at hy
      rw [if_neg (by omega), if_neg (by omega), if_neg (by omega), if_neg (by omega)] at hy
      obtain ⟨r1, r2, r3, r4, r5⟩ := mayResult_0 hy
      rw [hx]
      refine ⟨r2, rfl, r1, rfl, rfl, rfl, ?_, hN.nor, r1, e, rfl, hk, r4, r5⟩
      show resP c.st c.cap = (seatP c e.player, e.n, true)
      have hw := res_win (cap := c.cap) hI.win
      have h3 := h2 r1
      generalize resP c.st c.cap = R at r3 r4 r5 hw
      obtain ⟨w, y, o⟩ := R
      simp only at r3 r4 r5 hw
      subst r3 r5
      have : seatP c e.player = w := by
        unfold seatP
        rw [r4]
        unfold plr
        rcases hw with rfl | rfl
        · rw [if_pos rfl, if_pos rfl]
        rw [if_neg (show ¬ (1 : Int) = 0 by omega), if_neg h3, if_pos rfl]
      rw [this]
    refine ⟨nextP c e, ?_, ?_, .inl rfl⟩
    · rw [hev]; exact ovE_no he (.inr (by rw [hd]; exact hm))
    rw [hev, ovC_one, if_neg hk, hd]
  have : nextP c e = c := by unfold nextP; rw [if_neg hm]
  rw [this]
  exact ⟨d, he, hd, hq⟩
/-- a result in between changes nothing -/
theorem ov_ins {c0 : Ct} {a b : List Ev} {x : Ev} (hx : x.kind = 5) (h : (ovE c0 0 (a ++ b)).2 = 0) : (ovE c0 0 (a ++ x :: b)).2 = 0 ∧ ovC c0 (a ++ x :: b) = ovC c0 (a ++ b) := by
  have shift : ∀ (l : List Ev) (c : Ct) (i j : Nat), (ovE c i l).2 = (ovE c j l).2 := by
    intro l
    induction l with
    | nil => intro c i j; rfl
    | cons e l ih =>
      intro c i j
      rw [ovE_cons, ovE_cons]
      split
      · exact ih _ _ _
      split
      · exact ih _ _ _
      rfl
  have ha : (ovE c0 0 a).2 = 0 := by
    clear hx
    have pre : ∀ (l m : List Ev) (c : Ct) (i : Nat), (ovE c i (l ++ m)).2 = 0 → (ovE c i l).2 = 0 := by
      intro l m
      induction l with
      | nil => intro c i _; rfl
      | cons e l ih =>
        intro c i h
        have h' : (ovE c i (e :: (l ++ m))).2 = 0 := h
        rw [ovE_cons] at h' ⊢
        split
        · rename_i q; rw [if_pos q] at h'; exact ih _ _ h'
        rename_i q; rw [if_neg q] at h'
        split
        · rename_i q2; rw [if_pos q2] at h'; exact ih _ _ h'
        rename_i q2; rw [if_neg q2] at h'; exact absurd h' q2
    exact pre a b c0 0 h
  rw [ovE_app ha] at h ⊢
  refine ⟨?_, ?_⟩
  · rw [ovE_cons, if_pos hx, shift _ _ _ (0 + a.length)]; exact h
  rw [ovC_app, ovC_app]
  show ovC (ovC c0 a) (x :: b) = _
  rw [ovC_cons, if_pos hx]
end
section
@[go_sem 1200] theorem t_ev6 {x0 x1 x2 x3 x4 x5 : C} {r : List C} : List.take 6 (List.drop 0 (x0 :: x1 :: x2 :: x3 :: x4 :: x5 :: r)) = [x0, x1, x2, x3, x4, x5] := nr rfl
def gev (l : List Ev) (i : Nat) : Ev := l.getD i ⟨0, 0, 0, 0, 0, 0⟩
theorem evs_drop (l : List Ev) (k : Nat) : (evs l).drop (k * 6) = evs (l.drop k) := by
  induction l generalizing k with
  | nil => simp [evs]
  | cons s l ih =>
    cases k with
    | zero => simp [evs]
    | succ k =>
      have e : evs (s :: l) = evD s ++ evs l := by simp [evs]
      have e2 : (evD s).length = 6 := rfl
      rw [e, List.drop_succ_cons, List.drop_append, e2, List.drop_eq_nil_of_le (by rw [e2]; omega), show (k + 1) * 6 - 6 = k * 6 by omega, ih]; rfl
@[go_sem ↓ 1200] theorem e_IAev {V' : V → Prop} {l : List Ev} {o : Own} {nl : Option Bool} {a : Int} {t : TypeId} (h0 : 0 ≤ a) (h1 : a < l.length) : aIA (some (none, t, 6)) (.cell (.lst o nl 6 (evs l))) a V' = V' (.cell (.mem (.val (.int .i64 (gev l a.toNat).kind) :: .val (.int .i64 (gev l a.toNat).player) :: .val (.int .i64 (gev l a.toNat).other) :: .val (.int .i64 (gev l a.toNat).frame) :: .val (.int .u16 (U16 (gev l a.toNat).inp)) :: .val (.int .i64 (gev l a.toNat).n) :: evs (l.drop (a.toNat + 1))))) := by
  have h2 : a.toNat < l.length := by omega
  have e : evs (l.drop a.toNat) = evD (gev l a.toNat) ++ evs (l.drop (a.toNat + 1)) := by
    have e : gev l a.toNat = l[a.toNat] := by simp [gev, List.getD, h2]
    rw [List.drop_eq_getElem_cons h2, e]; rfl
  have e3 := evs_drop l a.toNat
  rw [e] at e3
  simp only [aIA, evs_len, h0, true_and]
  have : a * ((6 : Nat) : Int) < ((l.length * 6 : Nat) : Int) := by omega
  simp only [this, true_and]
  rw [e3]; rfl
end
section
theorem gev_take {l : List Ev} {i : Nat} (h : i < l.length) : l.take (i + 1) = l.take i ++ [gev l i] := by
  rw [List.take_add_one, List.getElem?_eq_getElem h]; unfold gev; rw [List.getD_eq_getElem?_getD, List.getElem?_eq_getElem h]; rfl
theorem gev_split {l : List Ev} {i : Nat} (h : i < l.length) : l = l.take i ++ gev l i :: l.drop (i + 1) := by
  have e : gev l i = l[i] := by unfold gev; rw [List.getD_eq_getElem?_getD, List.getElem?_eq_getElem h]; rfl
  rw [e, ← List.drop_eq_getElem_cons h, List.take_append_drop]
@[go_sem ↓ 1300] theorem m_mem0 {v : Value} {r : List D} {K : C → Prop} : (∃ c, (List.map D.toC (List.drop 0 (.val v :: r)))[0]? = some c ∧ K c) = K (.val v) := ex_some rfl
@[go_sem ↓ 1300] theorem m_mem1 {x0 : D} {v : Value} {r : List D} {K : C → Prop} : (∃ c, (List.map D.toC (List.drop 1 (x0 :: .val v :: r)))[0]? = some c ∧ K c) = K (.val v) := ex_some rfl
@[go_sem ↓ 1300] theorem m_mem2 {x0 x1 : D} {v : Value} {r : List D} {K : C → Prop} : (∃ c, (List.map D.toC (List.drop 2 (x0 :: x1 :: .val v :: r)))[0]? = some c ∧ K c) = K (.val v) := ex_some rfl
theorem leH_none {h : Heap} : leH [] h := by
  first | trivial | (intro i cs h; cases h)
theorem isResult_h (e : Ev) : Holds Tryz.prog 23 [.ev e] [] (fun r h' => r = V.bool (decide (e.kind = 5)) ∧ h' = []) := by
  refine holds_of_awp Tryz.func23 rfl (by decide +kernel) mixed Tryz.ntmps23 Tryz.results23 ?_
  refine zE ?_
  refine zs ?_;try exact trivial
section
variable (code : List (Int × Int)) (cap fuel : Int) (l : List Ev) (hcl : code.length ≤ 9223372036854775807)
include hcl
abbrev fR : W := .c (.fn (.func 23) [] [])
theorem taken_game (hg : gameP code cap fuel ≠ 0) : Holds Tryz.prog 22 [.game code cap fuel, .c (.lst .no none 6 (evs l)), fR] [] (fun r h' => r = .tup [.c (.val (.pointer none)), .int .i64 0, .int .i64 (gameP code cap fuel)] ∧ h' = []) := by
  have hn := new_bad18 code cap fuel hcl hg
  have dg : decide (gameP code cap fuel = 0) = false := decide_eq_false hg
  generalize gameP code cap fuel = v at hn dg
  refine holds_of_awp Tryz.func22 rfl (by decide +kernel) mixed Tryz.ntmps22 Tryz.results22 ?_
  refine zE ?_
  refine zs ?_;try exact trivial
  refine a_call [] (hn) ok0 ?_ ?_ ?_
  · refine zs ?_;try exact trivial
  · refine zs ?_;try exact trivial
  rintro _ _ ⟨rfl, rfl⟩
  simp (maxSteps:=2000000) (disch:=omega) only [go_sem,Nat.reduceAdd,Nat.reduceSub,Nat.reduceMul,Nat.reduceBEq,Nat.reduceEqDiff,Nat.reduceLT,Nat.reduceLeDiff,Nat.reduceDiv,reduceIte,reduceCtorEq, dg, decide_not, Bool.not_false]
set_option maxRecDepth 20000 in
set_option maxHeartbeats 4000000 in
theorem taken_h (hl : l.length ≤ 1000) (hg : gameP code cap fuel = 0) : Holds Tryz.prog 22 [.game code cap fuel, .c (.lst .no none 6 (evs l)), fR] [] (fun r h' =>
    ((ovE (ctNew code cap fuel) 0 l).2 ≠ 0 → r = .tup [.c (.val (.pointer none)), .int .i64 (ovE (ctNew code cap fuel) 0 l).1, .int .i64 (ovE (ctNew code cap fuel) 0 l).2] ∧ h' = []) ∧
    ((ovE (ctNew code cap fuel) 0 l).2 = 0 → r = .tup [.c (.ptr (.loc [16, 0, 14]) 0), .int .i64 0, .int .i64 0] ∧ h' = [(.loc [16, 0, 14], ctB (.loc [16, 0, 14]) (ovC (ctNew code cap fuel) l))])) := by
  have hn := new_ok18 code cap fuel hcl hg
  have hI := inv_new hg
  have h0 : (ctNew code cap fuel).events.length = 0 := rfl
  generalize ctNew code cap fuel = c0 at hn hI h0
  refine holds_of_awp Tryz.func22 rfl (by decide +kernel) mixed Tryz.ntmps22 Tryz.results22 ?_
  refine zE ?_
  refine zs ?_;try exact trivial
  refine a_call [] (hn) ok0 ?_ ?_ ?_
  · refine zs ?_;try exact trivial
  · refine zs ?_;try exact trivial
  rintro _ _ ⟨rfl, rfl⟩
  refine zc ?_;try exact trivial
  refine a_loopk (fun i : Nat => ⟨[.undef, V.cell (.lst .no none 6 (evs l)), .w fR, U, U, U, V.w (.c (.val (.pointer none))), V.int .i64 0, V.int .i64 0, V.cell (.ptr (.loc [16, 0, 14]) 0), U, U, U, U, U, U, U, U, U, U, U, U, V.cell (.lst .no none 6 (evs l)), V.int .i64 l.length, V.int .i64 (i : Int), U, U, U, U, U, U, U, U, U, U, U, U, U, U, U, .undef], [(.loc [16, 0, 14], ctB (.loc [16, 0, 14]) (ovC c0 (l.take i)))]⟩) (fun i => i ≤ l.length ∧ (ovE c0 0 (l.take i)).2 = 0) (fun i => l.length - i) 0 ⟨by omega, by simp [ovE]⟩ ?_ ?_
  · rw [show ovC c0 (l.take 0) = c0 from rfl]
    try (refine zs ?_; try exact trivial)
  rintro i ⟨hi, hE⟩
  refine zs ?_;try exact trivial
  cases g : decide ((i : Int) < (l.length : Int))
  · have e : l.take i = l := List.take_of_length_le (by have := of_decide_eq_false g; omega)
    rw [e] at hE ⊢
    simp (maxSteps:=2000000) (disch:=omega) only [go_sem,Nat.reduceAdd,Nat.reduceSub,Nat.reduceMul,Nat.reduceBEq,Nat.reduceEqDiff,Nat.reduceLT,Nat.reduceLeDiff,Nat.reduceDiv,reduceIte,reduceCtorEq, g]
    exact ⟨_, _, leV_refl _, leH_refl _, fun q => absurd hE q, fun _ => ⟨rfl, rfl⟩⟩
  have g' := of_decide_eq_true g
  have hlt : i < l.length := by omega
  have hsp := gev_split hlt
  have htk := gev_take hlt
  have hc := ov_len (l := l.take i) (c := c0)
  have hlen : (l.take i).length = i := by rw [List.length_take]; omega
  rw [hlen] at hc
  have hIc := hI.ov (l := l.take i)
  have hap := apply_all (ovC c0 (l.take i)) (gev l i) hIc (by omega)
  have hre := isResult_h (gev l i)
  simp (maxSteps:=2000000) (disch:=omega) only [go_sem,Nat.reduceAdd,Nat.reduceSub,Nat.reduceMul,Nat.reduceBEq,Nat.reduceEqDiff,Nat.reduceLT,Nat.reduceLeDiff,Nat.reduceDiv,reduceIte,reduceCtorEq, g]
  refine a_call [] (hre) ok0 ?_ ?_ ?_
  · refine zs ?_;try exact trivial
  · refine zs ?_;try exact trivial
  rintro _ _ ⟨rfl, rfl⟩
  cases k : decide ((gev l i).kind = 5)
  · have hk := of_decide_eq_false k
    refine zc ?_;try exact trivial
    refine a_call [.loc [16, 0, 14]] (hap) (ok1 rfl) ?_ ?_ ?_
    · refine zs ?_;try exact trivial
    · refine zs ?_;try exact trivial
    rintro _ _ ⟨rfl, rfl⟩
    by_cases hm : mayP18 (ovC c0 (l.take i)) (gev l i) = 0
    · have hE2 := ovE_no hE (.inr hm)
      rw [← htk] at hE2
      have ec : ovC c0 (l.take (i + 1)) = nextP (ovC c0 (l.take i)) (gev l i) := by rw [htk, ovC_one, if_neg hk]
      rw [hm, ← ec]
      refine zc ?_;try exact trivial
      refine ⟨i + 1, by omega, ⟨by omega, hE2⟩, ?_⟩
      try (refine zc ?_; try exact trivial)
      all_goals first | exact leCs_refl _ | trace_state
    have hb := ovE_bad (b := l.drop (i + 1)) hE hk hm
    rw [← hsp, hlen] at hb
    have dm : decide (mayP18 (ovC c0 (l.take i)) (gev l i) = 0) = false := decide_eq_false hm
    generalize mayP18 (ovC c0 (l.take i)) (gev l i) = v at hb hm dm
    simp (maxSteps:=2000000) (disch:=omega) only [go_sem,Nat.reduceAdd,Nat.reduceSub,Nat.reduceMul,Nat.reduceBEq,Nat.reduceEqDiff,Nat.reduceLT,Nat.reduceLeDiff,Nat.reduceDiv,reduceIte,reduceCtorEq, dm, decide_not, Bool.not_false]
    refine ⟨_, [], leV_refl _, leH_none, fun _ => ?_, fun q => absurd (by rw [hb] at q; exact q) hm⟩
    rw [hb]
    exact ⟨rfl, rfl⟩
  have hk := of_decide_eq_true k
  have hE2 := ovE_no hE (e := gev l i) (.inl hk)
  rw [← htk] at hE2
  have ec : ovC c0 (l.take (i + 1)) = ovC c0 (l.take i) := by rw [htk, ovC_one, if_pos hk]
  rw [← ec]
  refine zc ?_;try exact trivial
  refine ⟨i + 1, by omega, ⟨by omega, hE2⟩, ?_⟩
  try (refine zc ?_; try exact trivial)
  all_goals first | exact leCs_refl _ | trace_state
theorem over_game (hg : gameP code cap fuel ≠ 0) : Holds Tryz.prog 35 [.game code cap fuel, .c (.lst .no none 6 (evs l))] [] (fun r h' => r = .tup [.c (.val (.pointer none)), .int .i64 0, .int .i64 (gameP code cap fuel)] ∧ h' = []) := by
  have hn := rnew_bad code cap fuel hcl hg
  have dg : decide (gameP code cap fuel = 0) = false := decide_eq_false hg
  generalize gameP code cap fuel = v at hn dg
  refine holds_of_awp Tryz.func35 rfl (by decide +kernel) mixed Tryz.ntmps35 Tryz.results35 ?_
  refine zE ?_
  refine zs ?_;try exact trivial
  refine a_call [] (hn) ok0 ?_ ?_ ?_
  · refine zs ?_;try exact trivial
  · refine zs ?_;try exact trivial
  rintro _ _ ⟨rfl, rfl⟩
  simp (maxSteps:=2000000) (disch:=omega) only [go_sem,Nat.reduceAdd,Nat.reduceSub,Nat.reduceMul,Nat.reduceBEq,Nat.reduceEqDiff,Nat.reduceLT,Nat.reduceLeDiff,Nat.reduceDiv,reduceIte,reduceCtorEq, dg, decide_not, Bool.not_false]
set_option maxRecDepth 20000 in
set_option maxHeartbeats 4000000 in
theorem over_h (hl : l.length ≤ 1000) (hg : gameP code cap fuel = 0) : Holds Tryz.prog 35 [.game code cap fuel, .c (.lst .no none 6 (evs l))] [] (fun r h' =>
    ((ovE (ctNew code cap fuel) 0 l).2 ≠ 0 → r = .tup [.c (.val (.pointer none)), .int .i64 (ovE (ctNew code cap fuel) 0 l).1, .int .i64 (ovE (ctNew code cap fuel) 0 l).2] ∧ h' = []) ∧
    ((ovE (ctNew code cap fuel) 0 l).2 = 0 → r = .tup [.c (.ptr (.loc [13, 0, 12]) 0), .int .i64 0, .int .i64 0] ∧ h' = [(.loc [13, 0, 12], rfB (.loc [13, 0, 12]) (ovC (ctNew code cap fuel) l))])) := by
  have hn := rnew_ok code cap fuel hcl hg
  have hI := inv_new hg
  have h0 : (ctNew code cap fuel).events.length = 0 := rfl
  generalize ctNew code cap fuel = c0 at hn hI h0
  refine holds_of_awp Tryz.func35 rfl (by decide +kernel) mixed Tryz.ntmps35 Tryz.results35 ?_
  refine zE ?_
  refine zs ?_;try exact trivial
  refine a_call [] (hn) ok0 ?_ ?_ ?_
  · refine zs ?_;try exact trivial
  · refine zs ?_;try exact trivial
  rintro _ _ ⟨rfl, rfl⟩
  refine zc ?_;try exact trivial
  refine a_loopk (fun i : Nat => ⟨[.undef, V.cell (.lst .no none 6 (evs l)), .undef, .undef, V.w (.c (.val (.pointer none))), V.int .i64 0, V.int .i64 0, V.cell (.ptr (.loc [13, 0, 12]) 0), .undef, V.int .i64 (i : Int), U, U, U, U, U, U, U, U, U, U, U, U, U, U, U, U, U, U, U, U, U, U, U, U, U, U, U, U, U, U, U, .undef], [(.loc [13, 0, 12], rfB (.loc [13, 0, 12]) (ovC c0 (l.take i)))]⟩) (fun i => i ≤ l.length ∧ (ovE c0 0 (l.take i)).2 = 0) (fun i => l.length - i) 0 ⟨by omega, by simp [ovE]⟩ ?_ ?_
  · rw [show ovC c0 (l.take 0) = c0 from rfl]
    try (refine zs ?_; try exact trivial)
  rintro i ⟨hi, hE⟩
  refine zs ?_;try exact trivial
  cases g : decide ((i : Int) < (l.length : Int))
  · have e : l.take i = l := List.take_of_length_le (by have := of_decide_eq_false g; omega)
    rw [e] at hE ⊢
    simp (maxSteps:=2000000) (disch:=omega) only [go_sem,Nat.reduceAdd,Nat.reduceSub,Nat.reduceMul,Nat.reduceBEq,Nat.reduceEqDiff,Nat.reduceLT,Nat.reduceLeDiff,Nat.reduceDiv,reduceIte,reduceCtorEq, g]
    exact ⟨_, _, leV_refl _, leH_refl _, fun q => absurd hE q, fun _ => ⟨rfl, rfl⟩⟩
  have g' := of_decide_eq_true g
  have hlt : i < l.length := by omega
  have hsp := gev_split hlt
  have htk := gev_take hlt
  have hc := ov_len (l := l.take i) (c := c0)
  have hlen : (l.take i).length = i := by rw [List.length_take]; omega
  rw [hlen] at hc
  have hIc := hI.ov (l := l.take i)
  have hap := rapply_all (ovC c0 (l.take i)) (gev l i) hIc (by omega)
  simp (maxSteps:=2000000) (disch:=omega) only [go_sem,Nat.reduceAdd,Nat.reduceSub,Nat.reduceMul,Nat.reduceBEq,Nat.reduceEqDiff,Nat.reduceLT,Nat.reduceLeDiff,Nat.reduceDiv,reduceIte,reduceCtorEq, g]
  cases k : decide ((gev l i).kind = 5)
  · have hk := of_decide_eq_false k
    refine zc ?_;try exact trivial
    refine a_call [.loc [13, 0, 12]] (hap) (ok1 rfl) ?_ ?_ ?_
    · refine zs ?_;try exact trivial
    · refine zs ?_;try exact trivial
    rintro _ _ ⟨rfl, rfl⟩
    by_cases hm : mayP18 (ovC c0 (l.take i)) (gev l i) = 0
    · have hE2 := ovE_no hE (.inr hm)
      rw [← htk] at hE2
      have ec : ovC c0 (l.take (i + 1)) = nextP (ovC c0 (l.take i)) (gev l i) := by rw [htk, ovC_one, if_neg hk]
      rw [hm, ← ec]
      refine zc ?_;try exact trivial
      refine ⟨i + 1, by omega, ⟨by omega, hE2⟩, ?_⟩
      try (refine zc ?_; try exact trivial)
      all_goals first | exact leCs_refl _ | trace_state
    have hb := ovE_bad (b := l.drop (i + 1)) hE hk hm
    rw [← hsp, hlen] at hb
    have dm : decide (mayP18 (ovC c0 (l.take i)) (gev l i) = 0) = false := decide_eq_false hm
    generalize mayP18 (ovC c0 (l.take i)) (gev l i) = v at hb hm dm
    simp (maxSteps:=2000000) (disch:=omega) only [go_sem,Nat.reduceAdd,Nat.reduceSub,Nat.reduceMul,Nat.reduceBEq,Nat.reduceEqDiff,Nat.reduceLT,Nat.reduceLeDiff,Nat.reduceDiv,reduceIte,reduceCtorEq, dm, decide_not, Bool.not_false]
    refine ⟨_, [], leV_refl _, leH_none, fun _ => ?_, fun q => absurd (by rw [hb] at q; exact q) hm⟩
    rw [hb]
    exact ⟨rfl, rfl⟩
  have hk := of_decide_eq_true k
  have hE2 := ovE_no hE (e := gev l i) (.inl hk)
  rw [← htk] at hE2
  have ec : ovC c0 (l.take (i + 1)) = ovC c0 (l.take i) := by rw [htk, ovC_one, if_pos hk]
  rw [← ec]
  refine zc ?_;try exact trivial
  refine ⟨i + 1, by omega, ⟨by omega, hE2⟩, ?_⟩
  try (refine zc ?_; try exact trivial)
  all_goals first | exact leCs_refl _ | trace_state
end
end
section
def le4 (v : UInt32) : List UInt8 := [c32to8 v, c32to8 (shr32 v 8), c32to8 (shr32 v 16), c32to8 (shr32 v 24)]
theorem byt_le4 (v : UInt32) : [.val (.int .u8 (U8 (c32to8 v))), .val (.int .u8 (U8 (c32to8 (shr32 v 8)))), .val (.int .u8 (U8 (c32to8 (shr32 v 16)))), .val (.int .u8 (U8 (c32to8 (shr32 v 24))))] = byt (le4 v) := rfl

set_option maxHeartbeats 1000000 in
theorem clone_h (b : List UInt8) (hb : b.length ≤ 100000000) : Holds Tryz.prog 93 [.byt b] [] (fun v h' => v = V.own [7] b ∧ h' = []) := by
  refine holds_of_awp Tryz.func93 rfl (by decide +kernel) mixed Tryz.ntmps93 Tryz.results93 ?_
  refine zE ?_
  ((refine zs ?_; try exact trivial); repeat (with_reducible refine a_apA ?_; (refine zs ?_; try exact trivial)))
  refine ⟨fun e => ?_, ?_⟩
  · exact e
  refine a_apA ?_
  ((refine zs ?_; try exact trivial); repeat (with_reducible refine a_apA ?_; (refine zs ?_; try exact trivial)))
  omega
set_option maxHeartbeats 1000000 in
theorem put_h (b l : List UInt8) (hb : b.length + l.length ≤ 100000000) : Holds Tryz.prog 92 [.ptr (.arg 0) 0, .byt l] [(.arg 0, [.lst (.tag (.cell (.arg 0) 0)) none 1 (byt b)])] (fun v h' => v = .tup [] ∧ h' = [(.arg 0, [.lst (.tag (.cell (.arg 0) 0)) none 1 (byt (b ++ l))])]) := by
  refine holds_of_awp Tryz.func92 rfl (by decide +kernel) mixed Tryz.ntmps92 Tryz.results92 ?_
  refine zE ?_
  ((refine zs ?_; try exact trivial); repeat (with_reducible refine a_apA ?_; (refine zs ?_; try exact trivial)))
  omega
set_option maxHeartbeats 1000000 in
theorem wfour_h (b : List UInt8) (v : UInt32) (hb : b.length ≤ 90000000) : Holds Tryz.prog 60 [.ptr (.arg 0) 0, .int .u32 (U32 v)] [(.arg 0, [.lst (.tag (.cell (.arg 0) 0)) none 1 (byt b)])] (fun r h' => r = .tup [] ∧ h' = [(.arg 0, [.lst (.tag (.cell (.arg 0) 0)) none 1 (byt (b ++ le4 v))])]) := by
  refine holds_of_awp Tryz.func60 rfl (by decide +kernel) mixed Tryz.ntmps60 Tryz.results60 ?_
  refine zE ?_
  ((refine zs ?_; try exact trivial); repeat (with_reducible refine a_apA ?_; (refine zs ?_; try exact trivial)))
  simp only [byt_le4]
  refine a_call [.arg 0] (put_h b (le4 v) (by simp [le4]; omega)) (ok1 rfl) ?_ ?_ ?_
  · refine zs ?_;try exact trivial
  · refine zs ?_;try exact trivial
  rintro _ _ ⟨rfl, rfl⟩
  ((refine zs ?_; try exact trivial); repeat (with_reducible refine a_apA ?_; (refine zs ?_; try exact trivial)))
set_option maxHeartbeats 1000000 in
theorem out_h (b : List UInt8) (hb : b.length ≤ 90000000) : Holds Tryz.prog 62 [.ptr (.arg 0) 0] [(.arg 0, [.lst (.tag (.cell (.arg 0) 0)) none 1 (byt b)])] (fun r h' => r = V.own [9, 0, 7] b ∧ h' = [(.arg 0, [.lst (.tag (.cell (.arg 0) 0)) none 1 (byt b)])]) := by
  refine holds_of_awp Tryz.func62 rfl (by decide +kernel) mixed Tryz.ntmps62 Tryz.results62 ?_
  refine zE ?_
  ((refine zs ?_; try exact trivial); repeat (with_reducible refine a_apA ?_; (refine zs ?_; try exact trivial)))
  refine a_call [] (clone_h b (by omega)) ok0 ?_ ?_ ?_
  · refine zs ?_;try exact trivial
  · refine zs ?_;try exact trivial
  rintro _ _ ⟨rfl, rfl⟩
  ((refine zs ?_; try exact trivial); repeat (with_reducible refine a_apA ?_; (refine zs ?_; try exact trivial)))
set_option maxHeartbeats 1000000 in
theorem rfour_h (v : UInt32) : Holds Tryz.prog 47 [.int .u32 (U32 v)] [] (fun r h' => r = .w (.c (.lst (.tag (.made [14])) none 1 (byt (le4 v)))) ∧ h' = []) := by
  refine holds_of_awp Tryz.func47 rfl (by decide +kernel) mixed Tryz.ntmps47 Tryz.results47 ?_
  refine zE ?_
  ((refine zs ?_; try exact trivial); repeat (with_reducible refine a_apA ?_; (refine zs ?_; try exact trivial)))
  rfl
end
section
abbrev wbx (i : Id) (b : List UInt8) : Id × List C := (i, [.lst (.tag (.cell i 0)) none 1 (byt b)])
theorem wbyte_h (b : List UInt8) (v : UInt8) (hb : b.length ≤ 90000000) : Holds Tryz.prog 61 [.ptr (.arg 0) 0, .int .u8 (U8 v)] [wbx (.arg 0) b] (fun r h' => r = .tup [] ∧ h' = [wbx (.arg 0) (b ++ [v])]) := by
  refine holds_of_awp Tryz.func61 rfl (by decide +kernel) mixed Tryz.ntmps61 Tryz.results61 ?_
  refine zE ?_
  ((refine zs ?_; try exact trivial); repeat (with_reducible refine a_apA ?_; (refine zs ?_; try exact trivial)))
  have eb : [D.val (.int .u8 (U8 v))] = byt [v] := rfl
  simp only [eb]
  refine a_call [.arg 0] (put_h b [v] (by simp; omega)) (ok1 rfl) ?_ ?_ ?_
  · refine zs ?_;try exact trivial
  · refine zs ?_;try exact trivial
  rintro _ _ ⟨rfl, rfl⟩
  ((refine zs ?_; try exact trivial); repeat (with_reducible refine a_apA ?_; (refine zs ?_; try exact trivial)))
set_option maxHeartbeats 1000000 in
theorem wnum_h (b : List UInt8) (v : Int) (h1 : -9223372036854775808 ≤ v) (h2 : v ≤ 9223372036854775807) (hb : b.length ≤ 80000000) : Holds Tryz.prog 59 [.ptr (.arg 0) 0, .int .i64 v] [wbx (.arg 0) b] (fun r h' => r = .tup [] ∧ h' = [wbx (.arg 0) (b ++ num (zz v))]) := by
  refine holds_of_awp Tryz.func59 rfl (by decide +kernel) mixed Tryz.ntmps59 Tryz.results59 ?_
  refine zE ?_
  ((refine zs ?_; try exact trivial); repeat (with_reducible refine a_apA ?_; (refine zs ?_; try exact trivial)))
  rw [zz_eq h1 h2]
  refine a_loopk (fun a : List UInt8 × UInt64 => ⟨[.w (.ptr (.arg 0) 0), U, U, U, V.int .u64 (U64 a.2), U, U, U, U, U, U, U, U, U, U, U, U, U, U, U, U, U, U, U, U, U, .undef], [wbx (.arg 0) (b ++ a.1)]⟩) (fun a => a.1 ++ num a.2 = num (zz v)) (fun a => a.2.toNat) ([], zz v) rfl ?_ ?_
  · ((refine zs ?_; try exact trivial); repeat (with_reducible refine a_apA ?_; (refine zs ?_; try exact trivial)))
  rintro ⟨l, u⟩ hk
  simp only at hk
  have hl : l.length ≤ 10 := by
    have := (num_len (zz v)).2
    rw [← hk, List.length_append] at this
    omega
  ((refine zs ?_; try exact trivial); repeat (with_reducible refine a_apA ?_; (refine zs ?_; try exact trivial)))
  refine c_dec (fun h => ?_) (fun h => ?_)
  · ((refine zs ?_; try exact trivial); repeat (with_reducible refine a_apA ?_; (refine zs ?_; try exact trivial)))
    have eb : [D.val (.int .u8 (U8 (or8 (c64to8 u) (UInt8.ofNat 128))))] = byt [or8 (c64to8 u) (UInt8.ofNat 128)] := rfl
    simp only [show (128 : Int).toNat = 128 from rfl, eb]
    refine a_call [.arg 0] (put_h (b ++ l) [or8 (c64to8 u) (UInt8.ofNat 128)] (by simp; omega)) (ok1 rfl) ?_ ?_ ?_
    · refine zs ?_;try exact trivial
    · refine zs ?_;try exact trivial
    rintro _ _ ⟨rfl, rfl⟩
    ((refine zs ?_; try exact trivial); repeat (with_reducible refine a_apA ?_; (refine zs ?_; try exact trivial)))
    have hu : 128 ≤ u.toNat := by unfold U64 at h; omega
    refine ⟨(l ++ [or8 (c64to8 u) (UInt8.ofNat 128)], shr64 u 7), by rw [shr64_nat]; omega, ?_, ?_⟩
    · rw [← hk, num_more hu]; simp
    ((refine zs ?_; try exact trivial); repeat (with_reducible refine a_apA ?_; (refine zs ?_; try exact trivial)))
    simp only [List.append_assoc]
  ((refine zs ?_; try exact trivial); repeat (with_reducible refine a_apA ?_; (refine zs ?_; try exact trivial)))
  have eb : [D.val (.int .u8 (U8 (c64to8 u)))] = byt [c64to8 u] := rfl
  simp only [eb]
  refine a_call [.arg 0] (put_h (b ++ l) [c64to8 u] (by simp; omega)) (ok1 rfl) ?_ ?_ ?_
  · refine zs ?_;try exact trivial
  · refine zs ?_;try exact trivial
  rintro _ _ ⟨rfl, rfl⟩
  have hu : ¬ 128 ≤ u.toNat := by unfold U64 at h; omega
  ((refine zs ?_; try exact trivial); repeat (with_reducible refine a_apA ?_; (refine zs ?_; try exact trivial)))
  rw [← hk, num_last hu]
  simp only [List.append_assoc]
end
section
set_option maxHeartbeats 2000000 in
theorem rnumO_h (v : Int) (h1 : -9223372036854775808 ≤ v) (h2 : v ≤ 9223372036854775807) : Holds Tryz.prog 46 [.int .i64 v] [] (fun r h' => r = V.own [31] (num (zz v)) ∧ h' = []) := by
  refine holds_of_awp Tryz.func46 rfl (by decide +kernel) mixed Tryz.ntmps46 Tryz.results46 ?_
  refine zE ?_
  ((refine zs ?_; try exact trivial); repeat (with_reducible refine a_apA ?_; (refine zs ?_; try exact trivial)))
  refine c_dec (fun h => ?_) (fun h => ?_)
  · ((refine zs ?_; try exact trivial); repeat (with_reducible refine a_apA ?_; (refine zs ?_; try exact trivial)))
    rw [zz_ref1' h1 h]
    refine a_loopk (fun a : List UInt8 × UInt64 => ⟨[U, U, U, V.int .u64 (U64 a.2), V.cell (.lst (.tag (.slot [24])) none 1 (byt a.1)), U, U, U, U, U, U, U, U, U, U, U, U, U, U, U, U, U, U, U, U, U, U, U, U, U, U, .undef], []⟩) (fun a => a.1 ++ num a.2 = num (zz v)) (fun a => a.2.toNat) ([], zz v) rfl ?_ ?_
    · try ((refine zs ?_; try exact trivial); repeat (with_reducible refine a_apA ?_; (refine zs ?_; try exact trivial)))
    rintro ⟨l, u⟩ hk
    simp only at hk
    have hl : l.length ≤ 10 := by
      have := (num_len (zz v)).2
      rw [← hk, List.length_append] at this
      omega
    ((refine zs ?_; try exact trivial); repeat (with_reducible refine a_apA ?_; (refine zs ?_; try exact trivial)))
    refine c_dec (fun h => ?_) (fun h => ?_)
    · ((refine zs ?_; try exact trivial); repeat (with_reducible refine a_apA ?_; (refine zs ?_; try exact trivial)))
      have hu : 128 ≤ u.toNat := by unfold U64 at h; omega
      refine ⟨by omega, (l ++ [or8 (c64to8 u) (UInt8.ofNat 128)], shr64 u 7), by rw [shr64_nat]; omega, ?_, ?_⟩
      · rw [← hk, num_more hu]; simp
      try ((refine zs ?_; try exact trivial); repeat (with_reducible refine a_apA ?_; (refine zs ?_; try exact trivial)))
      simp only [show (128 : Int).toNat = 128 from rfl, show (127 : Int).toNat = 127 from rfl, dig_ref]
      simp [byt, U8]
    ((refine zs ?_; try exact trivial); repeat (with_reducible refine a_apA ?_; (refine zs ?_; try exact trivial)))
    have hu : ¬ 128 ≤ u.toNat := by unfold U64 at h; omega
    refine ⟨by omega, ?_⟩
    rw [← hk, num_last hu]
    simp [byt, U8]
  ((refine zs ?_; try exact trivial); repeat (with_reducible refine a_apA ?_; (refine zs ?_; try exact trivial)))
  rw [zz_ref0 (by omega) h2]
  refine a_loopk (fun a : List UInt8 × UInt64 => ⟨[U, U, U, V.int .u64 (U64 a.2), V.cell (.lst (.tag (.slot [24])) none 1 (byt a.1)), U, U, U, U, U, U, U, U, U, U, U, U, U, U, U, U, U, U, U, U, U, U, U, U, U, U, .undef], []⟩) (fun a => a.1 ++ num a.2 = num (zz v)) (fun a => a.2.toNat) ([], zz v) rfl ?_ ?_
  · try ((refine zs ?_; try exact trivial); repeat (with_reducible refine a_apA ?_; (refine zs ?_; try exact trivial)))
  rintro ⟨l, u⟩ hk
  simp only at hk
  have hl : l.length ≤ 10 := by
    have := (num_len (zz v)).2
    rw [← hk, List.length_append] at this
    omega
  ((refine zs ?_; try exact trivial); repeat (with_reducible refine a_apA ?_; (refine zs ?_; try exact trivial)))
  refine c_dec (fun h => ?_) (fun h => ?_)
  · ((refine zs ?_; try exact trivial); repeat (with_reducible refine a_apA ?_; (refine zs ?_; try exact trivial)))
    have hu : 128 ≤ u.toNat := by unfold U64 at h; omega
    refine ⟨by omega, (l ++ [or8 (c64to8 u) (UInt8.ofNat 128)], shr64 u 7), by rw [shr64_nat]; omega, ?_, ?_⟩
    · rw [← hk, num_more hu]; simp
    try ((refine zs ?_; try exact trivial); repeat (with_reducible refine a_apA ?_; (refine zs ?_; try exact trivial)))
    simp only [show (128 : Int).toNat = 128 from rfl, show (127 : Int).toNat = 127 from rfl, dig_ref]
    simp [byt, U8]
  ((refine zs ?_; try exact trivial); repeat (with_reducible refine a_apA ?_; (refine zs ?_; try exact trivial)))
  have hu : ¬ 128 ≤ u.toNat := by unfold U64 at h; omega
  refine ⟨by omega, ?_⟩
  rw [← hk, num_last hu]
  simp [byt, U8]
end
section
def encC (l : List Int) : List UInt8 := (l.map fun c => le4 (ofI32 c)).flatten
theorem encC_len (l : List Int) : (encC l).length = l.length * 4 := by
  induction l with
  | nil => rfl
  | cons c l ih => simp only [encC, List.map_cons, List.flatten_cons, List.length_append, List.length_cons] at *; rw [ih]; simp [le4]; omega
theorem encC_snoc (l : List Int) (c : Int) : encC (l ++ [c]) = encC l ++ le4 (ofI32 c) := by simp [encC]
def boolB (b : Bool) : UInt8 := if b then 1 else 0
def encS (s : Sta) : List UInt8 := num (zz s.frame) ++ encC s.cells ++ le4 s.seed ++ [boolB s.over] ++ [ofI8 s.win]
set_option maxHeartbeats 2000000 in
theorem encode_h13 (s : Sta) (h1 : -9223372036854775808 ≤ s.frame) (h2 : s.frame ≤ 9223372036854775807) : Holds Tryz.prog 43 [.agg ((sd s).map D.toC)] [] (fun r h' => r = V.byt (encS s) ∧ h' = []) := by
  have hn := num_len (zz s.frame)
  refine holds_of_awp Tryz.func43 rfl (by decide +kernel) mixed Tryz.ntmps43 Tryz.results43 ?_
  refine zE ?_
  ((refine zs ?_; try exact trivial); repeat (with_reducible refine a_apA ?_; (refine zs ?_; try exact trivial)))
  refine a_call [.loc [3]] (wnum_h [] s.frame h1 h2 (by simp)) (ok1 rfl) ?_ ?_ ?_
  · refine zs ?_;try exact trivial
  · refine zs ?_;try exact trivial
  rintro _ _ ⟨rfl, rfl⟩
  ((refine zs ?_; try exact trivial); repeat (with_reducible refine a_apA ?_; (refine zs ?_; try exact trivial)))
  refine a_loopk (fun k : Nat => ⟨[.undef, V.cell (.ptr (.loc [1]) 0), V.w (.c (.lst .full (some true) 1 [])), V.cell (.ptr (.loc [3]) 0), U, U, U, U, U, U, U, .w (.agg ((c32 s.cells).map D.toC)), V.int .i64 k, U, U, U, U, U, U, U, U, U, U, U, U, U, U, U, U, U, .undef], [wbx (.loc [3]) (num (zz s.frame) ++ encC (s.cells.take k)), (.loc [1], (sd s).map D.toC)]⟩) (· ≤ 16) (16 - ·) 0 (by omega) ?_ ?_
  · ((refine zs ?_; try exact trivial); repeat (with_reducible refine a_apA ?_; (refine zs ?_; try exact trivial)))
    simp [encC, leCs_refl]
  intro k hk
  have hl := s.len
  have hc : (encC (s.cells.take k)).length ≤ 64 := by rw [encC_len, List.length_take]; omega
  ((refine zs ?_; try exact trivial); repeat (with_reducible refine a_apA ?_; (refine zs ?_; try exact trivial)))
  refine c_dec (fun h => ?_) (fun h => ?_)
  · have hk' : k < s.cells.length := by omega
    ((refine zs ?_; try exact trivial); repeat (with_reducible refine a_apA ?_; (refine zs ?_; try exact trivial)))
    refine a_call [.loc [3]] (wfour_h (num (zz s.frame) ++ encC (s.cells.take k)) (ofI32 (s.cells.getD k 0)) (by simp; omega)) (ok1 rfl) ?_ ?_ ?_
    · refine zs ?_;try exact trivial
    · refine zs ?_;try exact trivial
    rintro _ _ ⟨rfl, rfl⟩
    ((refine zs ?_; try exact trivial); repeat (with_reducible refine a_apA ?_; (refine zs ?_; try exact trivial)))
    refine ⟨k + 1, by omega, by omega, ?_⟩
    ((refine zs ?_; try exact trivial); repeat (with_reducible refine a_apA ?_; (refine zs ?_; try exact trivial)))
    have e : s.cells.take (k + 1) = s.cells.take k ++ [s.cells.getD k 0] := by
      rw [List.take_add_one]; simp [List.getD, hk']
    rw [e, encC_snoc]
    simp
  have : k = 16 := by omega
  subst this
  have e : s.cells.take 16 = s.cells := List.take_of_length_le (by omega)
  rw [e]
  have hc : (encC s.cells).length ≤ 64 := by rw [encC_len]; omega
  ((refine zs ?_; try exact trivial); repeat (with_reducible refine a_apA ?_; (refine zs ?_; try exact trivial)))
  refine a_call [.loc [3]] (wfour_h (num (zz s.frame) ++ encC s.cells) s.seed (by simp; omega)) (ok1 rfl) ?_ ?_ ?_
  · refine zs ?_;try exact trivial
  · refine zs ?_;try exact trivial
  rintro _ _ ⟨rfl, rfl⟩
  ((refine zs ?_; try exact trivial); repeat (with_reducible refine a_apA ?_; (refine zs ?_; try exact trivial)))
  have l4 : (le4 s.seed).length = 4 := rfl
  cases ho : s.over
  · ((refine zs ?_; try exact trivial); repeat (with_reducible refine a_apA ?_; (refine zs ?_; try exact trivial)))
    rw [show V.int .u8 0 = V.int .u8 (U8 0) from rfl]
    refine a_call [.loc [3]] (wbyte_h (num (zz s.frame) ++ encC s.cells ++ le4 s.seed) 0 (by simp; omega)) (ok1 rfl) ?_ ?_ ?_
    · refine zs ?_;try exact trivial
    · refine zs ?_;try exact trivial
    rintro _ _ ⟨rfl, rfl⟩
    ((refine zs ?_; try exact trivial); repeat (with_reducible refine a_apA ?_; (refine zs ?_; try exact trivial)))
    refine a_call [.loc [3]] (wbyte_h (num (zz s.frame) ++ encC s.cells ++ le4 s.seed ++ [0]) (ofI8 s.win) (by simp; omega)) (ok1 rfl) ?_ ?_ ?_
    · refine zs ?_;try exact trivial
    · refine zs ?_;try exact trivial
    rintro _ _ ⟨rfl, rfl⟩
    ((refine zs ?_; try exact trivial); repeat (with_reducible refine a_apA ?_; (refine zs ?_; try exact trivial)))
    refine a_call [.loc [3]] (out_h (num (zz s.frame) ++ encC s.cells ++ le4 s.seed ++ [0] ++ [ofI8 s.win]) (by simp; omega)) (ok1 rfl) ?_ ?_ ?_
    · refine zs ?_;try exact trivial
    · refine zs ?_;try exact trivial
    rintro _ _ ⟨rfl, rfl⟩
    ((refine zs ?_; try exact trivial); repeat (with_reducible refine a_apA ?_; (refine zs ?_; try exact trivial)))
    simp only [encS, ho, boolB]
    try ((refine zs ?_; try exact trivial); repeat (with_reducible refine a_apA ?_; (refine zs ?_; try exact trivial)))
  ((refine zs ?_; try exact trivial); repeat (with_reducible refine a_apA ?_; (refine zs ?_; try exact trivial)))
  rw [show V.int .u8 1 = V.int .u8 (U8 1) from rfl]
  refine a_call [.loc [3]] (wbyte_h (num (zz s.frame) ++ encC s.cells ++ le4 s.seed) 1 (by simp; omega)) (ok1 rfl) ?_ ?_ ?_
  · refine zs ?_;try exact trivial
  · refine zs ?_;try exact trivial
  rintro _ _ ⟨rfl, rfl⟩
  ((refine zs ?_; try exact trivial); repeat (with_reducible refine a_apA ?_; (refine zs ?_; try exact trivial)))
  refine a_call [.loc [3]] (wbyte_h (num (zz s.frame) ++ encC s.cells ++ le4 s.seed ++ [1]) (ofI8 s.win) (by simp; omega)) (ok1 rfl) ?_ ?_ ?_
  · refine zs ?_;try exact trivial
  · refine zs ?_;try exact trivial
  rintro _ _ ⟨rfl, rfl⟩
  ((refine zs ?_; try exact trivial); repeat (with_reducible refine a_apA ?_; (refine zs ?_; try exact trivial)))
  refine a_call [.loc [3]] (out_h (num (zz s.frame) ++ encC s.cells ++ le4 s.seed ++ [1] ++ [ofI8 s.win]) (by simp; omega)) (ok1 rfl) ?_ ?_ ?_
  · refine zs ?_;try exact trivial
  · refine zs ?_;try exact trivial
  rintro _ _ ⟨rfl, rfl⟩
  ((refine zs ?_; try exact trivial); repeat (with_reducible refine a_apA ?_; (refine zs ?_; try exact trivial)))
  simp only [encS, ho, boolB]
  try ((refine zs ?_; try exact trivial); repeat (with_reducible refine a_apA ?_; (refine zs ?_; try exact trivial)))
end
section
def rot (x : UInt32) (n : Nat) : UInt32 := or32 (shr32 x n) (shl32 x (32 - n))
def shaS0 (x : UInt32) : UInt32 := xor32 (xor32 (rot x 7) (rot x 18)) (shr32 x 3)
def shaS1 (x : UInt32) : UInt32 := xor32 (xor32 (rot x 17) (rot x 19)) (shr32 x 10)
def shaB0 (x : UInt32) : UInt32 := xor32 (xor32 (rot x 2) (rot x 13)) (rot x 22)
def shaB1 (x : UInt32) : UInt32 := xor32 (xor32 (rot x 6) (rot x 11)) (rot x 25)
def shaCh (x y z : UInt32) : UInt32 := xor32 (and32 x y) (and32 (not32 x) z)
def shaMaj (x y z : UInt32) : UInt32 := xor32 (xor32 (and32 x y) (and32 x z)) (and32 y z)

def shaK : List UInt32 := [
  0x428a2f98, 0x71374491, 0xb5c0fbcf, 0xe9b5dba5, 0x3956c25b, 0x59f111f1, 0x923f82a4, 0xab1c5ed5,
  0xd807aa98, 0x12835b01, 0x243185be, 0x550c7dc3, 0x72be5d74, 0x80deb1fe, 0x9bdc06a7, 0xc19bf174,
  0xe49b69c1, 0xefbe4786, 0x0fc19dc6, 0x240ca1cc, 0x2de92c6f, 0x4a7484aa, 0x5cb0a9dc, 0x76f988da,
  0x983e5152, 0xa831c66d, 0xb00327c8, 0xbf597fc7, 0xc6e00bf3, 0xd5a79147, 0x06ca6351, 0x14292967,
  0x27b70a85, 0x2e1b2138, 0x4d2c6dfc, 0x53380d13, 0x650a7354, 0x766a0abb, 0x81c2c92e, 0x92722c85,
  0xa2bfe8a1, 0xa81a664b, 0xc24b8b70, 0xc76c51a3, 0xd192e819, 0xd6990624, 0xf40e3585, 0x106aa070,
  0x19a4c116, 0x1e376c08, 0x2748774c, 0x34b0bcb5, 0x391c0cb3, 0x4ed8aa4a, 0x5b9cca4f, 0x682e6ff3,
  0x748f82ee, 0x78a5636f, 0x84c87814, 0x8cc70208, 0x90befffa, 0xa4506ceb, 0xbef9a3f7, 0xc67178f2]

/-- a byte, a word at a place -/
def b8 (b : List UInt8) (i : Nat) : UInt8 := b.getD i 0
def w32 (b : List UInt32) (i : Nat) : UInt32 := b.getD i 0
def be32 (b : List UInt8) (i : Nat) : UInt32 :=
  or32 (or32 (or32 (shl32 (c8to32 (b8 b (4*i))) 24) (shl32 (c8to32 (b8 b (4*i+1))) 16)) (shl32 (c8to32 (b8 b (4*i+2))) 8)) (c8to32 (b8 b (4*i+3)))
def shaFill (b : List UInt8) : Nat → List UInt32
  | 0 => List.replicate 64 0
  | k+1 => (shaFill b k).set k (be32 b k)
def extVal (ws : List UInt32) (k : Nat) : UInt32 :=
  add32 (add32 (add32 (w32 ws k) (shaS0 (w32 ws (k+1)))) (w32 ws (k+9))) (shaS1 (w32 ws (k+14)))
def shaExt (w0 : List UInt32) : Nat → List UInt32
  | 0 => w0
  | k+1 => (shaExt w0 k).set (k+16) (extVal (shaExt w0 k) k)
def shaT (ws v : List UInt32) (j : Nat) : UInt32 :=
  add32 (add32 (add32 (add32 (w32 v 7) (shaB1 (w32 v 4))) (shaCh (w32 v 4) (w32 v 5) (w32 v 6))) (w32 shaK j)) (w32 ws j)
def shaU (v : List UInt32) : UInt32 := add32 (shaB0 (w32 v 0)) (shaMaj (w32 v 0) (w32 v 1) (w32 v 2))
def shaStep (ws v : List UInt32) (j : Nat) : List UInt32 :=
  [add32 (shaT ws v j) (shaU v), w32 v 0, w32 v 1, w32 v 2, add32 (w32 v 3) (shaT ws v j), w32 v 4, w32 v 5, w32 v 6]
def shaRounds (ws v0 : List UInt32) : Nat → List UInt32
  | 0 => v0
  | j+1 => shaStep ws (shaRounds ws v0 j) j
def shaAdd (v : List UInt32) (s : List UInt32) : Nat → List UInt32
  | 0 => s
  | i+1 => (shaAdd v s i).set i (add32 (w32 (shaAdd v s i) i) (w32 v i))
def shaBlock (s : List UInt32) (b : List UInt8) : List UInt32 :=
  let ws := shaExt (shaFill b 16) 48
  shaAdd (shaRounds ws s 64) s 8

theorem shaFill_len (b : List UInt8) (k : Nat) : (shaFill b k).length = 64 := by
  induction k with
  | zero => rfl
  | succ k ih => simp [shaFill, ih]
theorem shaExt_len (w0 : List UInt32) (h : w0.length = 64) (k : Nat) : (shaExt w0 k).length = 64 := by
  induction k with
  | zero => exact h
  | succ k ih => simp [shaExt, ih]
theorem shaRounds_len (ws v0 : List UInt32) (h : v0.length = 8) (k : Nat) : (shaRounds ws v0 k).length = 8 := by
  cases k with
  | zero => exact h
  | succ k => rfl
theorem shaAdd_len (v s : List UInt32) (h : s.length = 8) (k : Nat) : (shaAdd v s k).length = 8 := by
  induction k with
  | zero => exact h
  | succ k ih => simp [shaAdd, ih]

theorem bcells_get (xs : List UInt8) (i : Nat) (h : i < xs.length) : (bcells xs)[i]? = some (.int .u8 (U8 (b8 xs i))) := by
  simp [bcells, BV, h, b8, List.getD]
theorem bcells_set (xs : List UInt8) (i : Nat) (x : UInt8) : (bcells xs).setIfInBounds i (.int .u8 (U8 x)) = bcells (xs.set i x) := by
  simp [bcells, BV, List.map_set]
theorem Blk.byte {w : World} {g : Nat} {t : TypeId} {xs : List UInt8} (h : Blk w g t (bcells xs)) {i : Nat} (hi : i < xs.length) :
    w.cell? ⟨g, i, none⟩ = some (.int .u8 (U8 (b8 xs i))) := by rw [h.cell, bcells_get _ _ hi]
theorem Blk.byte' {w : World} {g : Nat} {t : TypeId} {xs : List UInt8} (h : Blk w g t (bcells xs)) {i o : Nat} (hi : i < xs.length) (ho : o = i) :
    w.cell? ⟨g, o, none⟩ = some (.int .u8 (U8 (b8 xs i))) := by subst ho; exact h.byte hi
theorem Blk.setByte {w : World} {g : Nat} {t : TypeId} {xs : List UInt8} (h : Blk w g t (bcells xs)) (i : Nat) (x : UInt8) :
    Blk (w.setCell ⟨g, i, none⟩ (.int .u8 (U8 x))) g t (bcells (xs.set i x)) := by
  have := h.set_ i (.int .u8 (U8 x)); rw [bcells_set] at this; exact this

/-- words as cells -/
def wcells (xs : List UInt32) : Array Value := (xs.map WV).toArray
theorem wcells_get (xs : List UInt32) (i : Nat) (h : i < xs.length) : (wcells xs)[i]? = some (.int .u32 (U32 (w32 xs i))) := by
  simp [wcells, WV, h, w32, List.getD]
theorem wcells_set (xs : List UInt32) (i : Nat) (x : UInt32) : (wcells xs).setIfInBounds i (.int .u32 (U32 x)) = wcells (xs.set i x) := by
  simp [wcells, WV, List.map_set]
theorem Blk.word {w : World} {g : Nat} {t : TypeId} {xs : List UInt32} (h : Blk w g t (wcells xs)) {i : Nat} (hi : i < xs.length) :
    w.cell? ⟨g, i, none⟩ = some (.int .u32 (U32 (w32 xs i))) := by rw [h.cell, wcells_get _ _ hi]
theorem Blk.setWord {w : World} {g : Nat} {t : TypeId} {xs : List UInt32} (h : Blk w g t (wcells xs)) (i : Nat) (x : UInt32) :
    Blk (w.setCell ⟨g, i, none⟩ (.int .u32 (U32 x))) g t (wcells (xs.set i x)) := by
  have := h.set_ i (.int .u32 (U32 x)); rw [wcells_set] at this; exact this
end
end Go.Proofs.YtgeelaafmnedmaaGreat
