/- Parts of a proof: Chapter 18: what a player does, Chapter 18: an input while the other did nothing, Chapter 18: an input, and the frames that it brings. (written by gen18m.py), Chapter 18: a match is opened; an input ahead of the other's, The logic: states, events, numbers in a row compared, Chapter 18: how each kind of event is done. (written by gen18g.py), Chapter 18: an event is taken. (written by gen18h.py), Chapter 18: who is waited for, Chapter 18: how a match goes on, input by input, The law ContestFold: the plain part, Chapter 11, the other one: the states behind so many pairs of inputs, and the last of them, Chapter 18: what holds of a match all the while, Chapter 18: the cells of the other Contest (written by genbox.py), Chapter 18, the other one: a new match, what both did, the state, seats. -/
import Derived.Test.YtgeelaafmnedmaaGreatMJ3
import Derived.Test.YtgeelaafmnedmaaGreatMJ4
set_option linter.unusedSimpArgs false
set_option linter.unusedVariables false
open Go Go.RowKit
namespace Go.Proofs.YtgeelaafmnedmaaGreat
section
@[go_sem ↓ 1200] theorem e_fU {l : List UInt16} {i : Nat} {K : C → Prop} (h : i < l.length) : (∃ c, ((ls fU (l.drop i)).map D.toC)[0]? = some c ∧ K c) = K (.val (.int .u16 (U16 (l.getD i 0)))) := by
  apply ex_some
  rw [List.getElem?_map]
  simp [ls, h, fU, D.toC]
/-- may a player do this, who did mine? -/
def winP (cap : Int) (mine other : List UInt16) (e : Ev) : Int :=
  if e.frame < 0 ∨ cap ≤ e.frame then 1
  else if e.frame < (mine.length : Int) ∧ U16 (mine.getD e.frame.toNat 0) = U16 e.inp then 8
  else if e.frame < (mine.length : Int) then 18
  else if (mine.length : Int) < e.frame ∨ 8 ≤ (mine.length : Int) - (other.length : Int) then 13 else 0
def mayInputP (c : Ct) (e : Ev) : Int := if actP c e.player ≠ 0 then actP c e.player else if seatP c e.player = 0 then winP c.cap c.in0 c.in1 e else winP c.cap c.in1 c.in0 e
set_option maxHeartbeats 4000000 in
theorem mayInput_h (c : Ct) (e : Ev) (h0 : c.in0.length ≤ 1000000) (h1 : c.in1.length ≤ 1000000) : Holds Tryz.prog 77 [.ptr (.arg 0) 0, .ev e] [(.arg 0, ctB (.arg 0) c)] (fun r h' => r = .int .i64 (mayInputP c e) ∧ h' = [(.arg 0, ctB (.arg 0) c)]) := by
  refine holds_of_awp Tryz.func77 rfl (by decide +kernel) mixed Tryz.ntmps77 Tryz.results77 ?_
  refine zE ?_
  refine zs ?_;try exact trivial
  refine a_call [.arg 0] (mayAct_h c e) (ok1 rfl) ?_ ?_ ?_
  · refine zs ?_;try exact trivial
  · refine zs ?_;try exact trivial
  rintro _ _ ⟨rfl, rfl⟩
  refine zs ?_;try exact trivial
  refine c_dec (fun h => ?_) (fun h => ?_)
  · have e1 : mayInputP c e = actP c e.player := by unfold mayInputP; rw [if_pos h]
    rw [e1]
    refine zs ?_;try exact trivial
  have ha : ¬ actP c e.player ≠ 0 := h
  have hs := act_seat (c := c) (x := e.player) (by omega)
  refine zs ?_;try exact trivial
  refine a_call [.arg 0] (seat_h c e.player) (ok1 rfl) ?_ ?_ ?_
  · refine zs ?_;try exact trivial
  · refine zs ?_;try exact trivial
  rintro _ _ ⟨rfl, rfl⟩
  rcases seat_cases c e.player hs with q | q
  · have e1 : mayInputP c e = winP c.cap c.in0 c.in1 e := by unfold mayInputP; rw [if_neg ha, if_pos q]
    rw [e1, q]
    refine zc ?_;try exact trivial
    refine a_quiet (by kernel_rfl) (by kernel_rfl) (by kernel_rfl) ?_
    refine zc ?_;try exact trivial
    refine a_quiet (by kernel_rfl) (by kernel_rfl) (by kernel_rfl) ?_
    cases g1 : decide (e.frame < 0)
    · have f1 := of_decide_eq_false g1
      simp (maxSteps:=2000000) (disch:=omega) only [go_sem,Nat.reduceAdd,Nat.reduceSub,Nat.reduceMul,Nat.reduceBEq,Nat.reduceEqDiff,Nat.reduceLT,Nat.reduceLeDiff,Nat.reduceDiv,reduceIte,reduceCtorEq, g1]
      refine c_dec (fun g2 => ?_) (fun g2 => ?_)
      · have e2 : winP c.cap c.in0 c.in1 e = 1 := by unfold winP; rw [if_pos (.inr g2)]
        rw [e2]
        refine zs ?_;try exact trivial
      have n1 : ¬ (e.frame < 0 ∨ c.cap ≤ e.frame) := by omega
      refine zs ?_;try exact trivial
      refine a_quiet (by kernel_rfl) (by kernel_rfl) (by kernel_rfl) ?_
      cases g3 : decide (e.frame < (c.in0.length : Int))
      · have f3 := of_decide_eq_false g3
        simp (maxSteps:=2000000) (disch:=omega) only [go_sem,Nat.reduceAdd,Nat.reduceSub,Nat.reduceMul,Nat.reduceBEq,Nat.reduceEqDiff,Nat.reduceLT,Nat.reduceLeDiff,Nat.reduceDiv,reduceIte,reduceCtorEq, g3]
        have n2 : ¬ (e.frame < (c.in0.length : Int) ∧ U16 (c.in0.getD e.frame.toNat 0) = U16 e.inp) := fun h => f3 h.1
        cases g4 : decide ((c.in0.length : Int) < e.frame)
        · have f4 := of_decide_eq_false g4
          simp (maxSteps:=2000000) (disch:=omega) only [go_sem,Nat.reduceAdd,Nat.reduceSub,Nat.reduceMul,Nat.reduceBEq,Nat.reduceEqDiff,Nat.reduceLT,Nat.reduceLeDiff,Nat.reduceDiv,reduceIte,reduceCtorEq, g4]
          refine c_dec (fun g5 => ?_) (fun g5 => ?_)
          · have e2 : winP c.cap c.in0 c.in1 e = 13 := by unfold winP; rw [if_neg n1, if_neg n2, if_neg f3, if_pos (.inr g5)]
            rw [e2]
            refine zs ?_;try exact trivial
          have e2 : winP c.cap c.in0 c.in1 e = 0 := by unfold winP; rw [if_neg n1, if_neg n2, if_neg f3, if_neg (by omega)]
          rw [e2]
          refine zs ?_;try exact trivial
        have f4 := of_decide_eq_true g4
        have e2 : winP c.cap c.in0 c.in1 e = 13 := by unfold winP; rw [if_neg n1, if_neg n2, if_neg f3, if_pos (.inl f4)]
        rw [e2]
        simp (maxSteps:=2000000) (disch:=omega) only [go_sem,Nat.reduceAdd,Nat.reduceSub,Nat.reduceMul,Nat.reduceBEq,Nat.reduceEqDiff,Nat.reduceLT,Nat.reduceLeDiff,Nat.reduceDiv,reduceIte,reduceCtorEq, g4]
      have f3 := of_decide_eq_true g3
      simp (maxSteps:=2000000) (disch:=omega) only [go_sem,Nat.reduceAdd,Nat.reduceSub,Nat.reduceMul,Nat.reduceBEq,Nat.reduceEqDiff,Nat.reduceLT,Nat.reduceLeDiff,Nat.reduceDiv,reduceIte,reduceCtorEq, g3]
      refine c_dec (fun g4 => ?_) (fun g4 => ?_)
      · have e2 : winP c.cap c.in0 c.in1 e = 8 := by unfold winP; rw [if_neg n1, if_pos ⟨f3, g4⟩]
        rw [e2]
        refine zs ?_;try exact trivial
      have e2 : winP c.cap c.in0 c.in1 e = 18 := by unfold winP; rw [if_neg n1, if_neg (fun h => g4 h.2), if_pos f3]
      rw [e2]
      simp (maxSteps:=2000000) (disch:=omega) only [go_sem,Nat.reduceAdd,Nat.reduceSub,Nat.reduceMul,Nat.reduceBEq,Nat.reduceEqDiff,Nat.reduceLT,Nat.reduceLeDiff,Nat.reduceDiv,reduceIte,reduceCtorEq, g3]
    have f1 := of_decide_eq_true g1
    have e2 : winP c.cap c.in0 c.in1 e = 1 := by unfold winP; rw [if_pos (.inl f1)]
    rw [e2]
    simp (maxSteps:=2000000) (disch:=omega) only [go_sem,Nat.reduceAdd,Nat.reduceSub,Nat.reduceMul,Nat.reduceBEq,Nat.reduceEqDiff,Nat.reduceLT,Nat.reduceLeDiff,Nat.reduceDiv,reduceIte,reduceCtorEq, g1]
  have e1 : mayInputP c e = winP c.cap c.in1 c.in0 e := by unfold mayInputP; rw [if_neg ha, if_neg (show ¬ seatP c e.player = 0 by omega)]
  rw [e1, q]
  refine zc ?_;try exact trivial
  refine a_quiet (by kernel_rfl) (by kernel_rfl) (by kernel_rfl) ?_
  refine zc ?_;try exact trivial
  refine a_quiet (by kernel_rfl) (by kernel_rfl) (by kernel_rfl) ?_
  cases g1 : decide (e.frame < 0)
  · have f1 := of_decide_eq_false g1
    simp (maxSteps:=2000000) (disch:=omega) only [go_sem,Nat.reduceAdd,Nat.reduceSub,Nat.reduceMul,Nat.reduceBEq,Nat.reduceEqDiff,Nat.reduceLT,Nat.reduceLeDiff,Nat.reduceDiv,reduceIte,reduceCtorEq, g1]
    refine c_dec (fun g2 => ?_) (fun g2 => ?_)
    · have e2 : winP c.cap c.in1 c.in0 e = 1 := by unfold winP; rw [if_pos (.inr g2)]
      rw [e2]
      refine zs ?_;try exact trivial
    have n1 : ¬ (e.frame < 0 ∨ c.cap ≤ e.frame) := by omega
    refine zs ?_;try exact trivial
    refine a_quiet (by kernel_rfl) (by kernel_rfl) (by kernel_rfl) ?_
    cases g3 : decide (e.frame < (c.in1.length : Int))
    · have f3 := of_decide_eq_false g3
      simp (maxSteps:=2000000) (disch:=omega) only [go_sem,Nat.reduceAdd,Nat.reduceSub,Nat.reduceMul,Nat.reduceBEq,Nat.reduceEqDiff,Nat.reduceLT,Nat.reduceLeDiff,Nat.reduceDiv,reduceIte,reduceCtorEq, g3]
      have n2 : ¬ (e.frame < (c.in1.length : Int) ∧ U16 (c.in1.getD e.frame.toNat 0) = U16 e.inp) := fun h => f3 h.1
      cases g4 : decide ((c.in1.length : Int) < e.frame)
      · have f4 := of_decide_eq_false g4
        simp (maxSteps:=2000000) (disch:=omega) only [go_sem,Nat.reduceAdd,Nat.reduceSub,Nat.reduceMul,Nat.reduceBEq,Nat.reduceEqDiff,Nat.reduceLT,Nat.reduceLeDiff,Nat.reduceDiv,reduceIte,reduceCtorEq, g4]
        refine c_dec (fun g5 => ?_) (fun g5 => ?_)
        · have e2 : winP c.cap c.in1 c.in0 e = 13 := by unfold winP; rw [if_neg n1, if_neg n2, if_neg f3, if_pos (.inr g5)]
          rw [e2]
          refine zs ?_;try exact trivial
        have e2 : winP c.cap c.in1 c.in0 e = 0 := by unfold winP; rw [if_neg n1, if_neg n2, if_neg f3, if_neg (by omega)]
        rw [e2]
        refine zs ?_;try exact trivial
      have f4 := of_decide_eq_true g4
      have e2 : winP c.cap c.in1 c.in0 e = 13 := by unfold winP; rw [if_neg n1, if_neg n2, if_neg f3, if_pos (.inl f4)]
      rw [e2]
      simp (maxSteps:=2000000) (disch:=omega) only [go_sem,Nat.reduceAdd,Nat.reduceSub,Nat.reduceMul,Nat.reduceBEq,Nat.reduceEqDiff,Nat.reduceLT,Nat.reduceLeDiff,Nat.reduceDiv,reduceIte,reduceCtorEq, g4]
    have f3 := of_decide_eq_true g3
    simp (maxSteps:=2000000) (disch:=omega) only [go_sem,Nat.reduceAdd,Nat.reduceSub,Nat.reduceMul,Nat.reduceBEq,Nat.reduceEqDiff,Nat.reduceLT,Nat.reduceLeDiff,Nat.reduceDiv,reduceIte,reduceCtorEq, g3]
    refine c_dec (fun g4 => ?_) (fun g4 => ?_)
    · have e2 : winP c.cap c.in1 c.in0 e = 8 := by unfold winP; rw [if_neg n1, if_pos ⟨f3, g4⟩]
      rw [e2]
      refine zs ?_;try exact trivial
    have e2 : winP c.cap c.in1 c.in0 e = 18 := by unfold winP; rw [if_neg n1, if_neg (fun h => g4 h.2), if_pos f3]
    rw [e2]
    simp (maxSteps:=2000000) (disch:=omega) only [go_sem,Nat.reduceAdd,Nat.reduceSub,Nat.reduceMul,Nat.reduceBEq,Nat.reduceEqDiff,Nat.reduceLT,Nat.reduceLeDiff,Nat.reduceDiv,reduceIte,reduceCtorEq, g3]
  have f1 := of_decide_eq_true g1
  have e2 : winP c.cap c.in1 c.in0 e = 1 := by unfold winP; rw [if_pos (.inl f1)]
  rw [e2]
  simp (maxSteps:=2000000) (disch:=omega) only [go_sem,Nat.reduceAdd,Nat.reduceSub,Nat.reduceMul,Nat.reduceBEq,Nat.reduceEqDiff,Nat.reduceLT,Nat.reduceLeDiff,Nat.reduceDiv,reduceIte,reduceCtorEq, g1]
end
section
@[go_sem 1200] theorem fU_app {l : List UInt16} {x : UInt16} : ls fU l ++ [.val (.int .u16 (U16 x))] = ls fU (l ++ [x]) := by simp [ls, fU]
@[go_sem ↓ 1200] theorem e_lenp {P : Program} {t : TypeId} {l : List (UInt16 × UInt16)} {o : Own} {nl : Option Bool} {V' : V → Prop} : aLen P t (.cell (.lst o nl 2 (prs l))) V' = (isSlcT P t = true ∧ V' (.int .i64 l.length)) := by
  simp only [aLen, prs_len, Nat.mul_div_cancel _ (show 0 < 2 by omega)]
@[go_sem ↓ 1200] theorem e_lenE {P : Program} {t : TypeId} {l : List Ev} {o : Own} {nl : Option Bool} {V' : V → Prop} : aLen P t (.cell (.lst o nl 6 (evs l))) V' = (isSlcT P t = true ∧ V' (.int .i64 l.length)) := by
  simp only [aLen, evs_len, Nat.mul_div_cancel _ (show 0 < 6 by omega)]
def inputP0 (c : Ct) (e : Ev) : Ct := if seatP c e.player = 0 then { c with in0 := c.in0 ++ [e.inp] } else { c with in1 := c.in1 ++ [e.inp] }
end
section
@[go_sem 1200] theorem prs_app {l : List (UInt16 × UInt16)} {a b : UInt16} : prs l ++ [.val (.int .u16 (U16 a)), .val (.int .u16 (U16 b))] = prs (l ++ [(a, b)]) := by
  simp [prs, prD, fU]
/-- the frames of which both did something -/
def cuP (code : List (Int × Int)) (cap fuel : Int) (a b : List UInt16) : Nat → List (UInt16 × UInt16) → Sta → List (UInt16 × UInt16) × Sta
  | 0, ps, st => (ps, st)
  | f + 1, ps, st => if st.over = false ∧ ps.length < min a.length b.length then
      cuP code cap fuel a b f (ps ++ [(a.getD ps.length 0, b.getD ps.length 0)]) (stepP code cap fuel st (a.getD ps.length 0) (b.getD ps.length 0)).1 else (ps, st)
def goP (c : Ct) : Ct := { c with pairs := (cuP c.code c.cap c.fuel c.in0 c.in1 (min c.in0.length c.in1.length - c.pairs.length) c.pairs c.st).1, st := (cuP c.code c.cap c.fuel c.in0 c.in1 (min c.in0.length c.in1.length - c.pairs.length) c.pairs c.st).2 }
def inputP (c : Ct) (e : Ev) : Ct := goP (inputP0 c e)
set_option maxRecDepth 20000 in
set_option maxHeartbeats 16000000 in
theorem input_h (c : Ct) (e : Ev) (h0 : c.in0.length ≤ 1000000) (h1 : c.in1.length ≤ 1000000) (hpl : c.pairs.length ≤ 1000000) (hs : 0 ≤ seatP c e.player) (hg : gameP c.code c.cap c.fuel = 0) (hB : ∀ x ∈ c.st.cells, B32 x) :
    Holds Tryz.prog 78 [.ptr (.arg 0) 0, .ev e] [(.arg 0, ctB (.arg 0) c)] (fun r h' => r = .tup [] ∧ h' = [(.arg 0, ctB (.arg 0) (inputP c e))]) := by
  have hcl := game_len hg
  refine holds_of_awp Tryz.func78 rfl (by decide +kernel) mixed Tryz.ntmps78 Tryz.results78 ?_
  refine zE ?_
  refine zs ?_;try exact trivial
  refine a_call [.arg 0] (seat_h c e.player) (ok1 rfl) ?_ ?_ ?_
  · refine zs ?_;try exact trivial
  · refine zs ?_;try exact trivial
  rintro _ _ ⟨rfl, rfl⟩
  rcases seat_cases c e.player hs with q | q
  · have ei : inputP0 c e = { c with in0 := c.in0 ++ [e.inp] } := by unfold inputP0; rw [if_pos q]
    have hF : inputP c e = goP { c with in0 := c.in0 ++ [e.inp] } := by unfold inputP; rw [ei]
    rw [hF]
    clear hF ei
    obtain ⟨code, cap, fuel, p0, p1, seed, l0, l1, over, winner, why, opn, in0, in1, pairs, st, events⟩ := c
    simp only at h0 h1 hpl hg hB hcl
    rw [q]
    obtain ⟨a, ha⟩ : ∃ a, a = in0 ++ [e.inp] := ⟨_, rfl⟩
    obtain ⟨b, hb⟩ : ∃ b, b = in1 := ⟨_, rfl⟩
    have la : a.length ≤ 1000001 := by rw [ha]; simp; omega
    have lb : b.length ≤ 1000001 := by rw [hb]; omega
    obtain ⟨ps', st', hcu⟩ : ∃ ps' st', cuP code cap fuel a b (min a.length b.length - pairs.length) pairs st = (ps', st') := ⟨_, _, rfl⟩
    have hgo : goP ⟨code, cap, fuel, p0, p1, seed, l0, l1, over, winner, why, opn, in0 ++ [e.inp], in1, pairs, st, events⟩ = ⟨code, cap, fuel, p0, p1, seed, l0, l1, over, winner, why, opn, a, b, ps', st', events⟩ := by
      unfold goP
      simp only [← ha, ← hb, hcu]
    rw [hgo]
    refine zc ?_;try exact trivial
    refine a_drawC (⟨[V.cell (.ptr (.arg 0) 0), .undef, .undef, V.cell (.ptr (.loc [3]) 0), V.int .i64 0, U, U, U, U, U, U, U, U, U, U, U, U, U, U, U, U, U, U, U, U, U, U, U, U, U, U, U, U, U, U, U, U, U, U, U, U, U, U, U, U, U, U, U, U, U, U, U, U, U, U, U, U, U, U, U, U, U, U, U, U, U, U, U, U, U, U, U, U, U, U, U, U, U, U, U, U, U, U, U, U, U, U, U, U, U, U, U, U, U, U, U, U, U, U, U, U, U, U, U, U, U, U, U, U, U, .undef], [(.loc [3], evC e), (.arg 0, ctC (.lst .no none 2 (ins code)) cap fuel p0 p1 seed l0 l1 (in0.length : Int) (in1.length : Int) over winner why opn (.lst (.tag (.cell (.arg 0) 14)) none 1 (ls fU (a))) (.lst (.tag (.cell (.arg 0) 15)) none 1 (ls fU (b))) (.lst (.tag (.cell (.arg 0) 16)) none 2 (prs (pairs))) (st) (.lst (.tag (.cell (.arg 0) 37)) none 6 (evs events)))]⟩) (.take 0 (.take 1 (.take 2 (.take 3 (.take 4 (.take 5 (.take 6 (.take 8 (.take 12 (.take 13 (.both [(7, .both [(9, .both [(10, .both [(11, .take 14 (.both [(15, .done)]))])])]), (9, .both [(7, .both [(10, .both [(11, .take 14 (.both [(15, .done)]))])]), (10, .both [(7, .both [(11, .take 14 (.both [(15, .done)]))])])])]))))))))))) (by kernel_rfl) (by kernel_rfl) ?_ ?_
    · refine zc ?_;try exact trivial
      all_goals (try rw [ha]); all_goals (try rw [hb]); all_goals (try (refine zc ?_; try exact trivial)); all_goals (try omega)
    refine zc ?_;try exact trivial
    refine a_drawC (⟨[V.cell (.ptr (.arg 0) 0), .undef, .undef, V.cell (.ptr (.loc [3]) 0), V.int .i64 0, U, U, U, U, U, U, U, U, U, U, U, U, U, U, U, U, U, U, U, U, U, U, U, U, U, U, U, U, U, U, U, U, U, U, U, U, U, U, U, U, U, U, U, U, U, U, U, U, U, U, U, U, U, U, U, U, U, U, U, U, U, U, U, U, U, U, U, U, U, U, U, U, U, U, U, U, U, U, U, U, U, U, U, U, U, U, U, U, U, U, U, U, U, U, U, U, U, U, U, U, U, U, U, U, U, .undef], [(.loc [3], evC e), (.arg 0, ctC (.lst .no none 2 (ins code)) cap fuel p0 p1 seed l0 l1 (a.length : Int) (b.length : Int) over winner why opn (.lst (.tag (.cell (.arg 0) 14)) none 1 (ls fU (a))) (.lst (.tag (.cell (.arg 0) 15)) none 1 (ls fU (b))) (.lst (.tag (.cell (.arg 0) 16)) none 2 (prs (pairs))) (st) (.lst (.tag (.cell (.arg 0) 37)) none 6 (evs events)))]⟩) (.take 0 (.take 1 (.take 2 (.take 3 (.take 4 (.take 5 (.take 8 (.take 9 (.take 10 (.both [(6, .take 7 (.take 11 (.both [(12, .done)])))])))))))))) (by kernel_rfl) (by kernel_rfl) ?_ ?_
    · refine zc ?_;try exact trivial
      all_goals (try rw [ha]); all_goals (try rw [hb]); all_goals (try (refine zc ?_; try exact trivial)); all_goals (try omega)
    refine zc ?_;try exact trivial
    refine a_loopk (fun x : List (UInt16 × UInt16) × Sta => ⟨[V.cell (.ptr (.arg 0) 0), .undef, .undef, V.cell (.ptr (.loc [3]) 0), V.int .i64 0, V.int .i64 (x.1.length : Int), U, U, U, U, U, U, U, U, U, U, U, U, U, U, U, U, U, U, U, U, U, U, U, U, U, U, U, U, U, U, U, U, U, U, U, U, U, U, U, U, U, U, U, U, U, U, U, U, U, U, U, U, U, U, U, U, U, U, U, U, U, U, U, U, U, U, U, U, U, U, U, U, U, U, U, U, U, U, U, U, U, U, U, U, U, U, U, U, U, U, U, U, U, U, U, U, U, U, U, U, U, U, U, U, .undef], [(.loc [3], evC e), (.arg 0, ctC (.lst .no none 2 (ins code)) cap fuel p0 p1 seed l0 l1 (a.length : Int) (b.length : Int) over winner why opn (.lst (.tag (.cell (.arg 0) 14)) none 1 (ls fU (a))) (.lst (.tag (.cell (.arg 0) 15)) none 1 (ls fU (b))) (.lst (.tag (.cell (.arg 0) 16)) none 2 (prs (x.1))) (x.2) (.lst (.tag (.cell (.arg 0) 37)) none 6 (evs events)))]⟩) (fun x => x.1.length ≤ 1000001 ∧ (∀ y ∈ x.2.cells, B32 y) ∧ cuP code cap fuel a b (min a.length b.length - x.1.length) x.1 x.2 = (ps', st')) (fun x => min a.length b.length - x.1.length) (pairs, st) ⟨by show pairs.length ≤ 1000001; omega, hB, hcu⟩ ?_ ?_
    · try (refine zs ?_; try exact trivial)
    rintro ⟨ps, sx⟩ ⟨hp1, hp2, hp3⟩
    simp only at hp1 hp2 hp3 ⊢
    refine zs ?_;try exact trivial
    refine a_quiet (by kernel_rfl) (by kernel_rfl) (by kernel_rfl) ?_
    cases so : (!sx.over)
    · have so' : sx.over = true := by cases hh : sx.over <;> simp_all
      have e0 : cuP code cap fuel a b (min a.length b.length - ps.length) ps sx = (ps, sx) := by
        cases hm : min a.length b.length - ps.length with
        | zero => rfl
        | succ n => unfold cuP; rw [if_neg (by rw [so']; simp)]
      rw [e0] at hp3
      cases hp3
      simp (maxSteps:=2000000) (disch:=omega) only [go_sem,Nat.reduceAdd,Nat.reduceSub,Nat.reduceMul,Nat.reduceBEq,Nat.reduceEqDiff,Nat.reduceLT,Nat.reduceLeDiff,Nat.reduceDiv,reduceIte,reduceCtorEq, so]
      all_goals exact ct_le ⟨leC_refl _, rfl, rfl, rfl, rfl, rfl, rfl, rfl, rfl, rfl, rfl, rfl, rfl, rfl, leC_refl _, leC_refl _, leC_refl _, rfl, leC_refl _⟩
    simp (maxSteps:=2000000) (disch:=omega) only [go_sem,Nat.reduceAdd,Nat.reduceSub,Nat.reduceMul,Nat.reduceBEq,Nat.reduceEqDiff,Nat.reduceLT,Nat.reduceLeDiff,Nat.reduceDiv,reduceIte,reduceCtorEq, so]
    have so' : sx.over = false := by cases hh : sx.over <;> simp_all
    refine c_dec (fun g => ?_) (fun g => ?_)
    · have hlt : ps.length < min a.length b.length := by omega
      have hpa : ps.length < a.length := by omega
      have hpb : ps.length < b.length := by omega
      obtain ⟨m, hm⟩ : ∃ m, min a.length b.length - ps.length = m + 1 := ⟨min a.length b.length - ps.length - 1, by omega⟩
      rw [hm] at hp3
      unfold cuP at hp3
      rw [if_pos ⟨so', hlt⟩] at hp3
      refine zc ?_;try exact trivial
      refine a_drawC (⟨[V.cell (.ptr (.arg 0) 0), .undef, .undef, V.cell (.ptr (.loc [3]) 0), V.int .i64 0, V.int .i64 (ps.length : Int), V.cell (.ptr (.loc [6]) 0), U, U, U, U, U, U, U, U, U, U, U, U, U, U, U, U, U, U, U, U, U, U, U, U, U, U, U, U, U, U, U, U, U, U, U, U, U, U, U, U, U, U, U, U, U, U, U, U, U, U, U, U, U, U, U, U, U, U, U, U, U, U, U, U, U, U, U, U, U, U, U, U, U, U, U, U, U, U, U, U, U, U, U, U, U, U, U, U, U, U, U, U, U, U, U, U, U, U, U, U, U, U, U, .undef], [(.loc [6], [.val (.int .u16 (U16 (a.getD ps.length 0))), .val (.int .u16 (U16 (b.getD ps.length 0)))]), (.loc [3], evC e), (.arg 0, ctC (.lst .no none 2 (ins code)) cap fuel p0 p1 seed l0 l1 (a.length : Int) (b.length : Int) over winner why opn (.lst (.tag (.cell (.arg 0) 14)) none 1 (ls fU (a))) (.lst (.tag (.cell (.arg 0) 15)) none 1 (ls fU (b))) (.lst (.tag (.cell (.arg 0) 16)) none 2 (prs (ps))) (sx) (.lst (.tag (.cell (.arg 0) 37)) none 6 (evs events)))]⟩) (.take 0 (.take 1 (.take 2 (.take 3 (.take 5 (.take 8 (.take 9 (.take 10 (.take 11 (.take 13 (.both [(4, .take 6 (.both [(7, .both [(12, .take 14 (.both [(15, .both [(16, .both [(17, .both [(18, .done)])]), (17, .both [(16, .both [(18, .done)])])]), (17, .both [(15, .both [(16, .both [(18, .done)])])])])), (17, .both [(12, .take 14 (.both [(15, .both [(16, .both [(18, .done)])])]))])]), (12, .take 14 (.both [(7, .both [(15, .both [(16, .both [(17, .both [(18, .done)])]), (17, .both [(16, .both [(18, .done)])])]), (17, .both [(15, .both [(16, .both [(18, .done)])])])]), (15, .both [(7, .both [(16, .both [(17, .both [(18, .done)])]), (17, .both [(16, .both [(18, .done)])])]), (17, .both [(7, .both [(16, .both [(18, .done)])])])]), (17, .both [(7, .both [(15, .both [(16, .both [(18, .done)])])]), (15, .both [(7, .both [(16, .both [(18, .done)])])])])])), (17, .both [(7, .both [(12, .take 14 (.both [(15, .both [(16, .both [(18, .done)])])]))]), (12, .take 14 (.both [(7, .both [(15, .both [(16, .both [(18, .done)])])]), (15, .both [(7, .both [(16, .both [(18, .done)])])])]))])])), (12, .take 14 (.both [(4, .take 6 (.both [(7, .both [(15, .both [(16, .both [(17, .both [(18, .done)])]), (17, .both [(16, .both [(18, .done)])])]), (17, .both [(15, .both [(16, .both [(18, .done)])])])]), (15, .both [(7, .both [(16, .both [(17, .both [(18, .done)])]), (17, .both [(16, .both [(18, .done)])])]), (17, .both [(7, .both [(16, .both [(18, .done)])])])]), (17, .both [(7, .both [(15, .both [(16, .both [(18, .done)])])]), (15, .both [(7, .both [(16, .both [(18, .done)])])])])])), (15, .both [(4, .take 6 (.both [(7, .both [(16, .both [(17, .both [(18, .done)])]), (17, .both [(16, .both [(18, .done)])])]), (17, .both [(7, .both [(16, .both [(18, .done)])])])])), (17, .both [(4, .take 6 (.both [(7, .both [(16, .both [(18, .done)])])]))])]), (17, .both [(4, .take 6 (.both [(7, .both [(15, .both [(16, .both [(18, .done)])])]), (15, .both [(7, .both [(16, .both [(18, .done)])])])])), (15, .both [(4, .take 6 (.both [(7, .both [(16, .both [(18, .done)])])]))])])])), (17, .both [(4, .take 6 (.both [(7, .both [(12, .take 14 (.both [(15, .both [(16, .both [(18, .done)])])]))]), (12, .take 14 (.both [(7, .both [(15, .both [(16, .both [(18, .done)])])]), (15, .both [(7, .both [(16, .both [(18, .done)])])])]))])), (12, .take 14 (.both [(4, .take 6 (.both [(7, .both [(15, .both [(16, .both [(18, .done)])])]), (15, .both [(7, .both [(16, .both [(18, .done)])])])])), (15, .both [(4, .take 6 (.both [(7, .both [(16, .both [(18, .done)])])]))])]))])]))))))))))) (by kernel_rfl) (by kernel_rfl) ?_ ?_
      · refine zc ?_;try exact trivial
      refine zc ?_;try exact trivial
      refine a_drawC (⟨[V.cell (.ptr (.arg 0) 0), .undef, .undef, V.cell (.ptr (.loc [3]) 0), V.int .i64 0, V.int .i64 (ps.length : Int), V.cell (.ptr (.loc [6]) 0), U, U, U, U, U, U, U, U, U, U, U, U, U, U, U, U, U, U, U, U, U, U, U, U, U, U, U, U, U, U, U, U, U, U, U, U, U, U, U, U, U, U, U, U, U, U, U, U, U, U, U, U, U, U, U, U, U, U, U, U, U, U, U, U, U, U, U, U, U, U, U, U, U, U, U, U, U, U, U, U, U, U, U, U, U, U, U, U, U, U, U, U, U, U, U, U, U, U, U, U, U, U, U, .undef], [(.loc [6], [.val (.int .u16 (U16 (a.getD ps.length 0))), .val (.int .u16 (U16 (b.getD ps.length 0)))]), (.loc [3], evC e), (.arg 0, ctC (.lst .no none 2 (ins code)) cap fuel p0 p1 seed l0 l1 (a.length : Int) (b.length : Int) over winner why opn (.lst (.tag (.cell (.arg 0) 14)) none 1 (ls fU (a))) (.lst (.tag (.cell (.arg 0) 15)) none 1 (ls fU (b))) (.lst (.tag (.cell (.arg 0) 16)) none 2 (prs (ps ++ [(a.getD ps.length 0, b.getD ps.length 0)]))) (sx) (.lst (.tag (.cell (.arg 0) 37)) none 6 (evs events)))]⟩) (.take 0 (.take 1 (.take 2 (.take 3 (.both [(4, .both [(5, .both [(6, .both [(7, .take 8 (.take 9 (.both [(10, .done)])))])])]), (5, .both [(4, .both [(6, .both [(7, .take 8 (.take 9 (.both [(10, .done)])))])]), (6, .both [(4, .both [(7, .take 8 (.take 9 (.both [(10, .done)])))])])])]))))) (by kernel_rfl) (by kernel_rfl) ?_ ?_
      · refine zc ?_;try exact trivial
        all_goals omega
      refine zc ?_;try exact trivial
      refine a_drawC (⟨[V.cell (.ptr (.arg 0) 0), .undef, .undef, V.cell (.ptr (.loc [3]) 0), V.int .i64 0, V.int .i64 (ps.length : Int), V.cell (.ptr (.loc [6]) 0), U, U, U, U, U, U, U, U, U, U, U, U, U, U, U, U, U, U, U, U, U, U, U, U, U, U, U, U, U, U, U, U, U, U, U, U, U, U, U, U, U, U, U, U, U, U, U, U, U, U, U, U, U, U, U, U, U, U, U, U, U, U, U, U, U, U, U, U, U, U, U, U, U, U, U, U, U, U, U, U, U, U, U, U, U, U, U, U, U, U, U, U, U, U, U, U, U, U, U, U, U, U, U, .undef], [(.loc [6], [.val (.int .u16 (U16 (a.getD ps.length 0))), .val (.int .u16 (U16 (b.getD ps.length 0)))]), (.loc [3], evC e), (.arg 0, ctC (.lst .no none 2 (ins code)) cap fuel p0 p1 seed l0 l1 (a.length : Int) (b.length : Int) over winner why opn (.lst (.tag (.cell (.arg 0) 14)) none 1 (ls fU (a))) (.lst (.tag (.cell (.arg 0) 15)) none 1 (ls fU (b))) (.lst (.tag (.cell (.arg 0) 16)) none 2 (prs (ps ++ [(a.getD ps.length 0, b.getD ps.length 0)]))) ((stepP code cap fuel sx (a.getD ps.length 0) (b.getD ps.length 0)).1) (.lst (.tag (.cell (.arg 0) 37)) none 6 (evs events)))]⟩) (.take 0 (.take 1 (.take 2 (.take 3 (.take 5 (.take 6 (.take 7 (.both [(4, .both [(8, .both [(9, .both [(10, .take 11 (.take 12 (.take 13 (.take 14 (.take 15 (.both [(16, .done)]))))))])]), (9, .both [(8, .both [(10, .take 11 (.take 12 (.take 13 (.take 14 (.take 15 (.both [(16, .done)]))))))])])]), (8, .both [(4, .both [(9, .both [(10, .take 11 (.take 12 (.take 13 (.take 14 (.take 15 (.both [(16, .done)]))))))])]), (9, .both [(4, .both [(10, .take 11 (.take 12 (.take 13 (.take 14 (.take 15 (.both [(16, .done)]))))))])])]), (9, .both [(4, .both [(8, .both [(10, .take 11 (.take 12 (.take 13 (.take 14 (.take 15 (.both [(16, .done)]))))))])]), (8, .both [(4, .both [(10, .take 11 (.take 12 (.take 13 (.take 14 (.take 15 (.both [(16, .done)]))))))])])])])))))))) (by kernel_rfl) (by kernel_rfl) ?_ ?_
      · refine zc ?_;try exact trivial
        have hst := step_h code cap fuel sx (a.getD ps.length 0) (b.getD ps.length 0) (by omega) hp2
        refine a_call [] hst ok0 ?_ ?_ ?_
        · refine zs ?_;try exact trivial
        · refine zs ?_;try exact trivial
        rintro _ _ ⟨rfl, rfl⟩
        refine zc ?_;try exact trivial
        all_goals exact leCs_refl _
      refine zc ?_;try exact trivial
      refine ⟨(ps ++ [(a.getD ps.length 0, b.getD ps.length 0)], (stepP code cap fuel sx (a.getD ps.length 0) (b.getD ps.length 0)).1), ?_, ⟨?_, ?_, ?_⟩, ?_⟩
      · simp; omega
      · simp; omega
      · exact step_B32 _ _ _ _ _ _ hp2
      · simp only [List.length_append, List.length_cons, List.length_nil]
        rw [show min a.length b.length - (ps.length + (0 + 1)) = m by omega]
        exact hp3
      try (refine zs ?_; try exact trivial)
    have e0 : cuP code cap fuel a b (min a.length b.length - ps.length) ps sx = (ps, sx) := by
      rw [show min a.length b.length - ps.length = 0 by omega]; rfl
    rw [e0] at hp3
    cases hp3
    refine zs ?_;try exact trivial
    all_goals exact ct_le ⟨leC_refl _, rfl, rfl, rfl, rfl, rfl, rfl, rfl, rfl, rfl, rfl, rfl, rfl, rfl, leC_refl _, leC_refl _, leC_refl _, rfl, leC_refl _⟩
  have ei : inputP0 c e = { c with in1 := c.in1 ++ [e.inp] } := by unfold inputP0; rw [if_neg (show ¬ seatP c e.player = 0 by omega)]
  have hF : inputP c e = goP { c with in1 := c.in1 ++ [e.inp] } := by unfold inputP; rw [ei]
  rw [hF]
  clear hF ei
  obtain ⟨code, cap, fuel, p0, p1, seed, l0, l1, over, winner, why, opn, in0, in1, pairs, st, events⟩ := c
  simp only at h0 h1 hpl hg hB hcl
  rw [q]
  obtain ⟨a, ha⟩ : ∃ a, a = in0 := ⟨_, rfl⟩
  obtain ⟨b, hb⟩ : ∃ b, b = in1 ++ [e.inp] := ⟨_, rfl⟩
  have la : a.length ≤ 1000001 := by rw [ha]; omega
  have lb : b.length ≤ 1000001 := by rw [hb]; simp; omega
  obtain ⟨ps', st', hcu⟩ : ∃ ps' st', cuP code cap fuel a b (min a.length b.length - pairs.length) pairs st = (ps', st') := ⟨_, _, rfl⟩
  have hgo : goP ⟨code, cap, fuel, p0, p1, seed, l0, l1, over, winner, why, opn, in0, in1 ++ [e.inp], pairs, st, events⟩ = ⟨code, cap, fuel, p0, p1, seed, l0, l1, over, winner, why, opn, a, b, ps', st', events⟩ := by
    unfold goP
    simp only [← ha, ← hb, hcu]
  rw [hgo]
  refine zc ?_;try exact trivial
  refine a_drawC (⟨[V.cell (.ptr (.arg 0) 0), .undef, .undef, V.cell (.ptr (.loc [3]) 0), V.int .i64 1, U, U, U, U, U, U, U, U, U, U, U, U, U, U, U, U, U, U, U, U, U, U, U, U, U, U, U, U, U, U, U, U, U, U, U, U, U, U, U, U, U, U, U, U, U, U, U, U, U, U, U, U, U, U, U, U, U, U, U, U, U, U, U, U, U, U, U, U, U, U, U, U, U, U, U, U, U, U, U, U, U, U, U, U, U, U, U, U, U, U, U, U, U, U, U, U, U, U, U, U, U, U, U, U, U, .undef], [(.loc [3], evC e), (.arg 0, ctC (.lst .no none 2 (ins code)) cap fuel p0 p1 seed l0 l1 (in0.length : Int) (in1.length : Int) over winner why opn (.lst (.tag (.cell (.arg 0) 14)) none 1 (ls fU (a))) (.lst (.tag (.cell (.arg 0) 15)) none 1 (ls fU (b))) (.lst (.tag (.cell (.arg 0) 16)) none 2 (prs (pairs))) (st) (.lst (.tag (.cell (.arg 0) 37)) none 6 (evs events)))]⟩) (.take 0 (.take 1 (.take 2 (.take 3 (.take 4 (.take 5 (.take 6 (.take 8 (.take 12 (.take 13 (.both [(7, .both [(9, .both [(10, .both [(11, .take 14 (.both [(15, .done)]))])])]), (9, .both [(7, .both [(10, .both [(11, .take 14 (.both [(15, .done)]))])]), (10, .both [(7, .both [(11, .take 14 (.both [(15, .done)]))])])])]))))))))))) (by kernel_rfl) (by kernel_rfl) ?_ ?_
  · refine zc ?_;try exact trivial
    all_goals (try rw [ha]); all_goals (try rw [hb]); all_goals (try (refine zc ?_; try exact trivial)); all_goals (try omega)
  refine zc ?_;try exact trivial
  refine a_drawC (⟨[V.cell (.ptr (.arg 0) 0), .undef, .undef, V.cell (.ptr (.loc [3]) 0), V.int .i64 1, U, U, U, U, U, U, U, U, U, U, U, U, U, U, U, U, U, U, U, U, U, U, U, U, U, U, U, U, U, U, U, U, U, U, U, U, U, U, U, U, U, U, U, U, U, U, U, U, U, U, U, U, U, U, U, U, U, U, U, U, U, U, U, U, U, U, U, U, U, U, U, U, U, U, U, U, U, U, U, U, U, U, U, U, U, U, U, U, U, U, U, U, U, U, U, U, U, U, U, U, U, U, U, U, U, .undef], [(.loc [3], evC e), (.arg 0, ctC (.lst .no none 2 (ins code)) cap fuel p0 p1 seed l0 l1 (a.length : Int) (b.length : Int) over winner why opn (.lst (.tag (.cell (.arg 0) 14)) none 1 (ls fU (a))) (.lst (.tag (.cell (.arg 0) 15)) none 1 (ls fU (b))) (.lst (.tag (.cell (.arg 0) 16)) none 2 (prs (pairs))) (st) (.lst (.tag (.cell (.arg 0) 37)) none 6 (evs events)))]⟩) (.take 0 (.take 1 (.take 2 (.take 3 (.take 4 (.take 5 (.take 8 (.take 9 (.take 10 (.both [(6, .take 7 (.take 11 (.both [(12, .done)])))])))))))))) (by kernel_rfl) (by kernel_rfl) ?_ ?_
  · refine zc ?_;try exact trivial
    all_goals (try rw [ha]); all_goals (try rw [hb]); all_goals (try (refine zc ?_; try exact trivial)); all_goals (try omega)
  refine zc ?_;try exact trivial
  refine a_loopk (fun x : List (UInt16 × UInt16) × Sta => ⟨[V.cell (.ptr (.arg 0) 0), .undef, .undef, V.cell (.ptr (.loc [3]) 0), V.int .i64 1, V.int .i64 (x.1.length : Int), U, U, U, U, U, U, U, U, U, U, U, U, U, U, U, U, U, U, U, U, U, U, U, U, U, U, U, U, U, U, U, U, U, U, U, U, U, U, U, U, U, U, U, U, U, U, U, U, U, U, U, U, U, U, U, U, U, U, U, U, U, U, U, U, U, U, U, U, U, U, U, U, U, U, U, U, U, U, U, U, U, U, U, U, U, U, U, U, U, U, U, U, U, U, U, U, U, U, U, U, U, U, U, U, .undef], [(.loc [3], evC e), (.arg 0, ctC (.lst .no none 2 (ins code)) cap fuel p0 p1 seed l0 l1 (a.length : Int) (b.length : Int) over winner why opn (.lst (.tag (.cell (.arg 0) 14)) none 1 (ls fU (a))) (.lst (.tag (.cell (.arg 0) 15)) none 1 (ls fU (b))) (.lst (.tag (.cell (.arg 0) 16)) none 2 (prs (x.1))) (x.2) (.lst (.tag (.cell (.arg 0) 37)) none 6 (evs events)))]⟩) (fun x => x.1.length ≤ 1000001 ∧ (∀ y ∈ x.2.cells, B32 y) ∧ cuP code cap fuel a b (min a.length b.length - x.1.length) x.1 x.2 = (ps', st')) (fun x => min a.length b.length - x.1.length) (pairs, st) ⟨by show pairs.length ≤ 1000001; omega, hB, hcu⟩ ?_ ?_
  · try (refine zs ?_; try exact trivial)
  rintro ⟨ps, sx⟩ ⟨hp1, hp2, hp3⟩
  simp only at hp1 hp2 hp3 ⊢
  refine zs ?_;try exact trivial
  refine a_quiet (by kernel_rfl) (by kernel_rfl) (by kernel_rfl) ?_
  cases so : (!sx.over)
  · have so' : sx.over = true := by cases hh : sx.over <;> simp_all
    have e0 : cuP code cap fuel a b (min a.length b.length - ps.length) ps sx = (ps, sx) := by
      cases hm : min a.length b.length - ps.length with
      | zero => rfl
      | succ n => unfold cuP; rw [if_neg (by rw [so']; simp)]
    rw [e0] at hp3
    cases hp3
    simp (maxSteps:=2000000) (disch:=omega) only [go_sem,Nat.reduceAdd,Nat.reduceSub,Nat.reduceMul,Nat.reduceBEq,Nat.reduceEqDiff,Nat.reduceLT,Nat.reduceLeDiff,Nat.reduceDiv,reduceIte,reduceCtorEq, so]
    all_goals exact ct_le ⟨leC_refl _, rfl, rfl, rfl, rfl, rfl, rfl, rfl, rfl, rfl, rfl, rfl, rfl, rfl, leC_refl _, leC_refl _, leC_refl _, rfl, leC_refl _⟩
  simp (maxSteps:=2000000) (disch:=omega) only [go_sem,Nat.reduceAdd,Nat.reduceSub,Nat.reduceMul,Nat.reduceBEq,Nat.reduceEqDiff,Nat.reduceLT,Nat.reduceLeDiff,Nat.reduceDiv,reduceIte,reduceCtorEq, so]
  have so' : sx.over = false := by cases hh : sx.over <;> simp_all
  refine c_dec (fun g => ?_) (fun g => ?_)
  · have hlt : ps.length < min a.length b.length := by omega
    have hpa : ps.length < a.length := by omega
    have hpb : ps.length < b.length := by omega
    obtain ⟨m, hm⟩ : ∃ m, min a.length b.length - ps.length = m + 1 := ⟨min a.length b.length - ps.length - 1, by omega⟩
    rw [hm] at hp3
    unfold cuP at hp3
    rw [if_pos ⟨so', hlt⟩] at hp3
    refine zc ?_;try exact trivial
    refine a_drawC (⟨[V.cell (.ptr (.arg 0) 0), .undef, .undef, V.cell (.ptr (.loc [3]) 0), V.int .i64 1, V.int .i64 (ps.length : Int), V.cell (.ptr (.loc [6]) 0), U, U, U, U, U, U, U, U, U, U, U, U, U, U, U, U, U, U, U, U, U, U, U, U, U, U, U, U, U, U, U, U, U, U, U, U, U, U, U, U, U, U, U, U, U, U, U, U, U, U, U, U, U, U, U, U, U, U, U, U, U, U, U, U, U, U, U, U, U, U, U, U, U, U, U, U, U, U, U, U, U, U, U, U, U, U, U, U, U, U, U, U, U, U, U, U, U, U, U, U, U, U, U, .undef], [(.loc [6], [.val (.int .u16 (U16 (a.getD ps.length 0))), .val (.int .u16 (U16 (b.getD ps.length 0)))]), (.loc [3], evC e), (.arg 0, ctC (.lst .no none 2 (ins code)) cap fuel p0 p1 seed l0 l1 (a.length : Int) (b.length : Int) over winner why opn (.lst (.tag (.cell (.arg 0) 14)) none 1 (ls fU (a))) (.lst (.tag (.cell (.arg 0) 15)) none 1 (ls fU (b))) (.lst (.tag (.cell (.arg 0) 16)) none 2 (prs (ps))) (sx) (.lst (.tag (.cell (.arg 0) 37)) none 6 (evs events)))]⟩) (.take 0 (.take 1 (.take 2 (.take 3 (.take 5 (.take 8 (.take 9 (.take 10 (.take 11 (.take 13 (.both [(4, .take 6 (.both [(7, .both [(12, .take 14 (.both [(15, .both [(16, .both [(17, .both [(18, .done)])]), (17, .both [(16, .both [(18, .done)])])]), (17, .both [(15, .both [(16, .both [(18, .done)])])])])), (17, .both [(12, .take 14 (.both [(15, .both [(16, .both [(18, .done)])])]))])]), (12, .take 14 (.both [(7, .both [(15, .both [(16, .both [(17, .both [(18, .done)])]), (17, .both [(16, .both [(18, .done)])])]), (17, .both [(15, .both [(16, .both [(18, .done)])])])]), (15, .both [(7, .both [(16, .both [(17, .both [(18, .done)])]), (17, .both [(16, .both [(18, .done)])])]), (17, .both [(7, .both [(16, .both [(18, .done)])])])]), (17, .both [(7, .both [(15, .both [(16, .both [(18, .done)])])]), (15, .both [(7, .both [(16, .both [(18, .done)])])])])])), (17, .both [(7, .both [(12, .take 14 (.both [(15, .both [(16, .both [(18, .done)])])]))]), (12, .take 14 (.both [(7, .both [(15, .both [(16, .both [(18, .done)])])]), (15, .both [(7, .both [(16, .both [(18, .done)])])])]))])])), (12, .take 14 (.both [(4, .take 6 (.both [(7, .both [(15, .both [(16, .both [(17, .both [(18, .done)])]), (17, .both [(16, .both [(18, .done)])])]), (17, .both [(15, .both [(16, .both [(18, .done)])])])]), (15, .both [(7, .both [(16, .both [(17, .both [(18, .done)])]), (17, .both [(16, .both [(18, .done)])])]), (17, .both [(7, .both [(16, .both [(18, .done)])])])]), (17, .both [(7, .both [(15, .both [(16, .both [(18, .done)])])]), (15, .both [(7, .both [(16, .both [(18, .done)])])])])])), (15, .both [(4, .take 6 (.both [(7, .both [(16, .both [(17, .both [(18, .done)])]), (17, .both [(16, .both [(18, .done)])])]), (17, .both [(7, .both [(16, .both [(18, .done)])])])])), (17, .both [(4, .take 6 (.both [(7, .both [(16, .both [(18, .done)])])]))])]), (17, .both [(4, .take 6 (.both [(7, .both [(15, .both [(16, .both [(18, .done)])])]), (15, .both [(7, .both [(16, .both [(18, .done)])])])])), (15, .both [(4, .take 6 (.both [(7, .both [(16, .both [(18, .done)])])]))])])])), (17, .both [(4, .take 6 (.both [(7, .both [(12, .take 14 (.both [(15, .both [(16, .both [(18, .done)])])]))]), (12, .take 14 (.both [(7, .both [(15, .both [(16, .both [(18, .done)])])]), (15, .both [(7, .both [(16, .both [(18, .done)])])])]))])), (12, .take 14 (.both [(4, .take 6 (.both [(7, .both [(15, .both [(16, .both [(18, .done)])])]), (15, .both [(7, .both [(16, .both [(18, .done)])])])])), (15, .both [(4, .take 6 (.both [(7, .both [(16, .both [(18, .done)])])]))])]))])]))))))))))) (by kernel_rfl) (by kernel_rfl) ?_ ?_
    · refine zc ?_;try exact trivial
    refine zc ?_;try exact trivial
    refine a_drawC (⟨[V.cell (.ptr (.arg 0) 0), .undef, .undef, V.cell (.ptr (.loc [3]) 0), V.int .i64 1, V.int .i64 (ps.length : Int), V.cell (.ptr (.loc [6]) 0), U, U, U, U, U, U, U, U, U, U, U, U, U, U, U, U, U, U, U, U, U, U, U, U, U, U, U, U, U, U, U, U, U, U, U, U, U, U, U, U, U, U, U, U, U, U, U, U, U, U, U, U, U, U, U, U, U, U, U, U, U, U, U, U, U, U, U, U, U, U, U, U, U, U, U, U, U, U, U, U, U, U, U, U, U, U, U, U, U, U, U, U, U, U, U, U, U, U, U, U, U, U, U, .undef], [(.loc [6], [.val (.int .u16 (U16 (a.getD ps.length 0))), .val (.int .u16 (U16 (b.getD ps.length 0)))]), (.loc [3], evC e), (.arg 0, ctC (.lst .no none 2 (ins code)) cap fuel p0 p1 seed l0 l1 (a.length : Int) (b.length : Int) over winner why opn (.lst (.tag (.cell (.arg 0) 14)) none 1 (ls fU (a))) (.lst (.tag (.cell (.arg 0) 15)) none 1 (ls fU (b))) (.lst (.tag (.cell (.arg 0) 16)) none 2 (prs (ps ++ [(a.getD ps.length 0, b.getD ps.length 0)]))) (sx) (.lst (.tag (.cell (.arg 0) 37)) none 6 (evs events)))]⟩) (.take 0 (.take 1 (.take 2 (.take 3 (.both [(4, .both [(5, .both [(6, .both [(7, .take 8 (.take 9 (.both [(10, .done)])))])])]), (5, .both [(4, .both [(6, .both [(7, .take 8 (.take 9 (.both [(10, .done)])))])]), (6, .both [(4, .both [(7, .take 8 (.take 9 (.both [(10, .done)])))])])])]))))) (by kernel_rfl) (by kernel_rfl) ?_ ?_
    · refine zc ?_;try exact trivial
      all_goals omega
    refine zc ?_;try exact trivial
    refine a_drawC (⟨[V.cell (.ptr (.arg 0) 0), .undef, .undef, V.cell (.ptr (.loc [3]) 0), V.int .i64 1, V.int .i64 (ps.length : Int), V.cell (.ptr (.loc [6]) 0), U, U, U, U, U, U, U, U, U, U, U, U, U, U, U, U, U, U, U, U, U, U, U, U, U, U, U, U, U, U, U, U, U, U, U, U, U, U, U, U, U, U, U, U, U, U, U, U, U, U, U, U, U, U, U, U, U, U, U, U, U, U, U, U, U, U, U, U, U, U, U, U, U, U, U, U, U, U, U, U, U, U, U, U, U, U, U, U, U, U, U, U, U, U, U, U, U, U, U, U, U, U, U, .undef], [(.loc [6], [.val (.int .u16 (U16 (a.getD ps.length 0))), .val (.int .u16 (U16 (b.getD ps.length 0)))]), (.loc [3], evC e), (.arg 0, ctC (.lst .no none 2 (ins code)) cap fuel p0 p1 seed l0 l1 (a.length : Int) (b.length : Int) over winner why opn (.lst (.tag (.cell (.arg 0) 14)) none 1 (ls fU (a))) (.lst (.tag (.cell (.arg 0) 15)) none 1 (ls fU (b))) (.lst (.tag (.cell (.arg 0) 16)) none 2 (prs (ps ++ [(a.getD ps.length 0, b.getD ps.length 0)]))) ((stepP code cap fuel sx (a.getD ps.length 0) (b.getD ps.length 0)).1) (.lst (.tag (.cell (.arg 0) 37)) none 6 (evs events)))]⟩) (.take 0 (.take 1 (.take 2 (.take 3 (.take 5 (.take 6 (.take 7 (.both [(4, .both [(8, .both [(9, .both [(10, .take 11 (.take 12 (.take 13 (.take 14 (.take 15 (.both [(16, .done)]))))))])]), (9, .both [(8, .both [(10, .take 11 (.take 12 (.take 13 (.take 14 (.take 15 (.both [(16, .done)]))))))])])]), (8, .both [(4, .both [(9, .both [(10, .take 11 (.take 12 (.take 13 (.take 14 (.take 15 (.both [(16, .done)]))))))])]), (9, .both [(4, .both [(10, .take 11 (.take 12 (.take 13 (.take 14 (.take 15 (.both [(16, .done)]))))))])])]), (9, .both [(4, .both [(8, .both [(10, .take 11 (.take 12 (.take 13 (.take 14 (.take 15 (.both [(16, .done)]))))))])]), (8, .both [(4, .both [(10, .take 11 (.take 12 (.take 13 (.take 14 (.take 15 (.both [(16, .done)]))))))])])])])))))))) (by kernel_rfl) (by kernel_rfl) ?_ ?_
    · refine zc ?_;try exact trivial
      have hst := step_h code cap fuel sx (a.getD ps.length 0) (b.getD ps.length 0) (by omega) hp2
      refine a_call [] hst ok0 ?_ ?_ ?_
      · refine zs ?_;try exact trivial
      · refine zs ?_;try exact trivial
      rintro _ _ ⟨rfl, rfl⟩
      refine zc ?_;try exact trivial
      all_goals exact leCs_refl _
    refine zc ?_;try exact trivial
    refine ⟨(ps ++ [(a.getD ps.length 0, b.getD ps.length 0)], (stepP code cap fuel sx (a.getD ps.length 0) (b.getD ps.length 0)).1), ?_, ⟨?_, ?_, ?_⟩, ?_⟩
    · simp; omega
    · simp; omega
    · exact step_B32 _ _ _ _ _ _ hp2
    · simp only [List.length_append, List.length_cons, List.length_nil]
      rw [show min a.length b.length - (ps.length + (0 + 1)) = m by omega]
      exact hp3
    try (refine zs ?_; try exact trivial)
  have e0 : cuP code cap fuel a b (min a.length b.length - ps.length) ps sx = (ps, sx) := by
    rw [show min a.length b.length - ps.length = 0 by omega]; rfl
  rw [e0] at hp3
  cases hp3
  refine zs ?_;try exact trivial
  all_goals exact ct_le ⟨leC_refl _, rfl, rfl, rfl, rfl, rfl, rfl, rfl, rfl, rfl, rfl, rfl, rfl, rfl, leC_refl _, leC_refl _, leC_refl _, rfl, leC_refl _⟩
end
section
def openP (c : Ct) (e : Ev) : Ct := { c with opn := true, p0 := e.player, p1 := e.other, seed := UInt32.ofNat e.n.toNat, st := startS (UInt32.ofNat e.n.toNat) }
attribute [-go_sem] e_both in
set_option maxHeartbeats 16000000 in
theorem open_h (c : Ct) (e : Ev) (hn : 0 ≤ e.n ∧ e.n ≤ 4294967295) : Holds Tryz.prog 72 [.ptr (.arg 0) 0, .ev e] [(.arg 0, ctB (.arg 0) c)] (fun r h' => r = .tup [] ∧ h' = [(.arg 0, ctB (.arg 0) (openP c e))]) := by
  have hU : ∀ z : Int, 0 ≤ z ∧ z ≤ 4294967295 → U32 (UInt32.ofNat z.toNat) = z := fun z hz => by unfold U32; rw [UInt32.toNat_ofNat']; omega
  have e0 := hU e.n hn
  refine holds_of_awp Tryz.func72 rfl (by decide +kernel) mixed Tryz.ntmps72 Tryz.results72 ?_
  refine zE ?_
  refine zs ?_;try exact trivial
  refine a_drawC (⟨[V.cell (.ptr (.arg 0) 0), U, U, U, U, U, U, U, U, U, U, U, U, U, U, U, U, U, U, U, U, U, U, U, U, U, U, U, U, U, U, U, .undef], [(.arg 0, ctB (.arg 0) { c with opn := true, p0 := e.player, p1 := e.other, seed := UInt32.ofNat e.n.toNat })]⟩) (.take 0 (.take 1 (.take 2 (.take 3 (.take 5 (.take 8 (.take 11 (.take 12 (.take 13 (.both [(4, .both [(6, .both [(7, .both [(9, .take 10 (.both [(14, .take 15 (.take 16 (.take 17 (.both [(18, .take 19 (.take 20 (.take 21 (.both [(22, .done)]))))]))))])), (14, .take 15 (.take 16 (.take 17 (.both [(9, .take 10 (.both [(18, .take 19 (.take 20 (.take 21 (.both [(22, .done)]))))])), (18, .both [(9, .take 10 (.take 19 (.take 20 (.take 21 (.both [(22, .done)])))))])]))))]), (9, .take 10 (.both [(7, .both [(14, .take 15 (.take 16 (.take 17 (.both [(18, .take 19 (.take 20 (.take 21 (.both [(22, .done)]))))]))))]), (14, .both [(7, .take 15 (.take 16 (.take 17 (.both [(18, .take 19 (.take 20 (.take 21 (.both [(22, .done)]))))]))))])])), (14, .both [(7, .take 15 (.take 16 (.take 17 (.both [(9, .take 10 (.both [(18, .take 19 (.take 20 (.take 21 (.both [(22, .done)]))))])), (18, .both [(9, .take 10 (.take 19 (.take 20 (.take 21 (.both [(22, .done)])))))])])))), (9, .take 10 (.both [(7, .take 15 (.take 16 (.take 17 (.both [(18, .take 19 (.take 20 (.take 21 (.both [(22, .done)]))))]))))]))])]), (9, .take 10 (.both [(6, .both [(7, .both [(14, .take 15 (.take 16 (.take 17 (.both [(18, .take 19 (.take 20 (.take 21 (.both [(22, .done)]))))]))))]), (14, .both [(7, .take 15 (.take 16 (.take 17 (.both [(18, .take 19 (.take 20 (.take 21 (.both [(22, .done)]))))]))))])]), (14, .both [(6, .both [(7, .take 15 (.take 16 (.take 17 (.both [(18, .take 19 (.take 20 (.take 21 (.both [(22, .done)]))))]))))])])])), (14, .both [(6, .both [(7, .take 15 (.take 16 (.take 17 (.both [(9, .take 10 (.both [(18, .take 19 (.take 20 (.take 21 (.both [(22, .done)]))))])), (18, .both [(9, .take 10 (.take 19 (.take 20 (.take 21 (.both [(22, .done)])))))])])))), (9, .take 10 (.both [(7, .take 15 (.take 16 (.take 17 (.both [(18, .take 19 (.take 20 (.take 21 (.both [(22, .done)]))))]))))]))]), (9, .take 10 (.both [(6, .both [(7, .take 15 (.take 16 (.take 17 (.both [(18, .take 19 (.take 20 (.take 21 (.both [(22, .done)]))))]))))])]))])]), (6, .both [(4, .both [(7, .both [(9, .take 10 (.both [(14, .take 15 (.take 16 (.take 17 (.both [(18, .take 19 (.take 20 (.take 21 (.both [(22, .done)]))))]))))])), (14, .take 15 (.take 16 (.take 17 (.both [(9, .take 10 (.both [(18, .take 19 (.take 20 (.take 21 (.both [(22, .done)]))))])), (18, .both [(9, .take 10 (.take 19 (.take 20 (.take 21 (.both [(22, .done)])))))])]))))]), (9, .take 10 (.both [(7, .both [(14, .take 15 (.take 16 (.take 17 (.both [(18, .take 19 (.take 20 (.take 21 (.both [(22, .done)]))))]))))]), (14, .both [(7, .take 15 (.take 16 (.take 17 (.both [(18, .take 19 (.take 20 (.take 21 (.both [(22, .done)]))))]))))])])), (14, .both [(7, .take 15 (.take 16 (.take 17 (.both [(9, .take 10 (.both [(18, .take 19 (.take 20 (.take 21 (.both [(22, .done)]))))])), (18, .both [(9, .take 10 (.take 19 (.take 20 (.take 21 (.both [(22, .done)])))))])])))), (9, .take 10 (.both [(7, .take 15 (.take 16 (.take 17 (.both [(18, .take 19 (.take 20 (.take 21 (.both [(22, .done)]))))]))))]))])]), (9, .take 10 (.both [(4, .both [(7, .both [(14, .take 15 (.take 16 (.take 17 (.both [(18, .take 19 (.take 20 (.take 21 (.both [(22, .done)]))))]))))]), (14, .both [(7, .take 15 (.take 16 (.take 17 (.both [(18, .take 19 (.take 20 (.take 21 (.both [(22, .done)]))))]))))])]), (14, .both [(4, .both [(7, .take 15 (.take 16 (.take 17 (.both [(18, .take 19 (.take 20 (.take 21 (.both [(22, .done)]))))]))))])])])), (14, .both [(4, .both [(7, .take 15 (.take 16 (.take 17 (.both [(9, .take 10 (.both [(18, .take 19 (.take 20 (.take 21 (.both [(22, .done)]))))])), (18, .both [(9, .take 10 (.take 19 (.take 20 (.take 21 (.both [(22, .done)])))))])])))), (9, .take 10 (.both [(7, .take 15 (.take 16 (.take 17 (.both [(18, .take 19 (.take 20 (.take 21 (.both [(22, .done)]))))]))))]))]), (9, .take 10 (.both [(4, .both [(7, .take 15 (.take 16 (.take 17 (.both [(18, .take 19 (.take 20 (.take 21 (.both [(22, .done)]))))]))))])]))])]), (9, .take 10 (.both [(4, .both [(6, .both [(7, .both [(14, .take 15 (.take 16 (.take 17 (.both [(18, .take 19 (.take 20 (.take 21 (.both [(22, .done)]))))]))))]), (14, .both [(7, .take 15 (.take 16 (.take 17 (.both [(18, .take 19 (.take 20 (.take 21 (.both [(22, .done)]))))]))))])]), (14, .both [(6, .both [(7, .take 15 (.take 16 (.take 17 (.both [(18, .take 19 (.take 20 (.take 21 (.both [(22, .done)]))))]))))])])]), (6, .both [(4, .both [(7, .both [(14, .take 15 (.take 16 (.take 17 (.both [(18, .take 19 (.take 20 (.take 21 (.both [(22, .done)]))))]))))]), (14, .both [(7, .take 15 (.take 16 (.take 17 (.both [(18, .take 19 (.take 20 (.take 21 (.both [(22, .done)]))))]))))])]), (14, .both [(4, .both [(7, .take 15 (.take 16 (.take 17 (.both [(18, .take 19 (.take 20 (.take 21 (.both [(22, .done)]))))]))))])])]), (14, .both [(4, .both [(6, .both [(7, .take 15 (.take 16 (.take 17 (.both [(18, .take 19 (.take 20 (.take 21 (.both [(22, .done)]))))]))))])]), (6, .both [(4, .both [(7, .take 15 (.take 16 (.take 17 (.both [(18, .take 19 (.take 20 (.take 21 (.both [(22, .done)]))))]))))])])])])), (14, .both [(4, .both [(6, .both [(7, .take 15 (.take 16 (.take 17 (.both [(9, .take 10 (.both [(18, .take 19 (.take 20 (.take 21 (.both [(22, .done)]))))])), (18, .both [(9, .take 10 (.take 19 (.take 20 (.take 21 (.both [(22, .done)])))))])])))), (9, .take 10 (.both [(7, .take 15 (.take 16 (.take 17 (.both [(18, .take 19 (.take 20 (.take 21 (.both [(22, .done)]))))]))))]))]), (9, .take 10 (.both [(6, .both [(7, .take 15 (.take 16 (.take 17 (.both [(18, .take 19 (.take 20 (.take 21 (.both [(22, .done)]))))]))))])]))]), (6, .both [(4, .both [(7, .take 15 (.take 16 (.take 17 (.both [(9, .take 10 (.both [(18, .take 19 (.take 20 (.take 21 (.both [(22, .done)]))))])), (18, .both [(9, .take 10 (.take 19 (.take 20 (.take 21 (.both [(22, .done)])))))])])))), (9, .take 10 (.both [(7, .take 15 (.take 16 (.take 17 (.both [(18, .take 19 (.take 20 (.take 21 (.both [(22, .done)]))))]))))]))]), (9, .take 10 (.both [(4, .both [(7, .take 15 (.take 16 (.take 17 (.both [(18, .take 19 (.take 20 (.take 21 (.both [(22, .done)]))))]))))])]))]), (9, .take 10 (.both [(4, .both [(6, .both [(7, .take 15 (.take 16 (.take 17 (.both [(18, .take 19 (.take 20 (.take 21 (.both [(22, .done)]))))]))))])]), (6, .both [(4, .both [(7, .take 15 (.take 16 (.take 17 (.both [(18, .take 19 (.take 20 (.take 21 (.both [(22, .done)]))))]))))])])]))])])))))))))) (by kernel_rfl) (by kernel_rfl) ?_ ?_
  · refine zs ?_;try exact trivial
    iterate 9
      all_goals first
        | done
        | (simp only [e_both]
           refine zs ?_;try exact trivial
           repeat' (with_reducible apply And.intro))
        | skip
  refine zc ?_;try exact trivial
  refine a_call [] (start_h (UInt32.ofNat e.n.toNat)) ok0 ?_ ?_ ?_
  · refine zs ?_;try exact trivial
  · refine zs ?_;try exact trivial
  rintro _ _ ⟨rfl, rfl⟩
  refine zc ?_;try exact trivial
  exact ct_le ⟨leC_refl _, rfl, rfl, rfl, rfl, rfl, rfl, rfl, rfl, rfl, rfl, rfl, rfl, rfl, leC_refl _, leC_refl _, leC_refl _, rfl, leC_refl _⟩
end
section
theorem val_inj : ∀ {us vs : List Value}, us.map C.val = vs.map C.val → us = vs
  | [], [], _ => rfl
  | [], _ :: _, h => by simp at h
  | _ :: _, [], h => by simp at h
  | u :: us, v :: vs, h => by
    simp only [List.map_cons, List.cons.injEq, C.val.injEq] at h
    rw [h.1, val_inj h.2]
theorem All2.app {α β : Type} {R : α → β → Prop} {a c : List α} {b d : List β} (h1 : All2 R a b) (h2 : All2 R c d) : All2 R (a ++ c) (b ++ d) := by
  induction h1 with
  | nil => exact h2
  | cons h _ ih => exact .cons h ih
@[congr] theorem cg_aEqA2 {q q' : Option (List (Option IntKind))} {cs ds cs' ds' : List C} {J : Bool → Prop} (h0 : q = q') (h1 : cs = cs') (h2 : ds = ds') : aEqA q cs ds J = aEqA q' cs' ds' J := by subst h0; subst h1; subst h2; rfl
@[go_sem 1100] theorem e_eqEv {x0 y0 : Int} {x1 y1 : Int} {x2 y2 : Int} {x3 y3 : Int} {x4 y4 : Int} {x5 y5 : Int} {K : Bool → Prop} : aEqA (some [some .i64, some .i64, some .i64, some .i64, some .u16, some .i64]) [.val (.int .i64 x0), .val (.int .i64 x1), .val (.int .i64 x2), .val (.int .i64 x3), .val (.int .u16 x4), .val (.int .i64 x5)] [.val (.int .i64 y0), .val (.int .i64 y1), .val (.int .i64 y2), .val (.int .i64 y3), .val (.int .u16 y4), .val (.int .i64 y5)] K = K (decide (x0 = y0 ∧ x1 = y1 ∧ x2 = y2 ∧ x3 = y3 ∧ x4 = y4 ∧ x5 = y5)) := by
  have key : ([.int .i64 x0, .int .i64 x1, .int .i64 x2, .int .i64 x3, .int .u16 x4, .int .i64 x5] : List Value) = [.int .i64 y0, .int .i64 y1, .int .i64 y2, .int .i64 y3, .int .u16 y4, .int .i64 y5] ↔ (x0 = y0 ∧ x1 = y1 ∧ x2 = y2 ∧ x3 = y3 ∧ x4 = y4 ∧ x5 = y5) := by simp
  refine propext ⟨?_, fun h => ?_⟩
  · rintro ⟨ks, us, vs, hq, hu, hv, _, _, h⟩
    refine h _ ?_
    have hu' : us = [.int .i64 x0, .int .i64 x1, .int .i64 x2, .int .i64 x3, .int .u16 x4, .int .i64 x5] := val_inj (us := us) (vs := [.int .i64 x0, .int .i64 x1, .int .i64 x2, .int .i64 x3, .int .u16 x4, .int .i64 x5]) hu.symm
    have hv' : vs = [.int .i64 y0, .int .i64 y1, .int .i64 y2, .int .i64 y3, .int .u16 y4, .int .i64 y5] := val_inj (us := vs) (vs := [.int .i64 y0, .int .i64 y1, .int .i64 y2, .int .i64 y3, .int .u16 y4, .int .i64 y5]) hv.symm
    rw [hu', hv', decide_eq_true_eq, key]
  refine ⟨_, [.int .i64 x0, .int .i64 x1, .int .i64 x2, .int .i64 x3, .int .u16 x4, .int .i64 x5], [.int .i64 y0, .int .i64 y1, .int .i64 y2, .int .i64 y3, .int .u16 y4, .int .i64 y5], rfl, rfl, rfl, (.cons ⟨_, rfl⟩ (.cons ⟨_, rfl⟩ (.cons ⟨_, rfl⟩ (.cons ⟨_, rfl⟩ (.cons ⟨_, rfl⟩ (.cons ⟨_, rfl⟩ .nil)))))), (.cons ⟨_, rfl⟩ (.cons ⟨_, rfl⟩ (.cons ⟨_, rfl⟩ (.cons ⟨_, rfl⟩ (.cons ⟨_, rfl⟩ (.cons ⟨_, rfl⟩ .nil)))))), fun b hb => ?_⟩
  rw [key] at hb
  have : b = decide (x0 = y0 ∧ x1 = y1 ∧ x2 = y2 ∧ x3 = y3 ∧ x4 = y4 ∧ x5 = y5) := by rw [Bool.eq_iff_iff, hb, decide_eq_true_eq]
  rw [this]; exact h
end
section
def howsC : List C := [.val .nilFunc, .val .nilFunc, .val .nilFunc,
  .fn (.func 71) [] [], .fn (.func 72) [] [], .fn (.func 73) [] [],
  .fn (.func 74) [] [], .fn (.func 75) [] [], .fn (.func 76) [] [],
  .fn (.func 77) [] [], .fn (.func 78) [] [], .fn (.func 79) [] [],
  .fn (.func 80) [] [], .fn (.func 81) [] [], .fn (.func 82) [] [],
  .fn (.func 83) [] [], .fn (.func 84) [] [], .fn (.func 85) [] []]
@[go_sem] theorem u16_0 : U16 0 = 0 := nr rfl
theorem not_t {b : Bool} (d : (!b) = true) : ¬ b = true := by cases b <;> simp_all
theorem not_f {b : Bool} (d : (!b) = false) : b = true := by cases b <;> simp_all
@[go_sem] theorem hw_k {bi : Id → Bool} {bt : Tag → Bool} : howsC.map (C.clean bi bt) = howsC := nr rfl
@[go_sem] theorem hw_r {ks : List Id} {d : Nat} : howsC.map (C.ren ks d) = howsC := nr rfl
@[go_sem] theorem hw_l : howsC.length = 18 := nr rfl
@[go_sem 1300] theorem hw_1 : List.take 3 (List.drop 3 howsC) = [.fn (.func 71) [] [], .fn (.func 72) [] [], .fn (.func 73) [] []] := nr rfl
@[go_sem 1300] theorem hw_2 : List.take 3 (List.drop 6 howsC) = [.fn (.func 74) [] [], .fn (.func 75) [] [], .fn (.func 76) [] []] := nr rfl
@[go_sem 1300] theorem hw_3 : List.take 3 (List.drop 9 howsC) = [.fn (.func 77) [] [], .fn (.func 78) [] [], .fn (.func 79) [] []] := nr rfl
@[go_sem 1300] theorem hw_4 : List.take 3 (List.drop 12 howsC) = [.fn (.func 80) [] [], .fn (.func 81) [] [], .fn (.func 82) [] []] := nr rfl
@[go_sem 1300] theorem hw_5 : List.take 3 (List.drop 15 howsC) = [.fn (.func 83) [] [], .fn (.func 84) [] [], .fn (.func 85) [] []] := nr rfl
theorem hows_h : Holds Tryz.prog 56 [] [] (fun r h' => r = .w (.agg howsC) ∧ h' = []) := by
  refine holds_of_awp Tryz.func56 rfl (by decide +kernel) mixed Tryz.ntmps56 Tryz.results56 ?_
  refine zE ?_
  unfold howsC
  refine zs ?_;try exact trivial
  exact leCs_refl _
/-- has an event nothing but what its kind names? -/
def bareB (e : Ev) : Bool :=
  if e.kind = 1 then decide (e.frame = 0 ∧ U16 e.inp = 0)
  else if e.kind = 3 then decide (e.other = 0 ∧ e.n = 0)
  else if e.kind = 5 then decide (e.other = 0 ∧ e.frame = 0 ∧ U16 e.inp = 0)
  else decide (e.other = 0 ∧ e.frame = 0 ∧ U16 e.inp = 0 ∧ e.n = 0)
def may1P (c : Ct) (e : Ev) : Int :=
  if e.kind = 1 then mayOpenP c e else if e.kind = 2 then mayJoinP c e else if e.kind = 3 then mayInputP c e else if e.kind = 4 then actP c e.player else mayResultP c e
def mayP18 (c : Ct) (e : Ev) : Int := if e.kind < 1 ∨ 6 ≤ e.kind then 3 else if bareB e = true then may1P c e else 3
abbrev fnR1 : List C := [.fn (.func 71) [] [], .fn (.func 72) [] [], .fn (.func 73) [] []]
abbrev fnR2 : List C := [.fn (.func 74) [] [], .fn (.func 75) [] [], .fn (.func 76) [] []]
abbrev fnR3 : List C := [.fn (.func 77) [] [], .fn (.func 78) [] [], .fn (.func 79) [] []]
abbrev fnR4 : List C := [.fn (.func 80) [] [], .fn (.func 81) [] [], .fn (.func 82) [] []]
abbrev fnR5 : List C := [.fn (.func 83) [] [], .fn (.func 84) [] [], .fn (.func 85) [] []]
set_option maxHeartbeats 4000000 in
theorem may1_h (c : Ct) (player other frame n : Int) (inp : UInt16) : Holds Tryz.prog 55 [.ptr (.arg 0) 0, .ev ⟨1, player, other, frame, inp, n⟩] [(.arg 0, ctB (.arg 0) c)] (fun r h' => r = .int .i64 (mayP18 c ⟨1, player, other, frame, inp, n⟩) ∧ h' = [(.arg 0, ctB (.arg 0) c)]) := by
  have eb : bareB ⟨1, player, other, frame, inp, n⟩ = decide (frame = 0 ∧ U16 inp = 0) := rfl
  have em : mayP18 c ⟨1, player, other, frame, inp, n⟩ = if decide (frame = 0 ∧ U16 inp = 0) = true then mayOpenP c ⟨1, player, other, frame, inp, n⟩ else 3 := by
    unfold mayP18
    rw [if_neg (by simp only; omega), eb]
    rfl
  rw [em]
  refine holds_of_awp Tryz.func55 rfl (by decide +kernel) mixed Tryz.ntmps55 Tryz.results55 ?_
  refine zE ?_
  refine zc ?_;try exact trivial
  refine a_drawC (⟨[V.cell (.ptr (.arg 0) 0), .undef, .undef, V.cell (.ptr (.loc [3]) 0), .undef, V.cell (.ptr (.loc [5]) 0), U, U, U, U, U, U, U, U, U, U, U, U, U, U, U, U, U, U, U, U, U, U, U, U, U, U, .undef], [(.loc [5], fnR1), (.loc [3], evC ⟨1, player, other, frame, inp, n⟩), (.arg 0, ctB (.arg 0) c)]⟩) (.take 1 (.both [(0, .both [(2, .take 3 (.both [(4, .both [(5, .done)])])), (4, .both [(2, .take 3 (.both [(5, .done)]))])]), (2, .both [(0, .take 3 (.both [(4, .both [(5, .done)])])), (4, .both [(0, .take 3 (.both [(5, .done)]))])]), (4, .both [(0, .both [(2, .take 3 (.both [(5, .done)]))]), (2, .both [(0, .take 3 (.both [(5, .done)]))])])])) (by kernel_rfl) (by kernel_rfl) ?_ ?_
  · refine zc ?_;try exact trivial
    repeat' (with_reducible apply And.intro)
    all_goals (
      refine a_call [] (hows_h) ok0 ?_ ?_ ?_
      · refine zs ?_;try exact trivial
      · refine zs ?_;try exact trivial
      rintro _ _ ⟨rfl, rfl⟩
      (refine zc ?_; try exact trivial))
  refine zc ?_;try exact trivial
  refine a_drawC (⟨[V.cell (.ptr (.arg 0) 0), .undef, .undef, V.cell (.ptr (.loc [3]) 0), .undef, V.cell (.ptr (.loc [5]) 0), U, U, U, U, U, U, U, U, U, U, U, U, U, U, U, U, U, U, U, U, U, V.bool (!decide (frame = 0 ∧ U16 inp = 0)), U, U, U, U, .undef], [(.loc [5], fnR1), (.loc [3], evC ⟨1, player, other, frame, inp, n⟩), (.arg 0, ctB (.arg 0) c)]⟩) (.take 0 (.take 4 (.both [(1, .both [(2, .both [(3, .both [(5, .both [(6, .take 7 (.done))])]), (5, .both [(3, .both [(6, .take 7 (.done))]), (6, .both [(3, .take 7 (.done))])])]), (5, .both [(2, .both [(3, .both [(6, .take 7 (.done))]), (6, .both [(3, .take 7 (.done))])]), (6, .both [(2, .both [(3, .take 7 (.done))])])])]), (2, .both [(1, .both [(3, .both [(5, .both [(6, .take 7 (.done))])]), (5, .both [(3, .both [(6, .take 7 (.done))]), (6, .both [(3, .take 7 (.done))])])]), (5, .both [(1, .both [(3, .both [(6, .take 7 (.done))]), (6, .both [(3, .take 7 (.done))])]), (6, .both [(1, .both [(3, .take 7 (.done))])])])]), (5, .both [(1, .both [(2, .both [(3, .both [(6, .take 7 (.done))]), (6, .both [(3, .take 7 (.done))])]), (6, .both [(2, .both [(3, .take 7 (.done))])])]), (2, .both [(1, .both [(3, .both [(6, .take 7 (.done))]), (6, .both [(3, .take 7 (.done))])]), (6, .both [(1, .both [(3, .take 7 (.done))])])]), (6, .both [(1, .both [(2, .both [(3, .take 7 (.done))])]), (2, .both [(1, .both [(3, .take 7 (.done))])])])])]))) (by kernel_rfl) (by kernel_rfl) ?_ ?_
  · refine zc ?_;try exact trivial
    repeat' (with_reducible apply And.intro)
    all_goals (
      refine a_call [] (bare1_h ⟨1, player, other, frame, inp, n⟩) ok0 ?_ ?_ ?_
      · refine zs ?_;try exact trivial
      · refine zs ?_;try exact trivial
      rintro _ _ ⟨rfl, rfl⟩
      (refine zc ?_; try exact trivial))
  refine zs ?_;try exact trivial
  refine c_b (fun d => ?_) (fun d => ?_)
  · have d' : ¬ decide (frame = 0 ∧ U16 inp = 0) = true := not_t d
    rw [if_neg d']
    refine zs ?_;try exact trivial
  have d' : decide (frame = 0 ∧ U16 inp = 0) = true := not_f d
  rw [if_pos d']
  refine zs ?_;try exact trivial
  refine a_call [.arg 0] (mayOpen_h c ⟨1, player, other, frame, inp, n⟩) (ok1 rfl) ?_ ?_ ?_
  · refine zs ?_;try exact trivial
  · refine zs ?_;try exact trivial
  rintro _ _ ⟨rfl, rfl⟩
  refine zs ?_;try exact trivial
set_option maxHeartbeats 4000000 in
theorem may2_h (c : Ct) (player other frame n : Int) (inp : UInt16) : Holds Tryz.prog 55 [.ptr (.arg 0) 0, .ev ⟨2, player, other, frame, inp, n⟩] [(.arg 0, ctB (.arg 0) c)] (fun r h' => r = .int .i64 (mayP18 c ⟨2, player, other, frame, inp, n⟩) ∧ h' = [(.arg 0, ctB (.arg 0) c)]) := by
  have eb : bareB ⟨2, player, other, frame, inp, n⟩ = decide (other = 0 ∧ frame = 0 ∧ U16 inp = 0 ∧ n = 0) := rfl
  have em : mayP18 c ⟨2, player, other, frame, inp, n⟩ = if decide (other = 0 ∧ frame = 0 ∧ U16 inp = 0 ∧ n = 0) = true then mayJoinP c ⟨2, player, other, frame, inp, n⟩ else 3 := by
    unfold mayP18
    rw [if_neg (by simp only; omega), eb]
    rfl
  rw [em]
  refine holds_of_awp Tryz.func55 rfl (by decide +kernel) mixed Tryz.ntmps55 Tryz.results55 ?_
  refine zE ?_
  refine zc ?_;try exact trivial
  refine a_drawC (⟨[V.cell (.ptr (.arg 0) 0), .undef, .undef, V.cell (.ptr (.loc [3]) 0), .undef, V.cell (.ptr (.loc [5]) 0), U, U, U, U, U, U, U, U, U, U, U, U, U, U, U, U, U, U, U, U, U, U, U, U, U, U, .undef], [(.loc [5], fnR2), (.loc [3], evC ⟨2, player, other, frame, inp, n⟩), (.arg 0, ctB (.arg 0) c)]⟩) (.take 1 (.both [(0, .both [(2, .take 3 (.both [(4, .both [(5, .done)])])), (4, .both [(2, .take 3 (.both [(5, .done)]))])]), (2, .both [(0, .take 3 (.both [(4, .both [(5, .done)])])), (4, .both [(0, .take 3 (.both [(5, .done)]))])]), (4, .both [(0, .both [(2, .take 3 (.both [(5, .done)]))]), (2, .both [(0, .take 3 (.both [(5, .done)]))])])])) (by kernel_rfl) (by kernel_rfl) ?_ ?_
  · refine zc ?_;try exact trivial
    repeat' (with_reducible apply And.intro)
    all_goals (
      refine a_call [] (hows_h) ok0 ?_ ?_ ?_
      · refine zs ?_;try exact trivial
      · refine zs ?_;try exact trivial
      rintro _ _ ⟨rfl, rfl⟩
      (refine zc ?_; try exact trivial))
  refine zc ?_;try exact trivial
  refine a_drawC (⟨[V.cell (.ptr (.arg 0) 0), .undef, .undef, V.cell (.ptr (.loc [3]) 0), .undef, V.cell (.ptr (.loc [5]) 0), U, U, U, U, U, U, U, U, U, U, U, U, U, U, U, U, U, U, U, U, U, V.bool (!decide (other = 0 ∧ frame = 0 ∧ U16 inp = 0 ∧ n = 0)), U, U, U, U, .undef], [(.loc [5], fnR2), (.loc [3], evC ⟨2, player, other, frame, inp, n⟩), (.arg 0, ctB (.arg 0) c)]⟩) (.take 0 (.take 4 (.both [(1, .both [(2, .both [(3, .both [(5, .both [(6, .take 7 (.done))])]), (5, .both [(3, .both [(6, .take 7 (.done))]), (6, .both [(3, .take 7 (.done))])])]), (5, .both [(2, .both [(3, .both [(6, .take 7 (.done))]), (6, .both [(3, .take 7 (.done))])]), (6, .both [(2, .both [(3, .take 7 (.done))])])])]), (2, .both [(1, .both [(3, .both [(5, .both [(6, .take 7 (.done))])]), (5, .both [(3, .both [(6, .take 7 (.done))]), (6, .both [(3, .take 7 (.done))])])]), (5, .both [(1, .both [(3, .both [(6, .take 7 (.done))]), (6, .both [(3, .take 7 (.done))])]), (6, .both [(1, .both [(3, .take 7 (.done))])])])]), (5, .both [(1, .both [(2, .both [(3, .both [(6, .take 7 (.done))]), (6, .both [(3, .take 7 (.done))])]), (6, .both [(2, .both [(3, .take 7 (.done))])])]), (2, .both [(1, .both [(3, .both [(6, .take 7 (.done))]), (6, .both [(3, .take 7 (.done))])]), (6, .both [(1, .both [(3, .take 7 (.done))])])]), (6, .both [(1, .both [(2, .both [(3, .take 7 (.done))])]), (2, .both [(1, .both [(3, .take 7 (.done))])])])])]))) (by kernel_rfl) (by kernel_rfl) ?_ ?_
  · refine zc ?_;try exact trivial
    repeat' (with_reducible apply And.intro)
    all_goals (
      refine a_call [] (bare2_h ⟨2, player, other, frame, inp, n⟩) ok0 ?_ ?_ ?_
      · refine zs ?_;try exact trivial
      · refine zs ?_;try exact trivial
      rintro _ _ ⟨rfl, rfl⟩
      (refine zc ?_; try exact trivial))
  refine zs ?_;try exact trivial
  refine c_b (fun d => ?_) (fun d => ?_)
  · have d' : ¬ decide (other = 0 ∧ frame = 0 ∧ U16 inp = 0 ∧ n = 0) = true := not_t d
    rw [if_neg d']
    refine zs ?_;try exact trivial
  have d' : decide (other = 0 ∧ frame = 0 ∧ U16 inp = 0 ∧ n = 0) = true := not_f d
  rw [if_pos d']
  refine zs ?_;try exact trivial
  refine a_call [.arg 0] (mayJoin_h c ⟨2, player, other, frame, inp, n⟩) (ok1 rfl) ?_ ?_ ?_
  · refine zs ?_;try exact trivial
  · refine zs ?_;try exact trivial
  rintro _ _ ⟨rfl, rfl⟩
  refine zs ?_;try exact trivial
set_option maxHeartbeats 4000000 in
theorem may3_h (c : Ct) (player other frame n : Int) (inp : UInt16) (h0 : c.in0.length ≤ 1000000) (h1 : c.in1.length ≤ 1000000) : Holds Tryz.prog 55 [.ptr (.arg 0) 0, .ev ⟨3, player, other, frame, inp, n⟩] [(.arg 0, ctB (.arg 0) c)] (fun r h' => r = .int .i64 (mayP18 c ⟨3, player, other, frame, inp, n⟩) ∧ h' = [(.arg 0, ctB (.arg 0) c)]) := by
  have eb : bareB ⟨3, player, other, frame, inp, n⟩ = decide (other = 0 ∧ n = 0) := rfl
  have em : mayP18 c ⟨3, player, other, frame, inp, n⟩ = if decide (other = 0 ∧ n = 0) = true then mayInputP c ⟨3, player, other, frame, inp, n⟩ else 3 := by
    unfold mayP18
    rw [if_neg (by simp only; omega), eb]
    rfl
  rw [em]
  refine holds_of_awp Tryz.func55 rfl (by decide +kernel) mixed Tryz.ntmps55 Tryz.results55 ?_
  refine zE ?_
  refine zc ?_;try exact trivial
  refine a_drawC (⟨[V.cell (.ptr (.arg 0) 0), .undef, .undef, V.cell (.ptr (.loc [3]) 0), .undef, V.cell (.ptr (.loc [5]) 0), U, U, U, U, U, U, U, U, U, U, U, U, U, U, U, U, U, U, U, U, U, U, U, U, U, U, .undef], [(.loc [5], fnR3), (.loc [3], evC ⟨3, player, other, frame, inp, n⟩), (.arg 0, ctB (.arg 0) c)]⟩) (.take 1 (.both [(0, .both [(2, .take 3 (.both [(4, .both [(5, .done)])])), (4, .both [(2, .take 3 (.both [(5, .done)]))])]), (2, .both [(0, .take 3 (.both [(4, .both [(5, .done)])])), (4, .both [(0, .take 3 (.both [(5, .done)]))])]), (4, .both [(0, .both [(2, .take 3 (.both [(5, .done)]))]), (2, .both [(0, .take 3 (.both [(5, .done)]))])])])) (by kernel_rfl) (by kernel_rfl) ?_ ?_
  · refine zc ?_;try exact trivial
    repeat' (with_reducible apply And.intro)
    all_goals (
      refine a_call [] (hows_h) ok0 ?_ ?_ ?_
      · refine zs ?_;try exact trivial
      · refine zs ?_;try exact trivial
      rintro _ _ ⟨rfl, rfl⟩
      (refine zc ?_; try exact trivial))
  refine zc ?_;try exact trivial
  refine a_drawC (⟨[V.cell (.ptr (.arg 0) 0), .undef, .undef, V.cell (.ptr (.loc [3]) 0), .undef, V.cell (.ptr (.loc [5]) 0), U, U, U, U, U, U, U, U, U, U, U, U, U, U, U, U, U, U, U, U, U, V.bool (!decide (other = 0 ∧ n = 0)), U, U, U, U, .undef], [(.loc [5], fnR3), (.loc [3], evC ⟨3, player, other, frame, inp, n⟩), (.arg 0, ctB (.arg 0) c)]⟩) (.take 0 (.take 4 (.both [(1, .both [(2, .both [(3, .both [(5, .both [(6, .take 7 (.done))])]), (5, .both [(3, .both [(6, .take 7 (.done))]), (6, .both [(3, .take 7 (.done))])])]), (5, .both [(2, .both [(3, .both [(6, .take 7 (.done))]), (6, .both [(3, .take 7 (.done))])]), (6, .both [(2, .both [(3, .take 7 (.done))])])])]), (2, .both [(1, .both [(3, .both [(5, .both [(6, .take 7 (.done))])]), (5, .both [(3, .both [(6, .take 7 (.done))]), (6, .both [(3, .take 7 (.done))])])]), (5, .both [(1, .both [(3, .both [(6, .take 7 (.done))]), (6, .both [(3, .take 7 (.done))])]), (6, .both [(1, .both [(3, .take 7 (.done))])])])]), (5, .both [(1, .both [(2, .both [(3, .both [(6, .take 7 (.done))]), (6, .both [(3, .take 7 (.done))])]), (6, .both [(2, .both [(3, .take 7 (.done))])])]), (2, .both [(1, .both [(3, .both [(6, .take 7 (.done))]), (6, .both [(3, .take 7 (.done))])]), (6, .both [(1, .both [(3, .take 7 (.done))])])]), (6, .both [(1, .both [(2, .both [(3, .take 7 (.done))])]), (2, .both [(1, .both [(3, .take 7 (.done))])])])])]))) (by kernel_rfl) (by kernel_rfl) ?_ ?_
  · refine zc ?_;try exact trivial
    repeat' (with_reducible apply And.intro)
    all_goals (
      refine a_call [] (bare3_h ⟨3, player, other, frame, inp, n⟩) ok0 ?_ ?_ ?_
      · refine zs ?_;try exact trivial
      · refine zs ?_;try exact trivial
      rintro _ _ ⟨rfl, rfl⟩
      (refine zc ?_; try exact trivial))
  refine zs ?_;try exact trivial
  refine c_b (fun d => ?_) (fun d => ?_)
  · have d' : ¬ decide (other = 0 ∧ n = 0) = true := not_t d
    rw [if_neg d']
    refine zs ?_;try exact trivial
  have d' : decide (other = 0 ∧ n = 0) = true := not_f d
  rw [if_pos d']
  refine zs ?_;try exact trivial
  refine a_call [.arg 0] (mayInput_h c ⟨3, player, other, frame, inp, n⟩ h0 h1) (ok1 rfl) ?_ ?_ ?_
  · refine zs ?_;try exact trivial
  · refine zs ?_;try exact trivial
  rintro _ _ ⟨rfl, rfl⟩
  refine zs ?_;try exact trivial
set_option maxHeartbeats 4000000 in
theorem may4_h (c : Ct) (player other frame n : Int) (inp : UInt16) : Holds Tryz.prog 55 [.ptr (.arg 0) 0, .ev ⟨4, player, other, frame, inp, n⟩] [(.arg 0, ctB (.arg 0) c)] (fun r h' => r = .int .i64 (mayP18 c ⟨4, player, other, frame, inp, n⟩) ∧ h' = [(.arg 0, ctB (.arg 0) c)]) := by
  have eb : bareB ⟨4, player, other, frame, inp, n⟩ = decide (other = 0 ∧ frame = 0 ∧ U16 inp = 0 ∧ n = 0) := rfl
  have em : mayP18 c ⟨4, player, other, frame, inp, n⟩ = if decide (other = 0 ∧ frame = 0 ∧ U16 inp = 0 ∧ n = 0) = true then actP c player else 3 := by
    unfold mayP18
    rw [if_neg (by simp only; omega), eb]
    rfl
  rw [em]
  refine holds_of_awp Tryz.func55 rfl (by decide +kernel) mixed Tryz.ntmps55 Tryz.results55 ?_
  refine zE ?_
  refine zc ?_;try exact trivial
  refine a_drawC (⟨[V.cell (.ptr (.arg 0) 0), .undef, .undef, V.cell (.ptr (.loc [3]) 0), .undef, V.cell (.ptr (.loc [5]) 0), U, U, U, U, U, U, U, U, U, U, U, U, U, U, U, U, U, U, U, U, U, U, U, U, U, U, .undef], [(.loc [5], fnR4), (.loc [3], evC ⟨4, player, other, frame, inp, n⟩), (.arg 0, ctB (.arg 0) c)]⟩) (.take 1 (.both [(0, .both [(2, .take 3 (.both [(4, .both [(5, .done)])])), (4, .both [(2, .take 3 (.both [(5, .done)]))])]), (2, .both [(0, .take 3 (.both [(4, .both [(5, .done)])])), (4, .both [(0, .take 3 (.both [(5, .done)]))])]), (4, .both [(0, .both [(2, .take 3 (.both [(5, .done)]))]), (2, .both [(0, .take 3 (.both [(5, .done)]))])])])) (by kernel_rfl) (by kernel_rfl) ?_ ?_
  · refine zc ?_;try exact trivial
    repeat' (with_reducible apply And.intro)
    all_goals (
      refine a_call [] (hows_h) ok0 ?_ ?_ ?_
      · refine zs ?_;try exact trivial
      · refine zs ?_;try exact trivial
      rintro _ _ ⟨rfl, rfl⟩
      (refine zc ?_; try exact trivial))
  refine zc ?_;try exact trivial
  refine a_drawC (⟨[V.cell (.ptr (.arg 0) 0), .undef, .undef, V.cell (.ptr (.loc [3]) 0), .undef, V.cell (.ptr (.loc [5]) 0), U, U, U, U, U, U, U, U, U, U, U, U, U, U, U, U, U, U, U, U, U, V.bool (!decide (other = 0 ∧ frame = 0 ∧ U16 inp = 0 ∧ n = 0)), U, U, U, U, .undef], [(.loc [5], fnR4), (.loc [3], evC ⟨4, player, other, frame, inp, n⟩), (.arg 0, ctB (.arg 0) c)]⟩) (.take 0 (.take 4 (.both [(1, .both [(2, .both [(3, .both [(5, .both [(6, .take 7 (.done))])]), (5, .both [(3, .both [(6, .take 7 (.done))]), (6, .both [(3, .take 7 (.done))])])]), (5, .both [(2, .both [(3, .both [(6, .take 7 (.done))]), (6, .both [(3, .take 7 (.done))])]), (6, .both [(2, .both [(3, .take 7 (.done))])])])]), (2, .both [(1, .both [(3, .both [(5, .both [(6, .take 7 (.done))])]), (5, .both [(3, .both [(6, .take 7 (.done))]), (6, .both [(3, .take 7 (.done))])])]), (5, .both [(1, .both [(3, .both [(6, .take 7 (.done))]), (6, .both [(3, .take 7 (.done))])]), (6, .both [(1, .both [(3, .take 7 (.done))])])])]), (5, .both [(1, .both [(2, .both [(3, .both [(6, .take 7 (.done))]), (6, .both [(3, .take 7 (.done))])]), (6, .both [(2, .both [(3, .take 7 (.done))])])]), (2, .both [(1, .both [(3, .both [(6, .take 7 (.done))]), (6, .both [(3, .take 7 (.done))])]), (6, .both [(1, .both [(3, .take 7 (.done))])])]), (6, .both [(1, .both [(2, .both [(3, .take 7 (.done))])]), (2, .both [(1, .both [(3, .take 7 (.done))])])])])]))) (by kernel_rfl) (by kernel_rfl) ?_ ?_
  · refine zc ?_;try exact trivial
    repeat' (with_reducible apply And.intro)
    all_goals (
      refine a_call [] (bare4_h ⟨4, player, other, frame, inp, n⟩) ok0 ?_ ?_ ?_
      · refine zs ?_;try exact trivial
      · refine zs ?_;try exact trivial
      rintro _ _ ⟨rfl, rfl⟩
      (refine zc ?_; try exact trivial))
  refine zs ?_;try exact trivial
  refine c_b (fun d => ?_) (fun d => ?_)
  · have d' : ¬ decide (other = 0 ∧ frame = 0 ∧ U16 inp = 0 ∧ n = 0) = true := not_t d
    rw [if_neg d']
    refine zs ?_;try exact trivial
  have d' : decide (other = 0 ∧ frame = 0 ∧ U16 inp = 0 ∧ n = 0) = true := not_f d
  rw [if_pos d']
  refine zs ?_;try exact trivial
  refine a_call [.arg 0] (mayForfeit_h c ⟨4, player, other, frame, inp, n⟩) (ok1 rfl) ?_ ?_ ?_
  · refine zs ?_;try exact trivial
  · refine zs ?_;try exact trivial
  rintro _ _ ⟨rfl, rfl⟩
  refine zs ?_;try exact trivial
set_option maxHeartbeats 4000000 in
theorem may5_h (c : Ct) (player other frame n : Int) (inp : UInt16) (hw : 0 ≤ c.st.win ∧ c.st.win ≤ 2) : Holds Tryz.prog 55 [.ptr (.arg 0) 0, .ev ⟨5, player, other, frame, inp, n⟩] [(.arg 0, ctB (.arg 0) c)] (fun r h' => r = .int .i64 (mayP18 c ⟨5, player, other, frame, inp, n⟩) ∧ h' = [(.arg 0, ctB (.arg 0) c)]) := by
  have eb : bareB ⟨5, player, other, frame, inp, n⟩ = decide (other = 0 ∧ frame = 0 ∧ U16 inp = 0) := rfl
  have em : mayP18 c ⟨5, player, other, frame, inp, n⟩ = if decide (other = 0 ∧ frame = 0 ∧ U16 inp = 0) = true then mayResultP c ⟨5, player, other, frame, inp, n⟩ else 3 := by
    unfold mayP18
    rw [if_neg (by simp only; omega), eb]
    rfl
  rw [em]
  refine holds_of_awp Tryz.func55 rfl (by decide +kernel) mixed Tryz.ntmps55 Tryz.results55 ?_
  refine zE ?_
  refine zc ?_;try exact trivial
  refine a_drawC (⟨[V.cell (.ptr (.arg 0) 0), .undef, .undef, V.cell (.ptr (.loc [3]) 0), .undef, V.cell (.ptr (.loc [5]) 0), U, U, U, U, U, U, U, U, U, U, U, U, U, U, U, U, U, U, U, U, U, U, U, U, U, U, .undef], [(.loc [5], fnR5), (.loc [3], evC ⟨5, player, other, frame, inp, n⟩), (.arg 0, ctB (.arg 0) c)]⟩) (.take 1 (.both [(0, .both [(2, .take 3 (.both [(4, .both [(5, .done)])])), (4, .both [(2, .take 3 (.both [(5, .done)]))])]), (2, .both [(0, .take 3 (.both [(4, .both [(5, .done)])])), (4, .both [(0, .take 3 (.both [(5, .done)]))])]), (4, .both [(0, .both [(2, .take 3 (.both [(5, .done)]))]), (2, .both [(0, .take 3 (.both [(5, .done)]))])])])) (by kernel_rfl) (by kernel_rfl) ?_ ?_
  · refine zc ?_;try exact trivial
    repeat' (with_reducible apply And.intro)
    all_goals (
      refine a_call [] (hows_h) ok0 ?_ ?_ ?_
      · refine zs ?_;try exact trivial
      · refine zs ?_;try exact trivial
      rintro _ _ ⟨rfl, rfl⟩
      (refine zc ?_; try exact trivial))
  refine zc ?_;try exact trivial
  refine a_drawC (⟨[V.cell (.ptr (.arg 0) 0), .undef, .undef, V.cell (.ptr (.loc [3]) 0), .undef, V.cell (.ptr (.loc [5]) 0), U, U, U, U, U, U, U, U, U, U, U, U, U, U, U, U, U, U, U, U, U, V.bool (!decide (other = 0 ∧ frame = 0 ∧ U16 inp = 0)), U, U, U, U, .undef], [(.loc [5], fnR5), (.loc [3], evC ⟨5, player, other, frame, inp, n⟩), (.arg 0, ctB (.arg 0) c)]⟩) (.take 0 (.take 4 (.both [(1, .both [(2, .both [(3, .both [(5, .both [(6, .take 7 (.done))])]), (5, .both [(3, .both [(6, .take 7 (.done))]), (6, .both [(3, .take 7 (.done))])])]), (5, .both [(2, .both [(3, .both [(6, .take 7 (.done))]), (6, .both [(3, .take 7 (.done))])]), (6, .both [(2, .both [(3, .take 7 (.done))])])])]), (2, .both [(1, .both [(3, .both [(5, .both [(6, .take 7 (.done))])]), (5, .both [(3, .both [(6, .take 7 (.done))]), (6, .both [(3, .take 7 (.done))])])]), (5, .both [(1, .both [(3, .both [(6, .take 7 (.done))]), (6, .both [(3, .take 7 (.done))])]), (6, .both [(1, .both [(3, .take 7 (.done))])])])]), (5, .both [(1, .both [(2, .both [(3, .both [(6, .take 7 (.done))]), (6, .both [(3, .take 7 (.done))])]), (6, .both [(2, .both [(3, .take 7 (.done))])])]), (2, .both [(1, .both [(3, .both [(6, .take 7 (.done))]), (6, .both [(3, .take 7 (.done))])]), (6, .both [(1, .both [(3, .take 7 (.done))])])]), (6, .both [(1, .both [(2, .both [(3, .take 7 (.done))])]), (2, .both [(1, .both [(3, .take 7 (.done))])])])])]))) (by kernel_rfl) (by kernel_rfl) ?_ ?_
  · refine zc ?_;try exact trivial
    repeat' (with_reducible apply And.intro)
    all_goals (
      refine a_call [] (bare5_h ⟨5, player, other, frame, inp, n⟩) ok0 ?_ ?_ ?_
      · refine zs ?_;try exact trivial
      · refine zs ?_;try exact trivial
      rintro _ _ ⟨rfl, rfl⟩
      (refine zc ?_; try exact trivial))
  refine zs ?_;try exact trivial
  refine c_b (fun d => ?_) (fun d => ?_)
  · have d' : ¬ decide (other = 0 ∧ frame = 0 ∧ U16 inp = 0) = true := not_t d
    rw [if_neg d']
    refine zs ?_;try exact trivial
  have d' : decide (other = 0 ∧ frame = 0 ∧ U16 inp = 0) = true := not_f d
  rw [if_pos d']
  refine zs ?_;try exact trivial
  refine a_call [.arg 0] (mayResult_h c ⟨5, player, other, frame, inp, n⟩ hw) (ok1 rfl) ?_ ?_ ?_
  · refine zs ?_;try exact trivial
  · refine zs ?_;try exact trivial
  rintro _ _ ⟨rfl, rfl⟩
  refine zs ?_;try exact trivial
end
section
@[go_sem 1200] theorem evs_app {l : List Ev} {a b c d f : Int} {x : UInt16} : evs l ++ [.val (.int .i64 a), .val (.int .i64 b), .val (.int .i64 c), .val (.int .i64 d), .val (.int .u16 (U16 x)), .val (.int .i64 f)] = evs (l ++ [⟨a, b, c, d, x, f⟩]) := by
  simp [evs, evD]
def Ct.add (c : Ct) (e : Ev) : Ct := { c with events := c.events ++ [e] }
theorem applyN1_h (c : Ct) (player other frame n : Int) (inp : UInt16) (hm : mayP18 c ⟨1, player, other, frame, inp, n⟩ ≠ 0) : Holds Tryz.prog 40 [.ptr (.arg 0) 0, .ev ⟨1, player, other, frame, inp, n⟩] [(.arg 0, ctB (.arg 0) c)] (fun r h' => r = .int .i64 (mayP18 c ⟨1, player, other, frame, inp, n⟩) ∧ h' = [(.arg 0, ctB (.arg 0) c)]) := by
  refine holds_of_awp Tryz.func40 rfl (by decide +kernel) mixed Tryz.ntmps40 Tryz.results40 ?_
  refine zE ?_
  refine zs ?_;try exact trivial
  refine a_call [.arg 0] (may1_h c player other frame n inp) (ok1 rfl) ?_ ?_ ?_
  · refine zs ?_;try exact trivial
  · refine zs ?_;try exact trivial
  rintro _ _ ⟨rfl, rfl⟩
  refine zs ?_;try exact trivial
  refine c_dec (fun h => ?_) (fun h => ?_)
  · refine zs ?_;try exact trivial
  exact (h hm).elim
set_option maxHeartbeats 4000000 in
theorem applyY1_h (c c' : Ct) (player other frame n : Int) (inp : UInt16) (hm : mayP18 c ⟨1, player, other, frame, inp, n⟩ = 0) (hl : c'.events.length ≤ 1000000)
    (hd : Holds Tryz.prog 72 [.ptr (.arg 0) 0, .ev ⟨1, player, other, frame, inp, n⟩] [(.arg 0, ctB (.arg 0) c)] (fun r h' => r = .tup [] ∧ h' = [(.arg 0, ctB (.arg 0) c')])) :
    Holds Tryz.prog 40 [.ptr (.arg 0) 0, .ev ⟨1, player, other, frame, inp, n⟩] [(.arg 0, ctB (.arg 0) c)] (fun r h' => r = .int .i64 0 ∧ h' = [(.arg 0, ctB (.arg 0) (c'.add ⟨1, player, other, frame, inp, n⟩))]) := by
  refine holds_of_awp Tryz.func40 rfl (by decide +kernel) mixed Tryz.ntmps40 Tryz.results40 ?_
  refine zE ?_
  refine zs ?_;try exact trivial
  refine a_call [.arg 0] (may1_h c player other frame n inp) (ok1 rfl) ?_ ?_ ?_
  · refine zs ?_;try exact trivial
  · refine zs ?_;try exact trivial
  rintro _ _ ⟨rfl, rfl⟩
  rw [hm]
  refine zc ?_;try exact trivial
  refine a_drawC (⟨[V.cell (.ptr (.arg 0) 0), .undef, .undef, V.cell (.ptr (.loc [3]) 0), U, U, U, U, U, U, U, U, U, U, U, U, U, U, U, U, U, U, U, U, U, U, U, U, U, .undef], [(.loc [3], evC ⟨1, player, other, frame, inp, n⟩), (.arg 0, ctB (.arg 0) c')]⟩) (.take 1 (.take 5 (.both [(0, .both [(2, .take 3 (.take 4 (.both [(6, .both [(7, .done)])]))), (6, .both [(2, .take 3 (.take 4 (.both [(7, .done)])))])]), (2, .both [(0, .take 3 (.take 4 (.both [(6, .both [(7, .done)])]))), (6, .both [(0, .take 3 (.take 4 (.both [(7, .done)])))])]), (6, .both [(0, .both [(2, .take 3 (.take 4 (.both [(7, .done)])))]), (2, .both [(0, .take 3 (.take 4 (.both [(7, .done)])))])])]))) (by kernel_rfl) (by kernel_rfl) ?_ ?_
  · refine zc ?_;try exact trivial
    repeat' (with_reducible apply And.intro)
    all_goals (
      refine a_call [] (hows_h) ok0 ?_ ?_ ?_
      · refine zs ?_;try exact trivial
      · refine zs ?_;try exact trivial
      rintro _ _ ⟨rfl, rfl⟩
      refine zc ?_;try exact trivial
      refine a_call [.arg 0] (hd) (ok1 rfl) ?_ ?_ ?_
      · refine zs ?_;try exact trivial
      · refine zs ?_;try exact trivial
      rintro _ _ ⟨rfl, rfl⟩
      (refine zc ?_; try exact trivial))
  refine zc ?_;try exact trivial
  refine a_drawC (⟨[U, U, U, U, U, U, U, U, U, U, U, U, U, U, U, U, U, U, U, U, U, U, U, U, U, U, U, U, U, .undef], [(.arg 0, ctB (.arg 0) (c'.add ⟨1, player, other, frame, inp, n⟩))]⟩) (.take 0 (.take 1 (.take 2 (.take 3 (.both [(4, .both [(5, .both [(6, .both [(7, .take 8 (.take 9 (.both [(10, .done)])))])])]), (5, .both [(4, .both [(6, .both [(7, .take 8 (.take 9 (.both [(10, .done)])))])]), (6, .both [(4, .both [(7, .take 8 (.take 9 (.both [(10, .done)])))])])])]))))) (by kernel_rfl) (by kernel_rfl) ?_ ?_
  · refine zc ?_;try exact trivial
    repeat' (with_reducible apply And.intro)
    all_goals first | omega | exact leCs_refl _
  refine zc ?_;try exact trivial
theorem applyN2_h (c : Ct) (player other frame n : Int) (inp : UInt16) (hm : mayP18 c ⟨2, player, other, frame, inp, n⟩ ≠ 0) : Holds Tryz.prog 40 [.ptr (.arg 0) 0, .ev ⟨2, player, other, frame, inp, n⟩] [(.arg 0, ctB (.arg 0) c)] (fun r h' => r = .int .i64 (mayP18 c ⟨2, player, other, frame, inp, n⟩) ∧ h' = [(.arg 0, ctB (.arg 0) c)]) := by
  refine holds_of_awp Tryz.func40 rfl (by decide +kernel) mixed Tryz.ntmps40 Tryz.results40 ?_
  refine zE ?_
  refine zs ?_;try exact trivial
  refine a_call [.arg 0] (may2_h c player other frame n inp) (ok1 rfl) ?_ ?_ ?_
  · refine zs ?_;try exact trivial
  · refine zs ?_;try exact trivial
  rintro _ _ ⟨rfl, rfl⟩
  refine zs ?_;try exact trivial
  refine c_dec (fun h => ?_) (fun h => ?_)
  · refine zs ?_;try exact trivial
  exact (h hm).elim
set_option maxHeartbeats 4000000 in
theorem applyY2_h (c c' : Ct) (player other frame n : Int) (inp : UInt16) (hm : mayP18 c ⟨2, player, other, frame, inp, n⟩ = 0) (hl : c'.events.length ≤ 1000000)
    (hd : Holds Tryz.prog 75 [.ptr (.arg 0) 0, .ev ⟨2, player, other, frame, inp, n⟩] [(.arg 0, ctB (.arg 0) c)] (fun r h' => r = .tup [] ∧ h' = [(.arg 0, ctB (.arg 0) c')])) :
    Holds Tryz.prog 40 [.ptr (.arg 0) 0, .ev ⟨2, player, other, frame, inp, n⟩] [(.arg 0, ctB (.arg 0) c)] (fun r h' => r = .int .i64 0 ∧ h' = [(.arg 0, ctB (.arg 0) (c'.add ⟨2, player, other, frame, inp, n⟩))]) := by
  refine holds_of_awp Tryz.func40 rfl (by decide +kernel) mixed Tryz.ntmps40 Tryz.results40 ?_
  refine zE ?_
  refine zs ?_;try exact trivial
  refine a_call [.arg 0] (may2_h c player other frame n inp) (ok1 rfl) ?_ ?_ ?_
  · refine zs ?_;try exact trivial
  · refine zs ?_;try exact trivial
  rintro _ _ ⟨rfl, rfl⟩
  rw [hm]
  refine zc ?_;try exact trivial
  refine a_drawC (⟨[V.cell (.ptr (.arg 0) 0), .undef, .undef, V.cell (.ptr (.loc [3]) 0), U, U, U, U, U, U, U, U, U, U, U, U, U, U, U, U, U, U, U, U, U, U, U, U, U, .undef], [(.loc [3], evC ⟨2, player, other, frame, inp, n⟩), (.arg 0, ctB (.arg 0) c')]⟩) (.take 1 (.take 5 (.both [(0, .both [(2, .take 3 (.take 4 (.both [(6, .both [(7, .done)])]))), (6, .both [(2, .take 3 (.take 4 (.both [(7, .done)])))])]), (2, .both [(0, .take 3 (.take 4 (.both [(6, .both [(7, .done)])]))), (6, .both [(0, .take 3 (.take 4 (.both [(7, .done)])))])]), (6, .both [(0, .both [(2, .take 3 (.take 4 (.both [(7, .done)])))]), (2, .both [(0, .take 3 (.take 4 (.both [(7, .done)])))])])]))) (by kernel_rfl) (by kernel_rfl) ?_ ?_
  · refine zc ?_;try exact trivial
    repeat' (with_reducible apply And.intro)
    all_goals (
      refine a_call [] (hows_h) ok0 ?_ ?_ ?_
      · refine zs ?_;try exact trivial
      · refine zs ?_;try exact trivial
      rintro _ _ ⟨rfl, rfl⟩
      refine zc ?_;try exact trivial
      refine a_call [.arg 0] (hd) (ok1 rfl) ?_ ?_ ?_
      · refine zs ?_;try exact trivial
      · refine zs ?_;try exact trivial
      rintro _ _ ⟨rfl, rfl⟩
      (refine zc ?_; try exact trivial))
  refine zc ?_;try exact trivial
  refine a_drawC (⟨[U, U, U, U, U, U, U, U, U, U, U, U, U, U, U, U, U, U, U, U, U, U, U, U, U, U, U, U, U, .undef], [(.arg 0, ctB (.arg 0) (c'.add ⟨2, player, other, frame, inp, n⟩))]⟩) (.take 0 (.take 1 (.take 2 (.take 3 (.both [(4, .both [(5, .both [(6, .both [(7, .take 8 (.take 9 (.both [(10, .done)])))])])]), (5, .both [(4, .both [(6, .both [(7, .take 8 (.take 9 (.both [(10, .done)])))])]), (6, .both [(4, .both [(7, .take 8 (.take 9 (.both [(10, .done)])))])])])]))))) (by kernel_rfl) (by kernel_rfl) ?_ ?_
  · refine zc ?_;try exact trivial
    repeat' (with_reducible apply And.intro)
    all_goals first | omega | exact leCs_refl _
  refine zc ?_;try exact trivial
theorem applyN3_h (c : Ct) (player other frame n : Int) (inp : UInt16) (h0 : c.in0.length ≤ 1000000) (h1 : c.in1.length ≤ 1000000) (hm : mayP18 c ⟨3, player, other, frame, inp, n⟩ ≠ 0) : Holds Tryz.prog 40 [.ptr (.arg 0) 0, .ev ⟨3, player, other, frame, inp, n⟩] [(.arg 0, ctB (.arg 0) c)] (fun r h' => r = .int .i64 (mayP18 c ⟨3, player, other, frame, inp, n⟩) ∧ h' = [(.arg 0, ctB (.arg 0) c)]) := by
  refine holds_of_awp Tryz.func40 rfl (by decide +kernel) mixed Tryz.ntmps40 Tryz.results40 ?_
  refine zE ?_
  refine zs ?_;try exact trivial
  refine a_call [.arg 0] (may3_h c player other frame n inp h0 h1) (ok1 rfl) ?_ ?_ ?_
  · refine zs ?_;try exact trivial
  · refine zs ?_;try exact trivial
  rintro _ _ ⟨rfl, rfl⟩
  refine zs ?_;try exact trivial
  refine c_dec (fun h => ?_) (fun h => ?_)
  · refine zs ?_;try exact trivial
  exact (h hm).elim
set_option maxHeartbeats 4000000 in
theorem applyY3_h (c c' : Ct) (player other frame n : Int) (inp : UInt16) (h0 : c.in0.length ≤ 1000000) (h1 : c.in1.length ≤ 1000000) (hm : mayP18 c ⟨3, player, other, frame, inp, n⟩ = 0) (hl : c'.events.length ≤ 1000000)
    (hd : Holds Tryz.prog 78 [.ptr (.arg 0) 0, .ev ⟨3, player, other, frame, inp, n⟩] [(.arg 0, ctB (.arg 0) c)] (fun r h' => r = .tup [] ∧ h' = [(.arg 0, ctB (.arg 0) c')])) :
    Holds Tryz.prog 40 [.ptr (.arg 0) 0, .ev ⟨3, player, other, frame, inp, n⟩] [(.arg 0, ctB (.arg 0) c)] (fun r h' => r = .int .i64 0 ∧ h' = [(.arg 0, ctB (.arg 0) (c'.add ⟨3, player, other, frame, inp, n⟩))]) := by
  refine holds_of_awp Tryz.func40 rfl (by decide +kernel) mixed Tryz.ntmps40 Tryz.results40 ?_
  refine zE ?_
  refine zs ?_;try exact trivial
  refine a_call [.arg 0] (may3_h c player other frame n inp h0 h1) (ok1 rfl) ?_ ?_ ?_
  · refine zs ?_;try exact trivial
  · refine zs ?_;try exact trivial
  rintro _ _ ⟨rfl, rfl⟩
  rw [hm]
  refine zc ?_;try exact trivial
  refine a_drawC (⟨[V.cell (.ptr (.arg 0) 0), .undef, .undef, V.cell (.ptr (.loc [3]) 0), U, U, U, U, U, U, U, U, U, U, U, U, U, U, U, U, U, U, U, U, U, U, U, U, U, .undef], [(.loc [3], evC ⟨3, player, other, frame, inp, n⟩), (.arg 0, ctB (.arg 0) c')]⟩) (.take 1 (.take 5 (.both [(0, .both [(2, .take 3 (.take 4 (.both [(6, .both [(7, .done)])]))), (6, .both [(2, .take 3 (.take 4 (.both [(7, .done)])))])]), (2, .both [(0, .take 3 (.take 4 (.both [(6, .both [(7, .done)])]))), (6, .both [(0, .take 3 (.take 4 (.both [(7, .done)])))])]), (6, .both [(0, .both [(2, .take 3 (.take 4 (.both [(7, .done)])))]), (2, .both [(0, .take 3 (.take 4 (.both [(7, .done)])))])])]))) (by kernel_rfl) (by kernel_rfl) ?_ ?_
  · refine zc ?_;try exact trivial
    repeat' (with_reducible apply And.intro)
    all_goals (
      refine a_call [] (hows_h) ok0 ?_ ?_ ?_
      · refine zs ?_;try exact trivial
      · refine zs ?_;try exact trivial
      rintro _ _ ⟨rfl, rfl⟩
      refine zc ?_;try exact trivial
      refine a_call [.arg 0] (hd) (ok1 rfl) ?_ ?_ ?_
      · refine zs ?_;try exact trivial
      · refine zs ?_;try exact trivial
      rintro _ _ ⟨rfl, rfl⟩
      (refine zc ?_; try exact trivial))
  refine zc ?_;try exact trivial
  refine a_drawC (⟨[U, U, U, U, U, U, U, U, U, U, U, U, U, U, U, U, U, U, U, U, U, U, U, U, U, U, U, U, U, .undef], [(.arg 0, ctB (.arg 0) (c'.add ⟨3, player, other, frame, inp, n⟩))]⟩) (.take 0 (.take 1 (.take 2 (.take 3 (.both [(4, .both [(5, .both [(6, .both [(7, .take 8 (.take 9 (.both [(10, .done)])))])])]), (5, .both [(4, .both [(6, .both [(7, .take 8 (.take 9 (.both [(10, .done)])))])]), (6, .both [(4, .both [(7, .take 8 (.take 9 (.both [(10, .done)])))])])])]))))) (by kernel_rfl) (by kernel_rfl) ?_ ?_
  · refine zc ?_;try exact trivial
    repeat' (with_reducible apply And.intro)
    all_goals first | omega | exact leCs_refl _
  refine zc ?_;try exact trivial
theorem applyN4_h (c : Ct) (player other frame n : Int) (inp : UInt16) (hm : mayP18 c ⟨4, player, other, frame, inp, n⟩ ≠ 0) : Holds Tryz.prog 40 [.ptr (.arg 0) 0, .ev ⟨4, player, other, frame, inp, n⟩] [(.arg 0, ctB (.arg 0) c)] (fun r h' => r = .int .i64 (mayP18 c ⟨4, player, other, frame, inp, n⟩) ∧ h' = [(.arg 0, ctB (.arg 0) c)]) := by
  refine holds_of_awp Tryz.func40 rfl (by decide +kernel) mixed Tryz.ntmps40 Tryz.results40 ?_
  refine zE ?_
  refine zs ?_;try exact trivial
  refine a_call [.arg 0] (may4_h c player other frame n inp) (ok1 rfl) ?_ ?_ ?_
  · refine zs ?_;try exact trivial
  · refine zs ?_;try exact trivial
  rintro _ _ ⟨rfl, rfl⟩
  refine zs ?_;try exact trivial
  refine c_dec (fun h => ?_) (fun h => ?_)
  · refine zs ?_;try exact trivial
  exact (h hm).elim
set_option maxHeartbeats 4000000 in
theorem applyY4_h (c c' : Ct) (player other frame n : Int) (inp : UInt16) (hm : mayP18 c ⟨4, player, other, frame, inp, n⟩ = 0) (hl : c'.events.length ≤ 1000000)
    (hd : Holds Tryz.prog 81 [.ptr (.arg 0) 0, .ev ⟨4, player, other, frame, inp, n⟩] [(.arg 0, ctB (.arg 0) c)] (fun r h' => r = .tup [] ∧ h' = [(.arg 0, ctB (.arg 0) c')])) :
    Holds Tryz.prog 40 [.ptr (.arg 0) 0, .ev ⟨4, player, other, frame, inp, n⟩] [(.arg 0, ctB (.arg 0) c)] (fun r h' => r = .int .i64 0 ∧ h' = [(.arg 0, ctB (.arg 0) (c'.add ⟨4, player, other, frame, inp, n⟩))]) := by
  refine holds_of_awp Tryz.func40 rfl (by decide +kernel) mixed Tryz.ntmps40 Tryz.results40 ?_
  refine zE ?_
  refine zs ?_;try exact trivial
  refine a_call [.arg 0] (may4_h c player other frame n inp) (ok1 rfl) ?_ ?_ ?_
  · refine zs ?_;try exact trivial
  · refine zs ?_;try exact trivial
  rintro _ _ ⟨rfl, rfl⟩
  rw [hm]
  refine zc ?_;try exact trivial
  refine a_drawC (⟨[V.cell (.ptr (.arg 0) 0), .undef, .undef, V.cell (.ptr (.loc [3]) 0), U, U, U, U, U, U, U, U, U, U, U, U, U, U, U, U, U, U, U, U, U, U, U, U, U, .undef], [(.loc [3], evC ⟨4, player, other, frame, inp, n⟩), (.arg 0, ctB (.arg 0) c')]⟩) (.take 1 (.take 5 (.both [(0, .both [(2, .take 3 (.take 4 (.both [(6, .both [(7, .done)])]))), (6, .both [(2, .take 3 (.take 4 (.both [(7, .done)])))])]), (2, .both [(0, .take 3 (.take 4 (.both [(6, .both [(7, .done)])]))), (6, .both [(0, .take 3 (.take 4 (.both [(7, .done)])))])]), (6, .both [(0, .both [(2, .take 3 (.take 4 (.both [(7, .done)])))]), (2, .both [(0, .take 3 (.take 4 (.both [(7, .done)])))])])]))) (by kernel_rfl) (by kernel_rfl) ?_ ?_
  · refine zc ?_;try exact trivial
    repeat' (with_reducible apply And.intro)
    all_goals (
      refine a_call [] (hows_h) ok0 ?_ ?_ ?_
      · refine zs ?_;try exact trivial
      · refine zs ?_;try exact trivial
      rintro _ _ ⟨rfl, rfl⟩
      refine zc ?_;try exact trivial
      refine a_call [.arg 0] (hd) (ok1 rfl) ?_ ?_ ?_
      · refine zs ?_;try exact trivial
      · refine zs ?_;try exact trivial
      rintro _ _ ⟨rfl, rfl⟩
      (refine zc ?_; try exact trivial))
  refine zc ?_;try exact trivial
  refine a_drawC (⟨[U, U, U, U, U, U, U, U, U, U, U, U, U, U, U, U, U, U, U, U, U, U, U, U, U, U, U, U, U, .undef], [(.arg 0, ctB (.arg 0) (c'.add ⟨4, player, other, frame, inp, n⟩))]⟩) (.take 0 (.take 1 (.take 2 (.take 3 (.both [(4, .both [(5, .both [(6, .both [(7, .take 8 (.take 9 (.both [(10, .done)])))])])]), (5, .both [(4, .both [(6, .both [(7, .take 8 (.take 9 (.both [(10, .done)])))])]), (6, .both [(4, .both [(7, .take 8 (.take 9 (.both [(10, .done)])))])])])]))))) (by kernel_rfl) (by kernel_rfl) ?_ ?_
  · refine zc ?_;try exact trivial
    repeat' (with_reducible apply And.intro)
    all_goals first | omega | exact leCs_refl _
  refine zc ?_;try exact trivial
theorem applyN5_h (c : Ct) (player other frame n : Int) (inp : UInt16) (hw : 0 ≤ c.st.win ∧ c.st.win ≤ 2) (hm : mayP18 c ⟨5, player, other, frame, inp, n⟩ ≠ 0) : Holds Tryz.prog 40 [.ptr (.arg 0) 0, .ev ⟨5, player, other, frame, inp, n⟩] [(.arg 0, ctB (.arg 0) c)] (fun r h' => r = .int .i64 (mayP18 c ⟨5, player, other, frame, inp, n⟩) ∧ h' = [(.arg 0, ctB (.arg 0) c)]) := by
  refine holds_of_awp Tryz.func40 rfl (by decide +kernel) mixed Tryz.ntmps40 Tryz.results40 ?_
  refine zE ?_
  refine zs ?_;try exact trivial
  refine a_call [.arg 0] (may5_h c player other frame n inp hw) (ok1 rfl) ?_ ?_ ?_
  · refine zs ?_;try exact trivial
  · refine zs ?_;try exact trivial
  rintro _ _ ⟨rfl, rfl⟩
  refine zs ?_;try exact trivial
  refine c_dec (fun h => ?_) (fun h => ?_)
  · refine zs ?_;try exact trivial
  exact (h hm).elim
set_option maxHeartbeats 4000000 in
theorem applyY5_h (c c' : Ct) (player other frame n : Int) (inp : UInt16) (hw : 0 ≤ c.st.win ∧ c.st.win ≤ 2) (hm : mayP18 c ⟨5, player, other, frame, inp, n⟩ = 0) (hl : c'.events.length ≤ 1000000)
    (hd : Holds Tryz.prog 84 [.ptr (.arg 0) 0, .ev ⟨5, player, other, frame, inp, n⟩] [(.arg 0, ctB (.arg 0) c)] (fun r h' => r = .tup [] ∧ h' = [(.arg 0, ctB (.arg 0) c')])) :
    Holds Tryz.prog 40 [.ptr (.arg 0) 0, .ev ⟨5, player, other, frame, inp, n⟩] [(.arg 0, ctB (.arg 0) c)] (fun r h' => r = .int .i64 0 ∧ h' = [(.arg 0, ctB (.arg 0) (c'.add ⟨5, player, other, frame, inp, n⟩))]) := by
  refine holds_of_awp Tryz.func40 rfl (by decide +kernel) mixed Tryz.ntmps40 Tryz.results40 ?_
  refine zE ?_
  refine zs ?_;try exact trivial
  refine a_call [.arg 0] (may5_h c player other frame n inp hw) (ok1 rfl) ?_ ?_ ?_
  · refine zs ?_;try exact trivial
  · refine zs ?_;try exact trivial
  rintro _ _ ⟨rfl, rfl⟩
  rw [hm]
  refine zc ?_;try exact trivial
  refine a_drawC (⟨[V.cell (.ptr (.arg 0) 0), .undef, .undef, V.cell (.ptr (.loc [3]) 0), U, U, U, U, U, U, U, U, U, U, U, U, U, U, U, U, U, U, U, U, U, U, U, U, U, .undef], [(.loc [3], evC ⟨5, player, other, frame, inp, n⟩), (.arg 0, ctB (.arg 0) c')]⟩) (.take 1 (.take 5 (.both [(0, .both [(2, .take 3 (.take 4 (.both [(6, .both [(7, .done)])]))), (6, .both [(2, .take 3 (.take 4 (.both [(7, .done)])))])]), (2, .both [(0, .take 3 (.take 4 (.both [(6, .both [(7, .done)])]))), (6, .both [(0, .take 3 (.take 4 (.both [(7, .done)])))])]), (6, .both [(0, .both [(2, .take 3 (.take 4 (.both [(7, .done)])))]), (2, .both [(0, .take 3 (.take 4 (.both [(7, .done)])))])])]))) (by kernel_rfl) (by kernel_rfl) ?_ ?_
  · refine zc ?_;try exact trivial
    repeat' (with_reducible apply And.intro)
    all_goals (
      refine a_call [] (hows_h) ok0 ?_ ?_ ?_
      · refine zs ?_;try exact trivial
      · refine zs ?_;try exact trivial
      rintro _ _ ⟨rfl, rfl⟩
      refine zc ?_;try exact trivial
      refine a_call [.arg 0] (hd) (ok1 rfl) ?_ ?_ ?_
      · refine zs ?_;try exact trivial
      · refine zs ?_;try exact trivial
      rintro _ _ ⟨rfl, rfl⟩
      (refine zc ?_; try exact trivial))
  refine zc ?_;try exact trivial
  refine a_drawC (⟨[U, U, U, U, U, U, U, U, U, U, U, U, U, U, U, U, U, U, U, U, U, U, U, U, U, U, U, U, U, .undef], [(.arg 0, ctB (.arg 0) (c'.add ⟨5, player, other, frame, inp, n⟩))]⟩) (.take 0 (.take 1 (.take 2 (.take 3 (.both [(4, .both [(5, .both [(6, .both [(7, .take 8 (.take 9 (.both [(10, .done)])))])])]), (5, .both [(4, .both [(6, .both [(7, .take 8 (.take 9 (.both [(10, .done)])))])]), (6, .both [(4, .both [(7, .take 8 (.take 9 (.both [(10, .done)])))])])])]))))) (by kernel_rfl) (by kernel_rfl) ?_ ?_
  · refine zc ?_;try exact trivial
    repeat' (with_reducible apply And.intro)
    all_goals first | omega | exact leCs_refl _
  refine zc ?_;try exact trivial
end
section
@[go_sem] theorem l_no1 {sz : Nat} (h : 0 < sz) : leC (.lst .no none sz []) (.lst .full (some true) 1 []) = True := eq_true (by simp [leC, h])
end
section
/-- two players in a match that goes on, frame by frame -/
structure Go18 (code : List (Int × Int)) (cap fuel p0 p1 : Int) (i0 i1 : List UInt16) (ps : List (UInt16 × UInt16)) (st : Sta) (k : Nat) (c : Ct) : Prop where
  code : c.code = code
  cap : c.cap = cap
  fuel : c.fuel = fuel
  p0 : c.p0 = p0
  p1 : c.p1 = p1
  opn : c.opn = true
  over : c.over = false
  in0 : c.in0 = i0
  in1 : c.in1 = i1
  pairs : c.pairs = ps
  st : c.st = st
  ev : c.events.length = k
  l0 : c.l0 = 0
  l1 : c.l1 = 0
section
variable {code : List (Int × Int)} {cap fuel p0 p1 : Int} {i0 i1 : List UInt16} {ps : List (UInt16 × UInt16)} {st : Sta} {k : Nat} {c : Ct}
theorem Go18.seat0 (h : Go18 code cap fuel p0 p1 i0 i1 ps st k c) : seatP c p0 = 0 := by unfold seatP; rw [if_pos h.p0]
theorem Go18.seat1 (h : Go18 code cap fuel p0 p1 i0 i1 ps st k c) (hne : p0 ≠ p1) : seatP c p1 = 1 := by unfold seatP; rw [if_neg (by rw [h.p0]; exact hne), if_pos h.p1]
theorem may_in (c : Ct) (p f : Int) (x : UInt16) : mayP18 c ⟨3, p, 0, f, x, 0⟩ = mayInputP c ⟨3, p, 0, f, x, 0⟩ := by
  unfold mayP18 may1P bareB; simp
/-- the first player does something -/
theorem Go18.in_0 (h : Go18 code cap fuel p0 p1 i0 i1 ps st k c) (x : UInt16) (ev : Ev) (he : ev.player = p0) (hx : ev.inp = x) :
    Go18 code cap fuel p0 p1 (i0 ++ [x]) i1 (cuP code cap fuel (i0 ++ [x]) i1 (min (i0 ++ [x]).length i1.length - ps.length) ps st).1 (cuP code cap fuel (i0 ++ [x]) i1 (min (i0 ++ [x]).length i1.length - ps.length) ps st).2 (k + 1) ((inputP c ev).add ev) := by
  have hs : seatP c ev.player = 0 := by rw [he]; exact h.seat0
  have e0 : inputP0 c ev = { c with in0 := c.in0 ++ [ev.inp] } := by unfold inputP0; rw [if_pos hs]
  have e1 : inputP c ev = goP { c with in0 := c.in0 ++ [ev.inp] } := by unfold inputP; rw [e0]
  rw [e1]
  obtain ⟨h1, h2, h3, h4, h5, h6, h7, h8, h9, h10, h11, h12, h13, h14⟩ := h
  subst hx
  refine ⟨h1, h2, h3, h4, h5, h6, h7, ?_, h9, ?_, ?_, ?_, h13, h14⟩
  · show c.in0 ++ [ev.inp] = _; rw [h8]
  · unfold goP Ct.add; simp only [h1, h2, h3, h8, h9, h10, h11]
  · unfold goP Ct.add; simp only [h1, h2, h3, h8, h9, h10, h11]
  show (c.events ++ [ev]).length = _; rw [List.length_append, h12]; rfl
theorem Go18.in_1 (h : Go18 code cap fuel p0 p1 i0 i1 ps st k c) (hne : p0 ≠ p1) (x : UInt16) (ev : Ev) (he : ev.player = p1) (hx : ev.inp = x) :
    Go18 code cap fuel p0 p1 i0 (i1 ++ [x]) (cuP code cap fuel i0 (i1 ++ [x]) (min i0.length (i1 ++ [x]).length - ps.length) ps st).1 (cuP code cap fuel i0 (i1 ++ [x]) (min i0.length (i1 ++ [x]).length - ps.length) ps st).2 (k + 1) ((inputP c ev).add ev) := by
  have hs : seatP c ev.player = 1 := by rw [he]; exact h.seat1 hne
  have e0 : inputP0 c ev = { c with in1 := c.in1 ++ [ev.inp] } := by unfold inputP0; rw [if_neg (by omega)]
  have e1 : inputP c ev = goP { c with in1 := c.in1 ++ [ev.inp] } := by unfold inputP; rw [e0]
  rw [e1]
  obtain ⟨h1, h2, h3, h4, h5, h6, h7, h8, h9, h10, h11, h12, h13, h14⟩ := h
  subst hx
  refine ⟨h1, h2, h3, h4, h5, h6, h7, h8, ?_, ?_, ?_, ?_, h13, h14⟩
  · show c.in1 ++ [ev.inp] = _; rw [h9]
  · unfold goP Ct.add; simp only [h1, h2, h3, h8, h9, h10, h11]
  · unfold goP Ct.add; simp only [h1, h2, h3, h8, h9, h10, h11]
  show (c.events ++ [ev]).length = _; rw [List.length_append, h12]; rfl
/-- .. taken by Apply -/
theorem Go18.apply_in (h : Go18 code cap fuel p0 p1 i0 i1 ps st k c) (hg : gameP code cap fuel = 0) (hB : ∀ x ∈ st.cells, B32 x) (l0 : i0.length ≤ 1000) (l1 : i1.length ≤ 1000) (lp : ps.length ≤ 1000) (lk : k ≤ 100000) (p f : Int) (x : UInt16) (hm : mayP18 c ⟨3, p, 0, f, x, 0⟩ = 0) (hs : 0 ≤ seatP c p) :
    Holds Tryz.prog 40 [.ptr (.arg 0) 0, .ev ⟨3, p, 0, f, x, 0⟩] [(.arg 0, ctB (.arg 0) c)] (fun r h' => r = .int .i64 0 ∧ h' = [(.arg 0, ctB (.arg 0) ((inputP c ⟨3, p, 0, f, x, 0⟩).add ⟨3, p, 0, f, x, 0⟩))]) := by
  have m0 : c.in0.length ≤ 1000000 := by rw [h.in0]; omega
  have m1 : c.in1.length ≤ 1000000 := by rw [h.in1]; omega
  refine applyY3_h c (inputP c ⟨3, p, 0, f, x, 0⟩) p 0 f 0 x m0 m1 hm ?_ (input_h c ⟨3, p, 0, f, x, 0⟩ m0 m1 (by rw [h.pairs]; omega) hs (by rw [h.code, h.cap, h.fuel]; exact hg) (by rw [h.st]; exact hB))
  have e : (inputP c ⟨3, p, 0, f, x, 0⟩).events = c.events := by unfold inputP goP inputP0; split <;> rfl
  rw [e, h.ev]; omega
theorem cu0 {a b : List UInt16} : cuP code cap fuel a b 0 ps st = (ps, st) := rfl
theorem cu1 {a b : List UInt16} (ho : st.over = false) (hl : ps.length < min a.length b.length) : cuP code cap fuel a b 1 ps st = (ps ++ [(a.getD ps.length 0, b.getD ps.length 0)], (stepP code cap fuel st (a.getD ps.length 0) (b.getD ps.length 0)).1) := by
  unfold cuP; rw [if_pos ⟨ho, hl⟩]; rfl
/-- both did their frame -/
theorem Go18.both (h : Go18 code cap fuel p0 p1 i0 i1 ps st k c) (hne : p0 ≠ p1) (hl : i0.length = ps.length) (hl1 : i1.length = ps.length) (ho : st.over = false) (x y : UInt16) (f : Int) :
    Go18 code cap fuel p0 p1 (i0 ++ [x]) i1 ps st (k + 1) ((inputP c ⟨3, p0, 0, f, x, 0⟩).add ⟨3, p0, 0, f, x, 0⟩) ∧
    Go18 code cap fuel p0 p1 (i0 ++ [x]) (i1 ++ [y]) (ps ++ [(x, y)]) (stepP code cap fuel st x y).1 (k + 2) ((inputP ((inputP c ⟨3, p0, 0, f, x, 0⟩).add ⟨3, p0, 0, f, x, 0⟩) ⟨3, p1, 0, f, y, 0⟩).add ⟨3, p1, 0, f, y, 0⟩) := by
  have a := h.in_0 x ⟨3, p0, 0, f, x, 0⟩ rfl rfl
  rw [show min (i0 ++ [x]).length i1.length - ps.length = 0 by simp; omega, cu0] at a
  have b := a.in_1 hne y ⟨3, p1, 0, f, y, 0⟩ rfl rfl
  rw [show min (i0 ++ [x]).length (i1 ++ [y]).length - ps.length = 1 by simp; omega, cu1 ho (by simp; omega)] at b
  have e1 : (i0 ++ [x]).getD ps.length 0 = x := by rw [← hl]; simp
  have e2 : (i1 ++ [y]).getD ps.length 0 = y := by rw [← hl1]; simp
  rw [e1, e2] at b
  exact ⟨a, b⟩
end
end
section
/-- the plain fold of the game over pairs of inputs -/
def foS (code : List (Int × Int)) (cap fuel : Int) (s : Sta) (f : Nat → UInt16 × UInt16) : Nat → Sta
  | 0 => s
  | n + 1 => (stepP code cap fuel (foS code cap fuel s f n) (f n).1 (f n).2).1
section
variable {code : List (Int × Int)} {cap fuel : Int} {s : Sta} {f g : Nat → UInt16 × UInt16}
theorem foS_congr : ∀ {n : Nat}, (∀ j, j < n → f j = g j) → foS code cap fuel s f n = foS code cap fuel s g n
  | 0, _ => rfl
  | n + 1, h => by
    show (stepP code cap fuel (foS code cap fuel s f n) (f n).1 (f n).2).1 = _
    rw [foS_congr fun j hj => h j (by omega), h n (by omega)]; rfl
theorem foS_B (hB : ∀ x ∈ s.cells, B32 x) : ∀ n, ∀ x ∈ (foS code cap fuel s f n).cells, B32 x
  | 0 => hB
  | n + 1 => step_B32 _ _ _ _ _ _ (foS_B hB n)
end
theorem start_B (seed : UInt32) : ∀ x ∈ (startS seed).cells, B32 x := fun x hx => by
  have : x = 0 := List.eq_of_mem_replicate hx
  rw [this]; exact B32_0
def pz (a b : List UInt16) (j : Nat) : UInt16 × UInt16 := (a.getD j 0, b.getD j 0)
def pzs (a b : List UInt16) (m : Nat) : List (UInt16 × UInt16) := (List.range m).map (pz a b)
theorem pzs_len {a b : List UInt16} {m : Nat} : (pzs a b m).length = m := by simp [pzs]
theorem pzs_succ {a b : List UInt16} {m : Nat} : pzs a b (m + 1) = pzs a b m ++ [pz a b m] := by simp [pzs, List.range_succ]
theorem take_succ' {a : List UInt16} {i : Nat} (h : i < a.length) : a.take (i + 1) = a.take i ++ [a.getD i 0] := by
  rw [List.take_add_one, List.getElem?_eq_getElem h, List.getD_eq_getElem?_getD, List.getElem?_eq_getElem h]; rfl
theorem getD_take' {a : List UInt16} {i j : Nat} (h : j < i) : (a.take i).getD j 0 = a.getD j 0 := by
  rw [List.getD_eq_getElem?_getD, List.getElem?_take_of_lt h, List.getD_eq_getElem?_getD]
/-- two players in a match that goes on, whoever tells first -/
structure Fold18 (code : List (Int × Int)) (cap fuel : Int) (seed : UInt32) (a b : List UInt16) (i k : Nat) (c : Ct) : Prop where
  go : Go18 code cap fuel 5 4 (a.take i) (b.take k) (pzs a b (min i k)) (foS code cap fuel (startS seed) (pz a b) (min i k)) (i + k + 1) c
  no : ∀ j, j < min i k → (foS code cap fuel (startS seed) (pz a b) j).over = false
  ia : i ≤ a.length
  kb : k ≤ b.length
  far : i ≤ k + 8 ∧ k ≤ i + 8
section
variable {code : List (Int × Int)} {cap fuel : Int} {seed : UInt32} {a b : List UInt16} {i k : Nat} {c : Ct}
theorem Fold18.m0 (h : Fold18 code cap fuel seed a b i k c) (hi : i < a.length) (hm : mayP18 c ⟨3, 5, 0, (i : Int), a.getD i 0, 0⟩ = 0) :
    (foS code cap fuel (startS seed) (pz a b) (min i k)).over = false ∧ i < k + 8 := by
  rw [may_in] at hm
  unfold mayInputP at hm
  simp only at hm
  have hact : actP c 5 = 0 := by
    by_cases q : actP c 5 = 0
    · exact q
    rw [if_pos q] at hm; exact hm
  have ho : (foS code cap fuel (startS seed) (pz a b) (min i k)).over = false := by
    rw [← h.go.st]
    cases q : c.st.over
    · rfl
    unfold actP at hact
    rw [h.go.opn, h.go.over, q, if_neg (by simp), if_pos (by simp)] at hact
    cases hact
  refine ⟨ho, ?_⟩
  have li : (a.take i).length = i := by rw [List.length_take]; omega
  have lk : (b.take k).length = k := by rw [List.length_take]; have := h.kb; omega
  rw [if_neg (by omega), h.go.seat0, if_pos rfl, h.go.in0, h.go.in1] at hm
  unfold winP at hm
  simp only [li, lk] at hm
  split at hm
  · cases hm
  split at hm
  · cases hm
  split at hm
  · cases hm
  split at hm
  · cases hm
  omega
theorem Fold18.m1 (h : Fold18 code cap fuel seed a b i k c) (hk : k < b.length) (hm : mayP18 c ⟨3, 4, 0, (k : Int), b.getD k 0, 0⟩ = 0) :
    (foS code cap fuel (startS seed) (pz a b) (min i k)).over = false ∧ k < i + 8 := by
  rw [may_in] at hm
  unfold mayInputP at hm
  simp only at hm
  have hact : actP c 4 = 0 := by
    by_cases q : actP c 4 = 0
    · exact q
    rw [if_pos q] at hm; exact hm
  have ho : (foS code cap fuel (startS seed) (pz a b) (min i k)).over = false := by
    rw [← h.go.st]
    cases q : c.st.over
    · rfl
    unfold actP at hact
    rw [h.go.opn, h.go.over, q, if_neg (by simp), if_pos (by simp)] at hact
    cases hact
  refine ⟨ho, ?_⟩
  have li : (a.take i).length = i := by rw [List.length_take]; have := h.ia; omega
  have lk : (b.take k).length = k := by rw [List.length_take]; omega
  rw [if_neg (by omega), h.go.seat1 (by omega), if_neg (by omega), h.go.in0, h.go.in1] at hm
  unfold winP at hm
  simp only [li, lk] at hm
  split at hm
  · cases hm
  split at hm
  · cases hm
  split at hm
  · cases hm
  split at hm
  · cases hm
  omega
theorem Fold18.in0 (h : Fold18 code cap fuel seed a b i k c) (hi : i < a.length) (hm : mayP18 c ⟨3, 5, 0, (i : Int), a.getD i 0, 0⟩ = 0) :
    Fold18 code cap fuel seed a b (i + 1) k ((inputP c ⟨3, 5, 0, (i : Int), a.getD i 0, 0⟩).add ⟨3, 5, 0, (i : Int), a.getD i 0, 0⟩) := by
  obtain ⟨ho, hf⟩ := h.m0 hi hm
  have g := h.go.in_0 (a.getD i 0) ⟨3, 5, 0, (i : Int), a.getD i 0, 0⟩ rfl rfl
  have kb := h.kb
  rw [← take_succ' hi, pzs_len] at g
  have li : (a.take (i + 1)).length = i + 1 := by rw [List.length_take]; omega
  have lk : (b.take k).length = k := by rw [List.length_take]; omega
  rw [li, lk] at g
  refine ⟨?_, ?_, hi, kb, ⟨by omega, by have := h.far; omega⟩⟩
  · by_cases q : i < k
    · rw [show min (i + 1) k - min i k = 1 by omega, cu1 ho (by rw [pzs_len, li, lk]; omega), pzs_len, show min i k = i by omega, getD_take' (by omega), getD_take' (by omega)] at g
      rw [show min (i + 1) k = i + 1 by omega, pzs_succ, show i + 1 + k + 1 = i + k + 1 + 1 by omega]
      exact g
    rw [show min (i + 1) k - min i k = 0 by omega, cu0] at g
    rw [show min (i + 1) k = min i k by omega, show i + 1 + k + 1 = i + k + 1 + 1 by omega]
    exact g
  intro j hj
  by_cases q : j < min i k
  · exact h.no j q
  rw [show j = min i k by omega]; exact ho
theorem Fold18.in1 (h : Fold18 code cap fuel seed a b i k c) (hk : k < b.length) (hm : mayP18 c ⟨3, 4, 0, (k : Int), b.getD k 0, 0⟩ = 0) :
    Fold18 code cap fuel seed a b i (k + 1) ((inputP c ⟨3, 4, 0, (k : Int), b.getD k 0, 0⟩).add ⟨3, 4, 0, (k : Int), b.getD k 0, 0⟩) := by
  obtain ⟨ho, hf⟩ := h.m1 hk hm
  have g := h.go.in_1 (by omega) (b.getD k 0) ⟨3, 4, 0, (k : Int), b.getD k 0, 0⟩ rfl rfl
  have ia := h.ia
  rw [← take_succ' hk, pzs_len] at g
  have li : (a.take i).length = i := by rw [List.length_take]; omega
  have lk : (b.take (k + 1)).length = k + 1 := by rw [List.length_take]; omega
  rw [li, lk] at g
  refine ⟨?_, ?_, ia, hk, ⟨by have := h.far; omega, by omega⟩⟩
  · by_cases q : k < i
    · rw [show min i (k + 1) - min i k = 1 by omega, cu1 ho (by rw [pzs_len, li, lk]; omega), pzs_len, show min i k = k by omega, getD_take' (by omega), getD_take' (by omega)] at g
      rw [show min i (k + 1) = k + 1 by omega, pzs_succ, show i + (k + 1) + 1 = i + k + 1 + 1 by omega]
      exact g
    rw [show min i (k + 1) - min i k = 0 by omega, cu0] at g
    rw [show min i (k + 1) = min i k by omega, show i + (k + 1) + 1 = i + k + 1 + 1 by omega]
    exact g
  intro j hj
  by_cases q : j < min i k
  · exact h.no j q
  rw [show j = min i k by omega]; exact ho
theorem Fold18.y0 (h : Fold18 code cap fuel seed a b i k c) (hg : gameP code cap fuel = 0) (ha : a.length ≤ 60) (hb : b.length ≤ 60) (hi : i < a.length) (hm : mayP18 c ⟨3, 5, 0, (i : Int), a.getD i 0, 0⟩ = 0) :
    Holds Tryz.prog 40 [.ptr (.arg 0) 0, .ev ⟨3, 5, 0, (i : Int), a.getD i 0, 0⟩] [(.arg 0, ctB (.arg 0) c)] (fun r h' => r = .int .i64 0 ∧ h' = [(.arg 0, ctB (.arg 0) ((inputP c ⟨3, 5, 0, (i : Int), a.getD i 0, 0⟩).add ⟨3, 5, 0, (i : Int), a.getD i 0, 0⟩))]) := by
  have := h.ia
  have := h.kb
  exact h.go.apply_in hg (foS_B (start_B _) _) (by rw [List.length_take]; omega) (by rw [List.length_take]; omega) (by rw [pzs_len]; omega) (by omega) 5 i _ hm (by rw [h.go.seat0]; omega)
theorem Fold18.y1 (h : Fold18 code cap fuel seed a b i k c) (hg : gameP code cap fuel = 0) (ha : a.length ≤ 60) (hb : b.length ≤ 60) (hk : k < b.length) (hm : mayP18 c ⟨3, 4, 0, (k : Int), b.getD k 0, 0⟩ = 0) :
    Holds Tryz.prog 40 [.ptr (.arg 0) 0, .ev ⟨3, 4, 0, (k : Int), b.getD k 0, 0⟩] [(.arg 0, ctB (.arg 0) c)] (fun r h' => r = .int .i64 0 ∧ h' = [(.arg 0, ctB (.arg 0) ((inputP c ⟨3, 4, 0, (k : Int), b.getD k 0, 0⟩).add ⟨3, 4, 0, (k : Int), b.getD k 0, 0⟩))]) := by
  have := h.ia
  have := h.kb
  exact h.go.apply_in hg (foS_B (start_B _) _) (by rw [List.length_take]; omega) (by rw [List.length_take]; omega) (by rw [pzs_len]; omega) (by omega) 4 k _ hm (by rw [h.go.seat1 (by omega)]; omega)
theorem Fold18.n0 (h : Fold18 code cap fuel seed a b i k c) (ha : a.length ≤ 60) (hb : b.length ≤ 60) (hm : mayP18 c ⟨3, 5, 0, (i : Int), a.getD i 0, 0⟩ ≠ 0) :
    Holds Tryz.prog 40 [.ptr (.arg 0) 0, .ev ⟨3, 5, 0, (i : Int), a.getD i 0, 0⟩] [(.arg 0, ctB (.arg 0) c)] (fun r h' => r = .int .i64 (mayP18 c ⟨3, 5, 0, (i : Int), a.getD i 0, 0⟩) ∧ h' = [(.arg 0, ctB (.arg 0) c)]) :=
  applyN3_h c 5 0 i 0 _ (by rw [h.go.in0, List.length_take]; omega) (by rw [h.go.in1, List.length_take]; omega) hm
theorem Fold18.n1 (h : Fold18 code cap fuel seed a b i k c) (ha : a.length ≤ 60) (hb : b.length ≤ 60) (hm : mayP18 c ⟨3, 4, 0, (k : Int), b.getD k 0, 0⟩ ≠ 0) :
    Holds Tryz.prog 40 [.ptr (.arg 0) 0, .ev ⟨3, 4, 0, (k : Int), b.getD k 0, 0⟩] [(.arg 0, ctB (.arg 0) c)] (fun r h' => r = .int .i64 (mayP18 c ⟨3, 4, 0, (k : Int), b.getD k 0, 0⟩) ∧ h' = [(.arg 0, ctB (.arg 0) c)]) :=
  applyN3_h c 4 0 k 0 _ (by rw [h.go.in0, List.length_take]; omega) (by rw [h.go.in1, List.length_take]; omega) hm
end
end
section
def gp (ps : List (UInt16 × UInt16)) (j : Nat) : UInt16 × UInt16 := ps.getD j (0, 0)
def foL (code : List (Int × Int)) (cap fuel : Int) (s : Sta) (f : Nat → UInt16 × UInt16) (n : Nat) : List Sta := (List.range (n + 1)).map (foS code cap fuel s f)
theorem foL_succ {code : List (Int × Int)} {cap fuel : Int} {s : Sta} {f : Nat → UInt16 × UInt16} {n : Nat} : foL code cap fuel s f (n + 1) = foL code cap fuel s f n ++ [foS code cap fuel s f (n + 1)] := by
  unfold foL; rw [List.range_succ (n := n + 1), List.map_append]; rfl
theorem foL_len {code : List (Int × Int)} {cap fuel : Int} {s : Sta} {f : Nat → UInt16 × UInt16} {n : Nat} : (foL code cap fuel s f n).length = n + 1 := by simp [foL]
theorem foL_last {code : List (Int × Int)} {cap fuel : Int} {s : Sta} {f : Nat → UInt16 × UInt16} {n : Nat} {d : Sta} : (foL code cap fuel s f n).getD n d = foS code cap fuel s f n := by
  unfold foL; rw [List.getD_eq_getElem?_getD]; simp
theorem prs_drop (l : List (UInt16 × UInt16)) (k : Nat) : (prs l).drop (k * 2) = prs (l.drop k) := by
  induction l generalizing k with
  | nil => simp [prs]
  | cons s l ih =>
    cases k with
    | zero => simp [prs]
    | succ k =>
      have e : prs (s :: l) = prD s ++ prs l := by simp [prs]
      have e2 : (prD s).length = 2 := rfl
      rw [e, List.drop_succ_cons, List.drop_append, e2, List.drop_eq_nil_of_le (by rw [e2]; omega), show (k + 1) * 2 - 2 = k * 2 by omega, ih]; rfl
theorem prs_at {l : List (UInt16 × UInt16)} {k : Nat} (h : k < l.length) : (prs l).drop (k * 2) = prD (gp l k) ++ prs (l.drop (k + 1)) := by
  have e : gp l k = l[k] := by simp [gp, List.getD, h]
  rw [prs_drop, List.drop_eq_getElem_cons h, e]
  rfl
@[go_sem ↓ 1200] theorem e_IAs2 {V' : V → Prop} {l : List Sta} {o : Own} {nl : Option Bool} {a : Int} {t : TypeId} (h0 : 0 ≤ a) (h1 : a < l.length) : aIA (some (none, t, 20)) (.cell (.lst o nl 20 (sds l))) a V' = V' (.cell (.mem (sd (l.getD a.toNat (stz 0 0)) ++ sds (l.drop (a.toNat + 1))))) := e_IAs (d := stz 0 0) h0 h1
/-- who owns the row of states -/
def tgS : Nat → Tag
  | 0 => .made [20]
  | _ + 1 => .slot [45]
@[go_sem ↓ 1200] theorem e_IApr {V' : V → Prop} {l : List (UInt16 × UInt16)} {o : Own} {nl : Option Bool} {a : Int} {t : TypeId} (h0 : 0 ≤ a) (h1 : a < l.length) : aIA (some (none, t, 2)) (.cell (.lst o nl 2 (prs l))) a V' = V' (.cell (.mem (.val (.int .u16 (U16 (gp l a.toNat).1)) :: .val (.int .u16 (U16 (gp l a.toNat).2)) :: prs (l.drop (a.toNat + 1))))) := by
  have h2 : a.toNat < l.length := by omega
  have e : (.val (.int .u16 (U16 (gp l a.toNat).1)) :: .val (.int .u16 (U16 (gp l a.toNat).2)) :: prs (l.drop (a.toNat + 1)) : List D) = prD (gp l a.toNat) ++ prs (l.drop (a.toNat + 1)) := rfl
  rw [e, ← prs_at h2]
  simp only [aIA, prs_len, h0, true_and]
  have : a * ((2 : Nat) : Int) < ((l.length * 2 : Nat) : Int) := by omega
  simp only [this, true_and]
set_option maxRecDepth 20000 in
set_option maxHeartbeats 16000000 in
theorem rstates_h (code : List (Int × Int)) (cap fuel : Int) (seed : UInt32) (ps : List (UInt16 × UInt16)) (hcl : code.length ≤ 9223372036854775807) (hg : gameP code cap fuel = 0) (hl : ps.length ≤ 1000000)
    (no : ∀ j, j < ps.length → (foS code cap fuel (startS seed) (gp ps) j).over = false) :
    Holds Tryz.prog 48 [.game code cap fuel, .c (.val (.int .u32 (U32 seed))), .c (.lst .no none 2 (prs ps))] [] (fun r h' => r = .tup [.c (.lst .no none 20 (sds (foL code cap fuel (startS seed) (gp ps) ps.length))), .int .i64 0] ∧ h' = []) := by
  have hgc := rcheck10_h code cap fuel hcl
  rw [hg] at hgc
  have hst := rstart_h seed
  refine holds_of_awp Tryz.func48 rfl (by decide +kernel) mixed Tryz.ntmps48 Tryz.results48 ?_
  refine zE ?_
  refine zc ?_;try exact trivial
  refine a_call [] (hgc) ok0 ?_ ?_ ?_
  · refine zs ?_;try exact trivial
  · refine zs ?_;try exact trivial
  rintro _ _ ⟨rfl, rfl⟩
  refine zc ?_;try exact trivial
  refine a_call [] (hst) ok0 ?_ ?_ ?_
  · refine zs ?_;try exact trivial
  · refine zs ?_;try exact trivial
  rintro _ _ ⟨rfl, rfl⟩
  refine zc ?_;try exact trivial
  refine a_loopk (fun i : Nat => ⟨[.undef, .w (.c (.val (.int .u32 (U32 seed)))), V.cell (.lst .no none 2 (prs ps)), V.cell (.ptr (.loc [3]) 0), .undef, .undef, V.cell (.lst .full (some true) 1 []), V.int .i64 0, .undef, V.cell (.ptr (.loc [9]) 0), V.cell (.lst (.tag (tgS i)) none 20 (sds (foL code cap fuel (startS seed) (gp ps) i))), V.int .i64 (i : Int), U, U, U, U, U, U, U, U, U, U, U, U, U, U, U, U, U, U, U, U, U, U, U, U, U, U, U, U, U, U, U, U, U, U, .undef], [(.loc [9], (sd (foS code cap fuel (startS seed) (gp ps) i)).map D.toC), (.loc [3], [.lst .no none 2 (ins code), .val (.int .i64 cap), .val (.int .i64 fuel)])]⟩) (fun i => i ≤ ps.length) (fun i => ps.length - i) 0 (by omega) ?_ ?_
  · have e : sds (foL code cap fuel (startS seed) (gp ps) 0) = sd (startS seed) := by simp [foL, sds, foS]
    have e2 : foS code cap fuel (startS seed) (gp ps) 0 = startS seed := rfl
    rw [e, e2]
    simp only [tgS]
    refine zs ?_;try exact trivial
  intro i hi
  cases i with
  | zero =>
    rw [show tgS (0) = .made [20] from rfl]
    refine zs ?_;try exact trivial
    cases g : decide ((0 : Int) < (ps.length : Int))
    · have e : ps.length = 0 := by have := of_decide_eq_false g; omega
      rw [e]
      simp (maxSteps:=2000000) (disch:=omega) only [go_sem,Nat.reduceAdd,Nat.reduceSub,Nat.reduceMul,Nat.reduceBEq,Nat.reduceEqDiff,Nat.reduceLT,Nat.reduceLeDiff,Nat.reduceDiv,reduceIte,reduceCtorEq, g]
    have g' := of_decide_eq_true g
    have ho := no (0) (by omega)
    have hlt : 0 < ps.length := by omega
    have hB : ∀ x ∈ (foS code cap fuel (startS seed) (gp ps) (0)).cells, B32 x := foS_B (start_B seed) _
    simp (maxSteps:=2000000) (disch:=omega) only [go_sem,Nat.reduceAdd,Nat.reduceSub,Nat.reduceMul,Nat.reduceBEq,Nat.reduceEqDiff,Nat.reduceLT,Nat.reduceLeDiff,Nat.reduceDiv,reduceIte,reduceCtorEq, g, ho, Bool.not_false]
    refine a_drawC (⟨[.undef, .w (.c (.val (.int .u32 (U32 seed)))), V.cell (.lst .no none 2 (prs ps)), V.cell (.ptr (.loc [3]) 0), .undef, .undef, V.cell (.lst .full (some true) 1 []), V.int .i64 0, .undef, V.cell (.ptr (.loc [9]) 0), V.cell (.lst (.tag (.made [20])) none 20 (sds (foL code cap fuel (startS seed) (gp ps) (0)))), V.int .i64 ((0 : Int)), U, U, U, U, U, U, U, U, U, U, U, U, U, U, U, U, U, U, U, U, U, U, U, U, U, U, U, U, U, U, U, U, U, U, .undef], [(.loc [9], (sd ((stepP code cap fuel (foS code cap fuel (startS seed) (gp ps) (0)) (gp ps (0)).1 (gp ps (0)).2).1)).map D.toC), (.loc [3], [.lst .no none 2 (ins code), .val (.int .i64 cap), .val (.int .i64 fuel)])]⟩) (.take 2 (.take 3 (.take 4 (.both [(0, .both [(1, .both [(5, .both [(6, .take 7 (.take 8 (.take 9 (.both [(10, .done)]))))])]), (5, .both [(1, .both [(6, .take 7 (.take 8 (.take 9 (.both [(10, .done)]))))])])]), (1, .both [(0, .both [(5, .both [(6, .take 7 (.take 8 (.take 9 (.both [(10, .done)]))))])]), (5, .both [(0, .both [(6, .take 7 (.take 8 (.take 9 (.both [(10, .done)]))))])])]), (5, .both [(0, .both [(1, .both [(6, .take 7 (.take 8 (.take 9 (.both [(10, .done)]))))])]), (1, .both [(0, .both [(6, .take 7 (.take 8 (.take 9 (.both [(10, .done)]))))])])])])))) (by kernel_rfl) (by kernel_rfl) ?_ ?_
    · refine zc ?_;try exact trivial
      have hstep := rstep_h code cap fuel (foS code cap fuel (startS seed) (gp ps) (0)) (gp ps (0)).1 (gp ps (0)).2 hcl hB
      refine a_call [] hstep ok0 ?_ ?_ ?_
      · refine zs ?_;try exact trivial
        all_goals (rw [show ((0 : Int)).toNat = 0 by omega]; exact ⟨rfl, rfl⟩)
      · refine zs ?_;try exact trivial
      rintro _ _ ⟨rfl, rfl⟩
      refine zc ?_;try exact trivial
      all_goals exact leCs_refl _
    refine zc ?_;try exact trivial
    refine ⟨by rw [foL_len]; omega, 0 + 1, by omega, by omega, ?_⟩
    rw [show tgS (0 + 1) = .slot [45] from rfl]
    rw [foL_succ]
    try (refine zc ?_; try exact trivial)
    all_goals exact ⟨rfl, leCs_refl _⟩
  | succ i =>
    rw [show tgS (i + 1) = .slot [45] from rfl]
    refine zs ?_;try exact trivial
    cases g : decide ((i : Int) + 1 < (ps.length : Int))
    · have e : ps.length = i + 1 := by have := of_decide_eq_false g; omega
      rw [e]
      simp (maxSteps:=2000000) (disch:=omega) only [go_sem,Nat.reduceAdd,Nat.reduceSub,Nat.reduceMul,Nat.reduceBEq,Nat.reduceEqDiff,Nat.reduceLT,Nat.reduceLeDiff,Nat.reduceDiv,reduceIte,reduceCtorEq, g]
    have g' := of_decide_eq_true g
    have ho := no (i + 1) (by omega)
    have hlt : i + 1 < ps.length := by omega
    have hB : ∀ x ∈ (foS code cap fuel (startS seed) (gp ps) (i + 1)).cells, B32 x := foS_B (start_B seed) _
    simp (maxSteps:=2000000) (disch:=omega) only [go_sem,Nat.reduceAdd,Nat.reduceSub,Nat.reduceMul,Nat.reduceBEq,Nat.reduceEqDiff,Nat.reduceLT,Nat.reduceLeDiff,Nat.reduceDiv,reduceIte,reduceCtorEq, g, ho, Bool.not_false]
    refine a_drawC (⟨[.undef, .w (.c (.val (.int .u32 (U32 seed)))), V.cell (.lst .no none 2 (prs ps)), V.cell (.ptr (.loc [3]) 0), .undef, .undef, V.cell (.lst .full (some true) 1 []), V.int .i64 0, .undef, V.cell (.ptr (.loc [9]) 0), V.cell (.lst (.tag (.slot [45])) none 20 (sds (foL code cap fuel (startS seed) (gp ps) (i + 1)))), V.int .i64 ((i : Int) + 1), U, U, U, U, U, U, U, U, U, U, U, U, U, U, U, U, U, U, U, U, U, U, U, U, U, U, U, U, U, U, U, U, U, U, .undef], [(.loc [9], (sd ((stepP code cap fuel (foS code cap fuel (startS seed) (gp ps) (i + 1)) (gp ps (i + 1)).1 (gp ps (i + 1)).2).1)).map D.toC), (.loc [3], [.lst .no none 2 (ins code), .val (.int .i64 cap), .val (.int .i64 fuel)])]⟩) (.take 2 (.take 3 (.take 4 (.both [(0, .both [(1, .both [(5, .both [(6, .take 7 (.take 8 (.take 9 (.both [(10, .done)]))))])]), (5, .both [(1, .both [(6, .take 7 (.take 8 (.take 9 (.both [(10, .done)]))))])])]), (1, .both [(0, .both [(5, .both [(6, .take 7 (.take 8 (.take 9 (.both [(10, .done)]))))])]), (5, .both [(0, .both [(6, .take 7 (.take 8 (.take 9 (.both [(10, .done)]))))])])]), (5, .both [(0, .both [(1, .both [(6, .take 7 (.take 8 (.take 9 (.both [(10, .done)]))))])]), (1, .both [(0, .both [(6, .take 7 (.take 8 (.take 9 (.both [(10, .done)]))))])])])])))) (by kernel_rfl) (by kernel_rfl) ?_ ?_
    · refine zc ?_;try exact trivial
      have hstep := rstep_h code cap fuel (foS code cap fuel (startS seed) (gp ps) (i + 1)) (gp ps (i + 1)).1 (gp ps (i + 1)).2 hcl hB
      refine a_call [] hstep ok0 ?_ ?_ ?_
      · refine zs ?_;try exact trivial
        all_goals (rw [show ((i : Int) + 1).toNat = i + 1 by omega]; exact ⟨rfl, rfl⟩)
      · refine zs ?_;try exact trivial
      rintro _ _ ⟨rfl, rfl⟩
      refine zc ?_;try exact trivial
      all_goals exact leCs_refl _
    refine zc ?_;try exact trivial
    refine ⟨by rw [foL_len]; omega, i + 1 + 1, by omega, by omega, ?_⟩
    rw [show tgS (i + 1 + 1) = .slot [45] from rfl]
    rw [foL_succ]
    try (refine zc ?_; try exact trivial)
    all_goals exact ⟨rfl, leCs_refl _⟩
-- END ROUND
set_option maxRecDepth 20000 in
set_option maxHeartbeats 16000000 in
theorem rplay_h (code : List (Int × Int)) (cap fuel : Int) (seed : UInt32) (ps : List (UInt16 × UInt16)) (hcl : code.length ≤ 9223372036854775807) (hg : gameP code cap fuel = 0) (hl : ps.length ≤ 1000000)
    (no : ∀ j, j < ps.length → (foS code cap fuel (startS seed) (gp ps) j).over = false) :
    Holds Tryz.prog 31 [.game code cap fuel, .c (.val (.int .u32 (U32 seed))), .c (.lst .no none 2 (prs ps))] [] (fun r h' => r = .tup [.agg ((sd (foS code cap fuel (startS seed) (gp ps) ps.length)).map D.toC), .int .i64 0] ∧ h' = []) := by
  have hs := rstates_h code cap fuel seed ps hcl hg hl no
  have hL : (foL code cap fuel (startS seed) (gp ps) ps.length).length = ps.length + 1 := foL_len
  have hx : (foL code cap fuel (startS seed) (gp ps) ps.length).getD ps.length (stz 0 0) = foS code cap fuel (startS seed) (gp ps) ps.length := foL_last
  refine holds_of_awp Tryz.func31 rfl (by decide +kernel) mixed Tryz.ntmps31 Tryz.results31 ?_
  refine zE ?_
  generalize foL code cap fuel (startS seed) (gp ps) ps.length = L at hs hL hx
  refine zc ?_;try exact trivial
  refine a_call [] (hs) ok0 ?_ ?_ ?_
  · refine zs ?_;try exact trivial
  · refine zs ?_;try exact trivial
  rintro _ _ ⟨rfl, rfl⟩
  have hz : ((L.length : Int) - 1).toNat = ps.length := by omega
  simp (maxSteps:=2000000) (disch:=omega) only [go_sem,Nat.reduceAdd,Nat.reduceSub,Nat.reduceMul,Nat.reduceBEq,Nat.reduceEqDiff,Nat.reduceLT,Nat.reduceLeDiff,Nat.reduceDiv,reduceIte,reduceCtorEq, hz, hx]
  all_goals omega
end
section
/-- the winner is a seat, or none -/
structure okW (r : Rac) : Prop where
  won : r.won ≤ 2
  win : r.st.win = 0
theorem okW.push {r : Rac} (h : okW r) {x : Int} : okW (rpushM r x) := by
  unfold rpushM
  split <;> exact ⟨h.won, h.win⟩
theorem okW.pop {r : Rac} (h : okW r) : okW (rpopM r) := ⟨h.won, h.win⟩
theorem okW.do {n op arg : Int} {r : Rac} (h : okW r) (hm : mayP op arg n = true) : okW (rdoM op arg r) := by
  obtain ⟨ho, h1, h2, h16, h18, h20⟩ := mayP_arg hm
  have i : okW (incR r) := ⟨h.won, h.win⟩
  unfold rdoM
  split
  · exact ⟨h.won, h.win⟩
  rcases op_cases ho with rfl | rfl | rfl | rfl | rfl | rfl | rfl | rfl | rfl | rfl | rfl | rfl | rfl | rfl | rfl | rfl | rfl | rfl | rfl | rfl | rfl | rfl
  · exact i.push
  · exact i.push
  · exact ⟨h.won, h.win⟩
  · exact i.pop.pop.push
  · exact i.pop.pop.push
  · exact i.pop.pop.push
  · exact i.pop.pop.push
  · exact i.pop.pop.push
  · exact i.pop.pop.push
  · exact i.pop.pop.push
  · exact i.pop.pop.push
  · exact i.pop.push
  · exact i.pop.push.push
  · exact i.pop.pop.push.push
  · exact i.pop
  · exact i.push
  · exact i.push
  · exact ⟨h.won, h.win⟩
  · show okW (rzero (incR r) arg)
    unfold rzero
    split <;> exact ⟨h.won, h.win⟩
  · exact ⟨(h20 rfl).2, h.win⟩
  · exact okW.push (r := ⟨r.st.wSeed (mixS r.st.seed), r.i0, r.i1, r.sk, r.pc + 1, r.won, r.bad⟩) ⟨h.won, h.win⟩
  exact i
theorem okW.run {code : List (Int × Int)} (hc : (chkP code).2 = 0) : ∀ (f : Nat) (r : Rac), 0 ≤ r.pc → okR code.length r → okW r → okW (rrunM code f r)
  | 0, r, _, _, h => by
    unfold rrunM
    split <;> exact ⟨h.won, h.win⟩
  | f + 1, r, h0, ho, h => by
    unfold rrunM
    split
    · rename_i hp
      have hmay := chk_all hc (i := r.pc.toNat) (by omega)
      have hd := h.do hmay
      have hd2 := ho.do hp hmay
      split
      · exact okW.run hc f _ hd2.pc0 hd2 hd
      exact hd
    exact h
theorem step_win (code : List (Int × Int)) (cap fuel : Int) (s : Sta) (i0 i1 : UInt16) (hB : ∀ x ∈ s.cells, B32 x) : 0 ≤ (stepP code cap fuel s i0 i1).1.win ∧ (stepP code cap fuel s i0 i1).1.win ≤ 2 := by
  unfold stepP
  split
  · exact ⟨Int.le_refl _, by show (0 : Int) ≤ 2; omega⟩
  split
  · exact ⟨Int.le_refl _, by show (0 : Int) ≤ 2; omega⟩
  split
  · exact ⟨Int.le_refl _, by show (0 : Int) ≤ 2; omega⟩
  rename_i hg hi ho
  have hg' : gameP code cap fuel = 0 := Decidable.byContradiction hg
  obtain ⟨g1, g2, g3, g4, g5⟩ := gameP_spec hg'
  have hi' : isP s = true := by cases q : isP s; exact absurd (.inl q) hi; rfl
  have ho' : s.over = false := by cases q : s.over; rfl; exact absurd (.inl q) ho
  obtain ⟨s1, s2, s3, s4, s5⟩ := isP_spec hi'
  have hw : s.win = 0 := by rcases s5 with h | h; rw [ho'] at h; cases h; exact h
  show 0 ≤ (stepM code cap fuel.toNat s i0 i1).win ∧ (stepM code cap fuel.toNat s i0 i1).win ≤ 2
  rw [← step_eq g1 ho' hw (by have := fun h => ho (.inr h); omega)]
  have hr := okW.run g1 fuel.toNat (rac0 s i0 i1) (by show (0 : Int) ≤ 0; omega) ⟨by show (0 : Int) ≤ 0; omega, by show (0 : Int) ≤ _; omega, by show 0 ≤ 32; omega, fun x hx => (by cases hx), hB, s1, s2⟩ ⟨by show (-1 : Int) ≤ 2; omega, hw⟩
  unfold rstepM
  generalize rrunM code fuel.toNat (rac0 s i0 i1) = r at hr
  have hu : okW (undoR s r) := by
    unfold undoR
    split
    · exact ⟨by show (-1 : Int) ≤ 2; omega, hr.win⟩
    exact hr
  generalize undoR s r = u at hu
  unfold refE
  have w := hu.win
  have w2 := hu.won
  split
  · rename_i h; exact ⟨h, w2⟩
  split
  · split
    · exact ⟨by show (0 : Int) ≤ 2; omega, by show (2 : Int) ≤ 2; omega⟩
    split
    · exact ⟨by show (0 : Int) ≤ 1; omega, by show (1 : Int) ≤ 2; omega⟩
    exact ⟨by show (0 : Int) ≤ u.st.win; omega, by show u.st.win ≤ 2; omega⟩
  exact ⟨by show (0 : Int) ≤ u.st.win; omega, by show u.st.win ≤ 2; omega⟩
theorem foS_win {code : List (Int × Int)} {cap fuel : Int} {seed : UInt32} {f : Nat → UInt16 × UInt16} : ∀ n, 0 ≤ (foS code cap fuel (startS seed) f n).win ∧ (foS code cap fuel (startS seed) f n).win ≤ 2
  | 0 => ⟨Int.le_refl _, by show (0 : Int) ≤ 2; omega⟩
  | n + 1 => step_win _ _ _ _ _ _ (foS_B (start_B seed) n)
/-- what holds of a match -/
structure Inv18 (c : Ct) : Prop where
  g : gameP c.code c.cap c.fuel = 0
  st : c.st = foS c.code c.cap c.fuel (startS c.seed) (pz c.in0 c.in1) c.pairs.length
  pairs : c.pairs = pzs c.in0 c.in1 c.pairs.length
  no : ∀ j, j < c.pairs.length → (foS c.code c.cap c.fuel (startS c.seed) (pz c.in0 c.in1) j).over = false
  le : c.pairs.length ≤ min c.in0.length c.in1.length
  up : c.pairs.length = min c.in0.length c.in1.length ∨ c.st.over = true
  e0 : c.in0.length ≤ c.events.length
  e1 : c.in1.length ≤ c.events.length
  cl : c.opn = false → c.in0 = [] ∧ c.in1 = []
  l0 : 0 ≤ c.l0 ∧ c.l0 ≤ 100
  l1 : 0 ≤ c.l1 ∧ c.l1 ≤ 100
theorem Inv18.win {c : Ct} (h : Inv18 c) : 0 ≤ c.st.win ∧ c.st.win ≤ 2 := by rw [h.st]; exact foS_win _
theorem Inv18.B {c : Ct} (h : Inv18 c) : ∀ x ∈ c.st.cells, B32 x := by rw [h.st]; exact foS_B (start_B _) _
theorem inv_new {code : List (Int × Int)} {cap fuel : Int} (hg : gameP code cap fuel = 0) : Inv18 (ctNew code cap fuel) :=
  ⟨hg, rfl, rfl, fun j h => absurd h (Nat.not_lt_zero _), Nat.le_refl _, .inl rfl, Nat.le_refl _, Nat.le_refl _, fun _ => ⟨rfl, rfl⟩, by show (0 : Int) ≤ 0 ∧ (0 : Int) ≤ 100; omega, by show (0 : Int) ≤ 0 ∧ (0 : Int) ≤ 100; omega⟩
theorem Inv18.open {c : Ct} (h : Inv18 c) (ho : c.opn = false) (e : Ev) : Inv18 ((openP c e).add e) := by
  obtain ⟨i0, i1⟩ := h.cl ho
  have hl := h.le
  rw [i0] at hl
  have hp : c.pairs = [] := List.eq_nil_of_length_eq_zero (by simpa using hl)
  refine ⟨h.g, ?_, ?_, ?_, ?_, ?_, ?_, ?_, (fun q => absurd q (by show ¬ (true = false); simp)), h.l0, h.l1⟩
  · show startS _ = foS c.code c.cap c.fuel (startS _) (pz c.in0 c.in1) c.pairs.length
    rw [hp]; rfl
  · show c.pairs = pzs c.in0 c.in1 c.pairs.length
    rw [hp]; rfl
  · intro j hj
    have : j < c.pairs.length := hj
    rw [hp] at this; exact absurd this (Nat.not_lt_zero _)
  · exact h.le
  · show c.pairs.length = min c.in0.length c.in1.length ∨ _
    rw [hp, i0]; exact .inl rfl
  · show c.in0.length ≤ (c.events ++ [e]).length
    rw [i0]; exact Nat.zero_le _
  show c.in1.length ≤ (c.events ++ [e]).length
  rw [i1]; exact Nat.zero_le _
theorem Inv18.over {c : Ct} (h : Inv18 c) (w y : Int) (e : Ev) : Inv18 (({ c with over := true, winner := w, why := y } : Ct).add e) :=
  ⟨h.g, h.st, h.pairs, h.no, h.le, h.up, by show c.in0.length ≤ (c.events ++ [e]).length; rw [List.length_append]; have := h.e0; omega, by show c.in1.length ≤ (c.events ++ [e]).length; rw [List.length_append]; have := h.e1; omega, h.cl, h.l0, h.l1⟩
theorem Inv18.lives {c : Ct} (h : Inv18 c) (x y : Int) (hx : 0 ≤ x ∧ x ≤ 100) (hy : 0 ≤ y ∧ y ≤ 100) (e : Ev) : Inv18 (({ c with l0 := x, l1 := y } : Ct).add e) :=
  ⟨h.g, h.st, h.pairs, h.no, h.le, h.up, by show c.in0.length ≤ (c.events ++ [e]).length; rw [List.length_append]; have := h.e0; omega, by show c.in1.length ≤ (c.events ++ [e]).length; rw [List.length_append]; have := h.e1; omega, h.cl, hx, hy⟩
theorem getD_app {a b : List UInt16} {j : Nat} (h : j < a.length) : (a ++ b).getD j 0 = a.getD j 0 := by
  rw [List.getD_eq_getElem?_getD, List.getElem?_append_left h, ← List.getD_eq_getElem?_getD]
/-- longer rows, the same pairs -/
theorem Inv18.grow {c : Ct} (h : Inv18 c) (ho : c.st.over = false) (a b : List UInt16) (e : Ev) (hab : (∃ x, a = c.in0 ++ [x] ∧ b = c.in1) ∨ (∃ x, a = c.in0 ∧ b = c.in1 ++ [x])) (hop : c.opn = true) :
    Inv18 ((goP { c with in0 := a, in1 := b }).add e) := by
  have hm : c.pairs.length = min c.in0.length c.in1.length := by
    rcases h.up with q | q
    · exact q
    rw [ho] at q; cases q
  have le := h.le
  have la : c.in0.length ≤ a.length ∧ a.length ≤ c.in0.length + 1 := by rcases hab with ⟨x, rfl, rfl⟩ | ⟨x, rfl, rfl⟩ <;> simp
  have lb : c.in1.length ≤ b.length ∧ b.length ≤ c.in1.length + 1 := by rcases hab with ⟨x, rfl, rfl⟩ | ⟨x, rfl, rfl⟩ <;> simp
  have lab : min a.length b.length ≤ min c.in0.length c.in1.length + 1 := by rcases hab with ⟨x, rfl, rfl⟩ | ⟨x, rfl, rfl⟩ <;> simp <;> omega
  have hz : ∀ j, j < c.pairs.length → pz c.in0 c.in1 j = pz a b j := by
    intro j hj
    unfold pz
    rcases hab with ⟨x, rfl, rfl⟩ | ⟨x, rfl, rfl⟩
    · rw [getD_app (by omega)]
    rw [getD_app (by omega)]
  have hf : ∀ n, n ≤ c.pairs.length → foS c.code c.cap c.fuel (startS c.seed) (pz c.in0 c.in1) n = foS c.code c.cap c.fuel (startS c.seed) (pz a b) n := fun n hn => foS_congr fun j hj => hz j (by omega)
  have hps : c.pairs = pzs a b c.pairs.length := by
    refine h.pairs.trans ?_
    unfold pzs
    exact List.map_congr_left fun j hj => hz j (by simpa using hj)
  have ev0 : c.in0.length ≤ c.events.length := h.e0
  have ev1 : c.in1.length ≤ c.events.length := h.e1
  by_cases q : min a.length b.length = c.pairs.length
  · have hcu : cuP c.code c.cap c.fuel a b (min a.length b.length - c.pairs.length) c.pairs c.st = (c.pairs, c.st) := by rw [q, Nat.sub_self]; rfl
    have hgo : goP { c with in0 := a, in1 := b } = { c with in0 := a, in1 := b } := by
      unfold goP; simp only [hcu]
    rw [hgo]
    refine ⟨h.g, h.st.trans (hf _ (Nat.le_refl _)), hps, fun j hj => ?_, ?_, .inl q.symm, ?_, ?_, ?_, h.l0, h.l1⟩
    · have := h.no j hj; rw [hf j (Nat.le_of_lt hj)] at this; exact this
    · show c.pairs.length ≤ min a.length b.length; omega
    · show a.length ≤ (c.events ++ [e]).length; rw [List.length_append]; simp; omega
    · show b.length ≤ (c.events ++ [e]).length; rw [List.length_append]; simp; omega
    intro w; rw [show c.opn = false from w] at hop; cases hop
  have q1 : min a.length b.length - c.pairs.length = 1 := by omega
  have hcu : cuP c.code c.cap c.fuel a b (min a.length b.length - c.pairs.length) c.pairs c.st = (c.pairs ++ [pz a b c.pairs.length], (stepP c.code c.cap c.fuel c.st (pz a b c.pairs.length).1 (pz a b c.pairs.length).2).1) := by
    rw [q1]
    unfold cuP
    rw [if_pos ⟨ho, by omega⟩]
    rfl
  have hgo : goP { c with in0 := a, in1 := b } = { c with in0 := a, in1 := b, pairs := c.pairs ++ [pz a b c.pairs.length], st := (stepP c.code c.cap c.fuel c.st (pz a b c.pairs.length).1 (pz a b c.pairs.length).2).1 } := by
    unfold goP; simp only [hcu]
  rw [hgo]
  have hlen : (c.pairs ++ [pz a b c.pairs.length]).length = c.pairs.length + 1 := by simp
  have hst : (stepP c.code c.cap c.fuel c.st (pz a b c.pairs.length).1 (pz a b c.pairs.length).2).1 = foS c.code c.cap c.fuel (startS c.seed) (pz a b) (c.pairs.length + 1) := by
    show _ = (stepP c.code c.cap c.fuel (foS c.code c.cap c.fuel (startS c.seed) (pz a b) c.pairs.length) (pz a b c.pairs.length).1 (pz a b c.pairs.length).2).1
    rw [← hf _ (Nat.le_refl _), ← h.st]
  refine ⟨h.g, ?_, ?_, fun j hj => ?_, ?_, .inl ?_, ?_, ?_, ?_, h.l0, h.l1⟩
  · show (stepP c.code c.cap c.fuel c.st (pz a b c.pairs.length).1 (pz a b c.pairs.length).2).1 = foS c.code c.cap c.fuel (startS c.seed) (pz a b) (c.pairs ++ [pz a b c.pairs.length]).length
    rw [hlen]; exact hst
  · show c.pairs ++ [pz a b c.pairs.length] = pzs a b (c.pairs ++ [pz a b c.pairs.length]).length
    rw [hlen, pzs_succ, ← hps]
  · have hj' : j < (c.pairs ++ [pz a b c.pairs.length]).length := hj
    rw [hlen] at hj'
    show (foS c.code c.cap c.fuel (startS c.seed) (pz a b) j).over = false
    rw [← hf j (by omega)]
    by_cases w : j < c.pairs.length
    · exact h.no j w
    rw [show j = c.pairs.length by omega, ← h.st]; exact ho
  · show (c.pairs ++ [pz a b c.pairs.length]).length ≤ min a.length b.length; rw [hlen]; omega
  · show (c.pairs ++ [pz a b c.pairs.length]).length = min a.length b.length; rw [hlen]; omega
  · show a.length ≤ (c.events ++ [e]).length; rw [List.length_append]; simp; omega
  · show b.length ≤ (c.events ++ [e]).length; rw [List.length_append]; simp; omega
  intro w; rw [show c.opn = false from w] at hop; cases hop
/-- what an event makes of a match -/
def doP (c : Ct) (e : Ev) : Ct := if e.kind = 1 then openP c e else if e.kind = 2 then joinP c e else if e.kind = 3 then inputP c e else if e.kind = 4 then forfeitP c e else resultP c e
def nextP (c : Ct) (e : Ev) : Ct := if mayP18 c e = 0 then (doP c e).add e else c
theorem may_kind {c : Ct} {e : Ev} (h : mayP18 c e = 0) : (1 ≤ e.kind ∧ e.kind ≤ 5) ∧ bareB e = true ∧ may1P c e = 0 := by
  unfold mayP18 at h
  split at h
  · cases h
  split at h
  · rename_i h1 h2; exact ⟨by omega, h2, h⟩
  cases h
theorem act_0 {c : Ct} {p : Int} (h : actP c p = 0) : c.opn = true ∧ c.over = false ∧ c.st.over = false ∧ 0 ≤ seatP c p := by
  have hs := act_seat h
  unfold actP at h
  split at h
  · cases h
  rename_i h1
  split at h
  · cases h
  rename_i h2
  cases q1 : c.opn
  · exact absurd q1 h1
  cases q2 : c.over
  · cases q3 : c.st.over
    · exact ⟨rfl, rfl, rfl, hs⟩
    exact absurd (by rw [q3]; simp) h2
  exact absurd (by rw [q2]; simp) h2
theorem mayJoin_0 {c : Ct} {e : Ev} (h : mayJoinP c e = 0) : actP c e.player = 0 ∧ (if seatP c e.player = 0 then c.l0 else c.l1) < 100 := by
  unfold mayJoinP at h
  split at h
  · rename_i h1; exact absurd h h1
  rename_i h1
  by_cases h2 : 100 ≤ (if seatP c e.player = 0 then c.l0 else c.l1)
  · rw [if_pos h2] at h; cases h
  exact ⟨Decidable.byContradiction h1, by omega⟩
theorem mayInput_0 {c : Ct} {e : Ev} (h : mayInputP c e = 0) : actP c e.player = 0 := by
  unfold mayInputP at h
  split at h
  · rename_i h1; exact absurd h h1
  rename_i h1; exact Decidable.byContradiction h1
theorem Inv18.next {c : Ct} (h : Inv18 c) (e : Ev) : Inv18 (nextP c e) := by
  unfold nextP
  split
  · rename_i hm
    obtain ⟨hk, hb, h1⟩ := may_kind hm
    unfold may1P at h1
    unfold doP
    rcases (by omega : e.kind = 1 ∨ e.kind = 2 ∨ e.kind = 3 ∨ e.kind = 4 ∨ e.kind = 5) with k | k | k | k | k
    · rw [if_pos k] at h1 ⊢
      refine h.open ?_ e
      unfold mayOpenP at h1
      cases q : c.opn
      · rfl
      rw [if_pos q] at h1; cases h1
    · rw [if_neg (by omega), if_pos k] at h1 ⊢
      obtain ⟨h2, h3⟩ := mayJoin_0 h1
      unfold joinP
      have a0 := h.l0
      have a1 := h.l1
      split
      · rename_i hs; rw [if_pos hs] at h3; exact h.lives (c.l0 + 1) c.l1 (by omega) a1 e
      rename_i hs; rw [if_neg hs] at h3; exact h.lives c.l0 (c.l1 + 1) a0 (by omega) e
    · rw [if_neg (by omega), if_neg (by omega), if_pos k] at h1 ⊢
      obtain ⟨o1, o2, o3, o4⟩ := act_0 (mayInput_0 h1)
      unfold inputP inputP0
      split
      · exact h.grow o3 _ _ e (.inl ⟨_, rfl, rfl⟩) o1
      exact h.grow o3 _ _ e (.inr ⟨_, rfl, rfl⟩) o1
    · rw [if_neg (by omega), if_neg (by omega), if_neg (by omega), if_pos k]
      exact h.over _ _ e
    rw [if_neg (by omega), if_neg (by omega), if_neg (by omega), if_neg (by omega)]
    exact h.over _ _ e
  exact h
theorem next_events {c : Ct} {e : Ev} : (nextP c e).events.length ≤ c.events.length + 1 := by
  unfold nextP
  split
  · show ((doP c e).events ++ [e]).length ≤ _
    have : (doP c e).events = c.events := by
      unfold doP openP joinP inputP goP inputP0 forfeitP resultP
      repeat' split
      all_goals rfl
    rw [List.length_append, this]; simp
  omega
theorem ev_eq {e : Ev} {k : Int} (h : e.kind = k) : e = ⟨k, e.player, e.other, e.frame, e.inp, e.n⟩ := by cases e; simp only at h; subst h; rfl
end
section
set_option maxRecDepth 20000
def rfC (rg : C) (cap : Int) (fuel : Int) (re : C) (r0 : C) (r1 : C) (p0 : Int) (p1 : Int) (seed : UInt32) (l0 : Int) (l1 : Int) (opn : Bool) (over : Bool) (winner : Int) (why : Int) : List C := [rg, .val (.int .i64 cap), .val (.int .i64 fuel), re, r0, r1, .val (.int .i64 p0), .val (.int .i64 p1), .val (.int .u32 (U32 seed)), .val (.int .i64 l0), .val (.int .i64 l1), .val (.bool opn), .val (.bool over), .val (.int .i64 winner), .val (.int .i64 why)]
section
variable {rg : C} {cap : Int} {fuel : Int} {re : C} {r0 : C} {r1 : C} {p0 : Int} {p1 : Int} {seed : UInt32} {l0 : Int} {l1 : Int} {opn : Bool} {over : Bool} {winner : Int} {why : Int} {V' : V → Prop} {K : C → Prop} {ks : List Id} {m : Nat}
@[go_sem] theorem rf_l : (rfC rg cap fuel re r0 r1 p0 p1 seed l0 l1 opn over winner why).length = 15 := by
  unfold rfC
  simp only [List.length_append, List.length_map, sd_len, List.length_cons, List.length_nil]
@[go_sem] theorem rf_k {bi : Id → Bool} {bt : Tag → Bool} : (rfC rg cap fuel re r0 r1 p0 p1 seed l0 l1 opn over winner why).map (C.clean bi bt) = (rfC (C.clean bi bt rg) cap fuel (C.clean bi bt re) (C.clean bi bt r0) (C.clean bi bt r1) p0 p1 seed l0 l1 opn over winner why) := by
  unfold rfC
  simp only [List.map_append, List.map_cons, List.map_nil, go_sem]
@[go_sem] theorem rf_r  : (rfC rg cap fuel re r0 r1 p0 p1 seed l0 l1 opn over winner why).map (C.ren ks m) = (rfC (C.ren ks m rg) cap fuel (C.ren ks m re) (C.ren ks m r0) (C.ren ks m r1) p0 p1 seed l0 l1 opn over winner why) := by
  unfold rfC
  simp only [List.map_append, List.map_cons, List.map_nil, go_sem]
@[go_sem ↓ 1300] theorem rf_m_cap : (∃ c, (rfC rg cap fuel re r0 r1 p0 p1 seed l0 l1 opn over winner why)[1]? = some c ∧ K c) = K (.val (.int .i64 cap)) := ex_some (by
  unfold rfC
  first | rfl | (rw [List.getElem?_append_left (by simp)]; rfl))
@[go_sem ↓ 1300] theorem rf_m_re : (∃ c, (rfC rg cap fuel re r0 r1 p0 p1 seed l0 l1 opn over winner why)[3]? = some c ∧ K c) = K (re) := ex_some (by
  unfold rfC
  first | rfl | (rw [List.getElem?_append_left (by simp)]; rfl))
@[go_sem ↓ 1300] theorem rf_m_r0 : (∃ c, (rfC rg cap fuel re r0 r1 p0 p1 seed l0 l1 opn over winner why)[4]? = some c ∧ K c) = K (r0) := ex_some (by
  unfold rfC
  first | rfl | (rw [List.getElem?_append_left (by simp)]; rfl))
@[go_sem ↓ 1300] theorem rf_m_r1 : (∃ c, (rfC rg cap fuel re r0 r1 p0 p1 seed l0 l1 opn over winner why)[5]? = some c ∧ K c) = K (r1) := ex_some (by
  unfold rfC
  first | rfl | (rw [List.getElem?_append_left (by simp)]; rfl))
@[go_sem ↓ 1300] theorem rf_m_p0 : (∃ c, (rfC rg cap fuel re r0 r1 p0 p1 seed l0 l1 opn over winner why)[6]? = some c ∧ K c) = K (.val (.int .i64 p0)) := ex_some (by
  unfold rfC
  first | rfl | (rw [List.getElem?_append_left (by simp)]; rfl))
@[go_sem ↓ 1300] theorem rf_m_p1 : (∃ c, (rfC rg cap fuel re r0 r1 p0 p1 seed l0 l1 opn over winner why)[7]? = some c ∧ K c) = K (.val (.int .i64 p1)) := ex_some (by
  unfold rfC
  first | rfl | (rw [List.getElem?_append_left (by simp)]; rfl))
@[go_sem ↓ 1300] theorem rf_m_seed : (∃ c, (rfC rg cap fuel re r0 r1 p0 p1 seed l0 l1 opn over winner why)[8]? = some c ∧ K c) = K (.val (.int .u32 (U32 seed))) := ex_some (by
  unfold rfC
  first | rfl | (rw [List.getElem?_append_left (by simp)]; rfl))
@[go_sem ↓ 1300] theorem rf_m_l0 : (∃ c, (rfC rg cap fuel re r0 r1 p0 p1 seed l0 l1 opn over winner why)[9]? = some c ∧ K c) = K (.val (.int .i64 l0)) := ex_some (by
  unfold rfC
  first | rfl | (rw [List.getElem?_append_left (by simp)]; rfl))
@[go_sem ↓ 1300] theorem rf_m_l1 : (∃ c, (rfC rg cap fuel re r0 r1 p0 p1 seed l0 l1 opn over winner why)[10]? = some c ∧ K c) = K (.val (.int .i64 l1)) := ex_some (by
  unfold rfC
  first | rfl | (rw [List.getElem?_append_left (by simp)]; rfl))
@[go_sem ↓ 1300] theorem rf_m_opn : (∃ c, (rfC rg cap fuel re r0 r1 p0 p1 seed l0 l1 opn over winner why)[11]? = some c ∧ K c) = K (.val (.bool opn)) := ex_some (by
  unfold rfC
  first | rfl | (rw [List.getElem?_append_left (by simp)]; rfl))
@[go_sem ↓ 1300] theorem rf_m_over : (∃ c, (rfC rg cap fuel re r0 r1 p0 p1 seed l0 l1 opn over winner why)[12]? = some c ∧ K c) = K (.val (.bool over)) := ex_some (by
  unfold rfC
  first | rfl | (rw [List.getElem?_append_left (by simp)]; rfl))
@[go_sem ↓ 1300] theorem rf_m_winner : (∃ c, (rfC rg cap fuel re r0 r1 p0 p1 seed l0 l1 opn over winner why)[13]? = some c ∧ K c) = K (.val (.int .i64 winner)) := ex_some (by
  unfold rfC
  first | rfl | (rw [List.getElem?_append_left (by simp)]; rfl))
@[go_sem ↓ 1300] theorem rf_m_why : (∃ c, (rfC rg cap fuel re r0 r1 p0 p1 seed l0 l1 opn over winner why)[14]? = some c ∧ K c) = K (.val (.int .i64 why)) := ex_some (by
  unfold rfC
  first | rfl | (rw [List.getElem?_append_left (by simp)]; rfl))
@[go_sem 1300] theorem rf_d0_3 : ((rfC rg cap fuel re r0 r1 p0 p1 seed l0 l1 opn over winner why).drop 0).take 3 = [rg, .val (.int .i64 cap), .val (.int .i64 fuel)] := by
    first
      | rfl
      | (unfold rfC
         rw [show (0 : Nat) = ((sd s).map D.toC).length + 0 from by rw [sdC_len], List.drop_append, List.drop_eq_nil_of_le (by omega), Nat.add_sub_cancel_left]
         rfl)
@[go_sem ↓ 1300] theorem rf_p0_3 : aPt (some true) 3 (rfC rg cap fuel re r0 r1 p0 p1 seed l0 l1 opn over winner why) 0 V' = V' (.w (.agg [rg, .val (.int .i64 cap), .val (.int .i64 fuel)])) := by
  simp only [aPt, rf_l, rf_d0_3, Nat.reduceAdd, Nat.reduceLeDiff, true_and]
@[go_sem 1300] theorem rf_s_rg {x : C} : spl (rfC rg cap fuel re r0 r1 p0 p1 seed l0 l1 opn over winner why) 0 [x] = (rfC (x) cap fuel re r0 r1 p0 p1 seed l0 l1 opn over winner why) := rfl
@[go_sem 1300] theorem rf_s_cap {x : Int} : spl (rfC rg cap fuel re r0 r1 p0 p1 seed l0 l1 opn over winner why) 1 [.val (.int .i64 x)] = (rfC rg (x) fuel re r0 r1 p0 p1 seed l0 l1 opn over winner why) := rfl
@[go_sem 1300] theorem rf_s_fuel {x : Int} : spl (rfC rg cap fuel re r0 r1 p0 p1 seed l0 l1 opn over winner why) 2 [.val (.int .i64 x)] = (rfC rg cap (x) re r0 r1 p0 p1 seed l0 l1 opn over winner why) := rfl
@[go_sem 1300] theorem rf_s_re {x : C} : spl (rfC rg cap fuel re r0 r1 p0 p1 seed l0 l1 opn over winner why) 3 [x] = (rfC rg cap fuel (x) r0 r1 p0 p1 seed l0 l1 opn over winner why) := rfl
@[go_sem 1300] theorem rf_u_re {x : C} : (rfC rg cap fuel re r0 r1 p0 p1 seed l0 l1 opn over winner why).set 3 (x) = (rfC rg cap fuel (x) r0 r1 p0 p1 seed l0 l1 opn over winner why) := show spl (rfC rg cap fuel re r0 r1 p0 p1 seed l0 l1 opn over winner why) 3 [x] = _ from rf_s_re
@[go_sem 1300] theorem rf_s_r0 {x : C} : spl (rfC rg cap fuel re r0 r1 p0 p1 seed l0 l1 opn over winner why) 4 [x] = (rfC rg cap fuel re (x) r1 p0 p1 seed l0 l1 opn over winner why) := rfl
@[go_sem 1300] theorem rf_u_r0 {x : C} : (rfC rg cap fuel re r0 r1 p0 p1 seed l0 l1 opn over winner why).set 4 (x) = (rfC rg cap fuel re (x) r1 p0 p1 seed l0 l1 opn over winner why) := show spl (rfC rg cap fuel re r0 r1 p0 p1 seed l0 l1 opn over winner why) 4 [x] = _ from rf_s_r0
@[go_sem 1300] theorem rf_s_r1 {x : C} : spl (rfC rg cap fuel re r0 r1 p0 p1 seed l0 l1 opn over winner why) 5 [x] = (rfC rg cap fuel re r0 (x) p0 p1 seed l0 l1 opn over winner why) := rfl
@[go_sem 1300] theorem rf_u_r1 {x : C} : (rfC rg cap fuel re r0 r1 p0 p1 seed l0 l1 opn over winner why).set 5 (x) = (rfC rg cap fuel re r0 (x) p0 p1 seed l0 l1 opn over winner why) := show spl (rfC rg cap fuel re r0 r1 p0 p1 seed l0 l1 opn over winner why) 5 [x] = _ from rf_s_r1
@[go_sem 1300] theorem rf_s_p0 {x : Int} : spl (rfC rg cap fuel re r0 r1 p0 p1 seed l0 l1 opn over winner why) 6 [.val (.int .i64 x)] = (rfC rg cap fuel re r0 r1 (x) p1 seed l0 l1 opn over winner why) := rfl
@[go_sem 1300] theorem rf_s_p1 {x : Int} : spl (rfC rg cap fuel re r0 r1 p0 p1 seed l0 l1 opn over winner why) 7 [.val (.int .i64 x)] = (rfC rg cap fuel re r0 r1 p0 (x) seed l0 l1 opn over winner why) := rfl
@[go_sem 1300] theorem rf_s_seed {x : UInt32} : spl (rfC rg cap fuel re r0 r1 p0 p1 seed l0 l1 opn over winner why) 8 [.val (.int .u32 (U32 x))] = (rfC rg cap fuel re r0 r1 p0 p1 (x) l0 l1 opn over winner why) := rfl
@[go_sem 1300] theorem rf_u_seed {x : UInt32} : (rfC rg cap fuel re r0 r1 p0 p1 seed l0 l1 opn over winner why).set 8 (.val (.int .u32 (U32 x))) = (rfC rg cap fuel re r0 r1 p0 p1 (x) l0 l1 opn over winner why) := show spl (rfC rg cap fuel re r0 r1 p0 p1 seed l0 l1 opn over winner why) 8 [.val (.int .u32 (U32 x))] = _ from rf_s_seed
@[go_sem 1300] theorem rf_s_l0 {x : Int} : spl (rfC rg cap fuel re r0 r1 p0 p1 seed l0 l1 opn over winner why) 9 [.val (.int .i64 x)] = (rfC rg cap fuel re r0 r1 p0 p1 seed (x) l1 opn over winner why) := rfl
@[go_sem 1300] theorem rf_u_l0 {x : Int} : (rfC rg cap fuel re r0 r1 p0 p1 seed l0 l1 opn over winner why).set 9 (.val (.int .i64 x)) = (rfC rg cap fuel re r0 r1 p0 p1 seed (x) l1 opn over winner why) := show spl (rfC rg cap fuel re r0 r1 p0 p1 seed l0 l1 opn over winner why) 9 [.val (.int .i64 x)] = _ from rf_s_l0
@[go_sem 1300] theorem rf_s_l1 {x : Int} : spl (rfC rg cap fuel re r0 r1 p0 p1 seed l0 l1 opn over winner why) 10 [.val (.int .i64 x)] = (rfC rg cap fuel re r0 r1 p0 p1 seed l0 (x) opn over winner why) := rfl
@[go_sem 1300] theorem rf_u_l1 {x : Int} : (rfC rg cap fuel re r0 r1 p0 p1 seed l0 l1 opn over winner why).set 10 (.val (.int .i64 x)) = (rfC rg cap fuel re r0 r1 p0 p1 seed l0 (x) opn over winner why) := show spl (rfC rg cap fuel re r0 r1 p0 p1 seed l0 l1 opn over winner why) 10 [.val (.int .i64 x)] = _ from rf_s_l1
@[go_sem 1300] theorem rf_s_opn {x : Bool} : spl (rfC rg cap fuel re r0 r1 p0 p1 seed l0 l1 opn over winner why) 11 [.val (.bool x)] = (rfC rg cap fuel re r0 r1 p0 p1 seed l0 l1 (x) over winner why) := rfl
@[go_sem 1300] theorem rf_u_opn {x : Bool} : (rfC rg cap fuel re r0 r1 p0 p1 seed l0 l1 opn over winner why).set 11 (.val (.bool x)) = (rfC rg cap fuel re r0 r1 p0 p1 seed l0 l1 (x) over winner why) := show spl (rfC rg cap fuel re r0 r1 p0 p1 seed l0 l1 opn over winner why) 11 [.val (.bool x)] = _ from rf_s_opn
@[go_sem 1300] theorem rf_s_over {x : Bool} : spl (rfC rg cap fuel re r0 r1 p0 p1 seed l0 l1 opn over winner why) 12 [.val (.bool x)] = (rfC rg cap fuel re r0 r1 p0 p1 seed l0 l1 opn (x) winner why) := rfl
@[go_sem 1300] theorem rf_u_over {x : Bool} : (rfC rg cap fuel re r0 r1 p0 p1 seed l0 l1 opn over winner why).set 12 (.val (.bool x)) = (rfC rg cap fuel re r0 r1 p0 p1 seed l0 l1 opn (x) winner why) := show spl (rfC rg cap fuel re r0 r1 p0 p1 seed l0 l1 opn over winner why) 12 [.val (.bool x)] = _ from rf_s_over
@[go_sem 1300] theorem rf_s_winner {x : Int} : spl (rfC rg cap fuel re r0 r1 p0 p1 seed l0 l1 opn over winner why) 13 [.val (.int .i64 x)] = (rfC rg cap fuel re r0 r1 p0 p1 seed l0 l1 opn over (x) why) := rfl
@[go_sem 1300] theorem rf_u_winner {x : Int} : (rfC rg cap fuel re r0 r1 p0 p1 seed l0 l1 opn over winner why).set 13 (.val (.int .i64 x)) = (rfC rg cap fuel re r0 r1 p0 p1 seed l0 l1 opn over (x) why) := show spl (rfC rg cap fuel re r0 r1 p0 p1 seed l0 l1 opn over winner why) 13 [.val (.int .i64 x)] = _ from rf_s_winner
@[go_sem 1300] theorem rf_s_why {x : Int} : spl (rfC rg cap fuel re r0 r1 p0 p1 seed l0 l1 opn over winner why) 14 [.val (.int .i64 x)] = (rfC rg cap fuel re r0 r1 p0 p1 seed l0 l1 opn over winner (x)) := rfl
@[go_sem 1300] theorem rf_u_why {x : Int} : (rfC rg cap fuel re r0 r1 p0 p1 seed l0 l1 opn over winner why).set 14 (.val (.int .i64 x)) = (rfC rg cap fuel re r0 r1 p0 p1 seed l0 l1 opn over winner (x)) := show spl (rfC rg cap fuel re r0 r1 p0 p1 seed l0 l1 opn over winner why) 14 [.val (.int .i64 x)] = _ from rf_s_why
@[go_sem 1300] theorem rf_w6_2 {y0 : Int} {y1 : Int} : spl (rfC rg cap fuel re r0 r1 p0 p1 seed l0 l1 opn over winner why) 6 [.val (.int .i64 y0), .val (.int .i64 y1)] = (rfC rg cap fuel re r0 r1 y0 y1 seed l0 l1 opn over winner why) := by
  first
    | rfl
    | (unfold rfC
       rw [show (6 : Nat) = ((sd s).map D.toC).length + 0 from by rw [sdC_len], spl_appR (by simp only [List.length_cons, List.length_nil]; omega)]
       rfl)
theorem rf_le {rg' : C} {cap' : Int} {fuel' : Int} {re' : C} {r0' : C} {r1' : C} {p0' : Int} {p1' : Int} {seed' : UInt32} {l0' : Int} {l1' : Int} {opn' : Bool} {over' : Bool} {winner' : Int} {why' : Int} (h : leC rg rg' ∧ cap = cap' ∧ fuel = fuel' ∧ leC re re' ∧ leC r0 r0' ∧ leC r1 r1' ∧ p0 = p0' ∧ p1 = p1' ∧ seed = seed' ∧ l0 = l0' ∧ l1 = l1' ∧ opn = opn' ∧ over = over' ∧ winner = winner' ∧ why = why') : leCs (rfC rg cap fuel re r0 r1 p0 p1 seed l0 l1 opn over winner why) (rfC rg' cap' fuel' re' r0' r1' p0' p1' seed' l0' l1' opn' over' winner' why') := by
  obtain ⟨h0, h1, h2, h3, h4, h5, h6, h7, h8, h9, h10, h11, h12, h13, h14⟩ := h
  subst h1
  subst h2
  subst h6
  subst h7
  subst h8
  subst h9
  subst h10
  subst h11
  subst h12
  subst h13
  subst h14
  unfold rfC
  try simp only [List.cons_append, List.nil_append, List.append_assoc]
  exact ⟨h0, ⟨leC_refl _, ⟨leC_refl _, ⟨h3, ⟨h4, ⟨h5, ⟨leC_refl _, ⟨leC_refl _, ⟨leC_refl _, ⟨leC_refl _, ⟨leC_refl _, ⟨leC_refl _, ⟨leC_refl _, ⟨leC_refl _, ⟨leC_refl _, trivial⟩⟩⟩⟩⟩⟩⟩⟩⟩⟩⟩⟩⟩⟩⟩
end
theorem rfX {rg re r0 r1 : C} {cap fuel p0 p1 l0 l1 winner why : Int} {seed : UInt32} {opn over opn' over' : Bool} (h1 : opn = opn' := by first | rfl | assumption | (symm; assumption)) (h2 : over = over' := by first | rfl | assumption | (symm; assumption)) :
    leCs (rfC rg cap fuel re r0 r1 p0 p1 seed l0 l1 opn over winner why) (rfC rg cap fuel re r0 r1 p0 p1 seed l0 l1 opn' over' winner why) := by
  subst h1; subst h2; exact leCs_refl _
end
section
abbrev rfB (i : Id) (c : Ct) : List C := rfC (.lst .no none 2 (ins c.code)) c.cap c.fuel (.lst (.tag (.cell i 3)) none 6 (evs c.events)) (.lst (.tag (.cell i 4)) none 1 (ls fU c.in0)) (.lst (.tag (.cell i 5)) none 1 (ls fU c.in1)) c.p0 c.p1 c.seed c.l0 c.l1 c.opn c.over c.winner c.why
theorem rnew_bad (l : List (Int × Int)) (cap fuel : Int) (hl : l.length ≤ 9223372036854775807) (hg : gameP l cap fuel ≠ 0) : Holds Tryz.prog 19 [.game l cap fuel] [] (fun r h' => r = .tup [.c (.val (.pointer none)), .int .i64 (gameP l cap fuel)] ∧ h' = []) := by
  have dg : decide (gameP l cap fuel = 0) = false := decide_eq_false hg
  refine holds_of_awp Tryz.func19 rfl (by decide +kernel) mixed Tryz.ntmps19 Tryz.results19 ?_
  refine zE ?_
  refine zc ?_;try exact trivial
  refine a_call [] (rcheck10_h l cap fuel hl) ok0 ?_ ?_ ?_
  · refine zs ?_;try exact trivial
  · refine zs ?_;try exact trivial
  rintro _ _ ⟨rfl, rfl⟩
  simp (maxSteps:=2000000) (disch:=omega) only [go_sem,Nat.reduceAdd,Nat.reduceSub,Nat.reduceMul,Nat.reduceBEq,Nat.reduceEqDiff,Nat.reduceLT,Nat.reduceLeDiff,Nat.reduceDiv,reduceIte,reduceCtorEq, dg, decide_not, Bool.not_false]
theorem rnew_ok (l : List (Int × Int)) (cap fuel : Int) (hl : l.length ≤ 9223372036854775807) (hg : gameP l cap fuel = 0) : Holds Tryz.prog 19 [.game l cap fuel] [] (fun r h' => r = .tup [.c (.ptr (.loc [12]) 0), .int .i64 0] ∧ h' = [(.loc [12], rfB (.loc [12]) (ctNew l cap fuel))]) := by
  refine holds_of_awp Tryz.func19 rfl (by decide +kernel) mixed Tryz.ntmps19 Tryz.results19 ?_
  refine zE ?_
  refine zc ?_;try exact trivial
  refine a_call [] (rcheck10_h l cap fuel hl) ok0 ?_ ?_ ?_
  · refine zs ?_;try exact trivial
  · refine zs ?_;try exact trivial
  rintro _ _ ⟨rfl, rfl⟩
  rw [hg]
  refine zc ?_;try exact trivial
  exact rf_le ⟨leC_refl _, rfl, rfl, nil_row rfl (by omega), nil_row rfl (by omega), nil_row rfl (by omega), rfl, rfl, rfl, rfl, rfl, rfl, rfl, rfl, rfl⟩
def seatR (c : Ct) (x : Int) : Int := if c.opn = true then seatP c x else -1
theorem rseat_h (c : Ct) (x : Int) : Holds Tryz.prog 34 [.ptr (.arg 0) 0, .int .i64 x] [(.arg 0, rfB (.arg 0) c)] (fun r h' => r = .int .i64 (seatR c x) ∧ h' = [(.arg 0, rfB (.arg 0) c)]) := by
  refine holds_of_awp Tryz.func34 rfl (by decide +kernel) mixed Tryz.ntmps34 Tryz.results34 ?_
  refine zE ?_
  refine zs ?_;try exact trivial
  refine a_loopk (fun k : Nat => ⟨[V.cell (.ptr (.arg 0) 0), V.int .i64 x, U, U, U, V.int .i64 k, U, U, U, U, U, U, U, U, U, U, U, U, U, U, U, U, U, U, .undef], [(.arg 0, rfB (.arg 0) c)]⟩) (fun k => k ≤ 2 ∧ (0 < k → c.p0 ≠ x) ∧ (1 < k → c.p1 ≠ x)) (2 - ·) 0 ⟨by omega, by omega, by omega⟩ ?_ ?_
  · try (refine zs ?_; try exact trivial)
  rintro k ⟨hk, h0, h1⟩
  cases o : c.opn
  · have e : seatR c x = -1 := by unfold seatR; rw [if_neg (by rw [o]; simp)]
    rw [e]
    simp (maxSteps:=2000000) (disch:=omega) only [go_sem,Nat.reduceAdd,Nat.reduceSub,Nat.reduceMul,Nat.reduceBEq,Nat.reduceEqDiff,Nat.reduceLT,Nat.reduceLeDiff,Nat.reduceDiv,reduceIte,reduceCtorEq, o]
    all_goals simp only [@eq_comm Int 0]
  have e : seatR c x = seatP c x := by unfold seatR; rw [if_pos o]
  rw [e]
  rcases (by omega : k = 0 ∨ k = 1 ∨ k = 2) with rfl | rfl | rfl
  · simp (maxSteps:=2000000) (disch:=omega) only [go_sem,Nat.reduceAdd,Nat.reduceSub,Nat.reduceMul,Nat.reduceBEq,Nat.reduceEqDiff,Nat.reduceLT,Nat.reduceLeDiff,Nat.reduceDiv,reduceIte,reduceCtorEq, o, Int.reduceLT]
    refine c_dec (fun h => ?_) (fun h => ?_)
    · have e : seatP c x = 0 := by unfold seatP; rw [if_pos h]
      rw [e]
      refine zc ?_;try exact trivial
    refine zc ?_;try exact trivial
    exact ⟨1, by omega, ⟨by omega, fun _ q => h q, by omega⟩, rfl⟩
  · have h0' := h0 (by omega)
    simp (maxSteps:=2000000) (disch:=omega) only [go_sem,Nat.reduceAdd,Nat.reduceSub,Nat.reduceMul,Nat.reduceBEq,Nat.reduceEqDiff,Nat.reduceLT,Nat.reduceLeDiff,Nat.reduceDiv,reduceIte,reduceCtorEq, o, Int.reduceLT]
    refine c_dec (fun h => ?_) (fun h => ?_)
    · have e : seatP c x = 1 := by unfold seatP; rw [if_neg h0', if_pos h]
      rw [e]
      refine zc ?_;try exact trivial
    refine zc ?_;try exact trivial
    exact ⟨2, by omega, ⟨by omega, fun _ => h0', fun _ q => h q⟩, rfl⟩
  have h0' := h0 (by omega)
  have h1' := h1 (by omega)
  have e : seatP c x = -1 := by simp [seatP, h0', h1']
  rw [e]
  simp (maxSteps:=2000000) (disch:=omega) only [go_sem,Nat.reduceAdd,Nat.reduceSub,Nat.reduceMul,Nat.reduceBEq,Nat.reduceEqDiff,Nat.reduceLT,Nat.reduceLeDiff,Nat.reduceDiv,reduceIte,reduceCtorEq, o, Int.reduceLT]
  all_goals simp only [@eq_comm Int 0]
set_option maxRecDepth 20000 in
set_option maxHeartbeats 16000000 in
theorem rpairs_h (c : Ct) (h : Inv18 c) (hl : c.events.length ≤ 100000) : Holds Tryz.prog 18 [.ptr (.arg 0) 0] [(.arg 0, rfB (.arg 0) c)] (fun r h' => r = .cell (.lst .no none 2 (prs c.pairs)) ∧ h' = [(.arg 0, rfB (.arg 0) c)]) := by
  have l0 := h.e0
  have l1 := h.e1
  have le := h.le
  have hcl := game_len h.g
  have hst := rstart_h c.seed
  refine holds_of_awp Tryz.func18 rfl (by decide +kernel) mixed Tryz.ntmps18 Tryz.results18 ?_
  refine zE ?_
  refine zc ?_;try exact trivial
  refine a_call [] (hst) ok0 ?_ ?_ ?_
  · refine zs ?_;try exact trivial
  · refine zs ?_;try exact trivial
  rintro _ _ ⟨rfl, rfl⟩
  refine zc ?_;try exact trivial
  refine a_loopk (fun i : Nat => ⟨[V.cell (.ptr (.arg 0) 0), .undef, V.cell (.lst .full (some true) 1 []), V.cell (.lst (.tag (.slot [57])) none 2 (prs (pzs c.in0 c.in1 i))), V.cell (.ptr (.loc [4]) 0), V.int .i64 (i : Int), U, U, U, U, U, U, U, U, U, U, U, U, U, U, U, U, U, U, U, U, U, U, U, U, U, U, U, U, U, U, U, U, U, U, U, U, U, U, U, U, U, U, U, U, U, U, U, U, U, U, U, U, U, U, U, U, U, U, U, U, U, U, .undef], [(.loc [4], (sd (foS c.code c.cap c.fuel (startS c.seed) (pz c.in0 c.in1) (i))).map D.toC), (.arg 0, rfB (.arg 0) c)]⟩) (fun i => i ≤ c.pairs.length) (fun i => c.pairs.length - i) 0 (by omega) ?_ ?_
  · have e0 : prs (pzs c.in0 c.in1 0) = [] := rfl
    have e1 : foS c.code c.cap c.fuel (startS c.seed) (pz c.in0 c.in1) (0) = startS c.seed := rfl
    rw [e0, e1]
    refine zs ?_;try exact trivial
    all_goals first | exact nil_row rfl (by omega) | exact ⟨nil_row rfl (by omega), leCs_refl _⟩ | trace_state
  intro i hi
  refine zs ?_;try exact trivial
  by_cases hm : i < c.pairs.length
  · have g1 : decide ((i : Int) < (c.in0.length : Int)) = true := decide_eq_true (by omega)
    have g2 : decide ((i : Int) < (c.in1.length : Int)) = true := decide_eq_true (by omega)
    have ho := h.no i hm
    have hB : ∀ x ∈ (foS c.code c.cap c.fuel (startS c.seed) (pz c.in0 c.in1) (i)).cells, B32 x := foS_B (start_B c.seed) _
    have hi0 : i < c.in0.length := by omega
    have hi1 : i < c.in1.length := by omega
    simp (maxSteps:=2000000) (disch:=omega) only [go_sem,Nat.reduceAdd,Nat.reduceSub,Nat.reduceMul,Nat.reduceBEq,Nat.reduceEqDiff,Nat.reduceLT,Nat.reduceLeDiff,Nat.reduceDiv,reduceIte,reduceCtorEq, g1, g2, ho, Bool.not_false]
    refine a_drawC (⟨[V.cell (.ptr (.arg 0) 0), .undef, V.cell (.lst .full (some true) 1 []), V.cell (.lst (.tag (.slot [57])) none 2 (prs (pzs c.in0 c.in1 i))), V.cell (.ptr (.loc [4]) 0), V.int .i64 (i : Int), V.cell (.ptr (.loc [6]) 0), U, U, U, U, U, U, U, U, U, U, U, U, U, U, U, U, U, U, U, U, U, U, U, U, U, U, U, U, U, U, U, U, U, U, U, U, U, U, U, U, U, U, U, U, U, U, U, U, U, U, U, U, U, U, U, U, U, U, U, U, U, .undef], [(.loc [6], [.val (.int .u16 (U16 (c.in0.getD i 0))), .val (.int .u16 (U16 (c.in1.getD i 0)))]), (.loc [4], (sd (foS c.code c.cap c.fuel (startS c.seed) (pz c.in0 c.in1) (i))).map D.toC), (.arg 0, rfB (.arg 0) c)]⟩) (.take 0 (.take 1 (.take 2 (.take 3 (.take 5 (.take 8 (.take 9 (.take 10 (.take 11 (.take 13 (.both [(4, .take 6 (.both [(7, .both [(12, .take 14 (.both [(15, .both [(16, .both [(17, .both [(18, .done)])]), (17, .both [(16, .both [(18, .done)])])]), (17, .both [(15, .both [(16, .both [(18, .done)])])])])), (17, .both [(12, .take 14 (.both [(15, .both [(16, .both [(18, .done)])])]))])]), (12, .take 14 (.both [(7, .both [(15, .both [(16, .both [(17, .both [(18, .done)])]), (17, .both [(16, .both [(18, .done)])])]), (17, .both [(15, .both [(16, .both [(18, .done)])])])]), (15, .both [(7, .both [(16, .both [(17, .both [(18, .done)])]), (17, .both [(16, .both [(18, .done)])])]), (17, .both [(7, .both [(16, .both [(18, .done)])])])]), (17, .both [(7, .both [(15, .both [(16, .both [(18, .done)])])]), (15, .both [(7, .both [(16, .both [(18, .done)])])])])])), (17, .both [(7, .both [(12, .take 14 (.both [(15, .both [(16, .both [(18, .done)])])]))]), (12, .take 14 (.both [(7, .both [(15, .both [(16, .both [(18, .done)])])]), (15, .both [(7, .both [(16, .both [(18, .done)])])])]))])])), (12, .take 14 (.both [(4, .take 6 (.both [(7, .both [(15, .both [(16, .both [(17, .both [(18, .done)])]), (17, .both [(16, .both [(18, .done)])])]), (17, .both [(15, .both [(16, .both [(18, .done)])])])]), (15, .both [(7, .both [(16, .both [(17, .both [(18, .done)])]), (17, .both [(16, .both [(18, .done)])])]), (17, .both [(7, .both [(16, .both [(18, .done)])])])]), (17, .both [(7, .both [(15, .both [(16, .both [(18, .done)])])]), (15, .both [(7, .both [(16, .both [(18, .done)])])])])])), (15, .both [(4, .take 6 (.both [(7, .both [(16, .both [(17, .both [(18, .done)])]), (17, .both [(16, .both [(18, .done)])])]), (17, .both [(7, .both [(16, .both [(18, .done)])])])])), (17, .both [(4, .take 6 (.both [(7, .both [(16, .both [(18, .done)])])]))])]), (17, .both [(4, .take 6 (.both [(7, .both [(15, .both [(16, .both [(18, .done)])])]), (15, .both [(7, .both [(16, .both [(18, .done)])])])])), (15, .both [(4, .take 6 (.both [(7, .both [(16, .both [(18, .done)])])]))])])])), (17, .both [(4, .take 6 (.both [(7, .both [(12, .take 14 (.both [(15, .both [(16, .both [(18, .done)])])]))]), (12, .take 14 (.both [(7, .both [(15, .both [(16, .both [(18, .done)])])]), (15, .both [(7, .both [(16, .both [(18, .done)])])])]))])), (12, .take 14 (.both [(4, .take 6 (.both [(7, .both [(15, .both [(16, .both [(18, .done)])])]), (15, .both [(7, .both [(16, .both [(18, .done)])])])])), (15, .both [(4, .take 6 (.both [(7, .both [(16, .both [(18, .done)])])]))])]))])]))))))))))) (by kernel_rfl) (by kernel_rfl) ?_ ?_
    · refine zc ?_;try exact trivial
      all_goals simp only [@eq_comm Int 0]
    refine zc ?_;try exact trivial
    refine ⟨by rw [pzs_len]; omega, ?_⟩
    refine a_drawC (⟨[V.cell (.ptr (.arg 0) 0), .undef, V.cell (.lst .full (some true) 1 []), V.cell (.lst (.tag (.slot [57])) none 2 (prs (pzs c.in0 c.in1 (i + 1)))), V.cell (.ptr (.loc [4]) 0), V.int .i64 (i : Int), U, U, U, U, U, U, U, U, U, U, U, U, U, U, U, U, U, U, U, U, U, U, U, U, U, U, U, U, U, U, U, U, U, U, U, U, U, U, U, U, U, U, U, U, U, U, U, U, U, U, U, U, U, U, U, U, U, U, U, U, U, U, .undef], [(.loc [4], (sd (foS c.code c.cap c.fuel (startS c.seed) (pz c.in0 c.in1) (i + 1))).map D.toC), (.arg 0, rfB (.arg 0) c)]⟩) (.take 0 (.take 1 (.take 2 (.both [(3, .both [(4, .both [(5, .both [(6, .take 7 (.take 8 (.take 9 (.both [(10, .done)]))))])]), (5, .both [(4, .both [(6, .take 7 (.take 8 (.take 9 (.both [(10, .done)]))))])])]), (4, .both [(3, .both [(5, .both [(6, .take 7 (.take 8 (.take 9 (.both [(10, .done)]))))])]), (5, .both [(3, .both [(6, .take 7 (.take 8 (.take 9 (.both [(10, .done)]))))])])]), (5, .both [(3, .both [(4, .both [(6, .take 7 (.take 8 (.take 9 (.both [(10, .done)]))))])]), (4, .both [(3, .both [(6, .take 7 (.take 8 (.take 9 (.both [(10, .done)]))))])])])])))) (by kernel_rfl) (by kernel_rfl) ?_ ?_
    · rw [pzs_succ]
      refine zc ?_;try exact trivial
      have hstep := rstep_h c.code c.cap c.fuel (foS c.code c.cap c.fuel (startS c.seed) (pz c.in0 c.in1) (i)) (c.in0.getD i 0) (c.in1.getD i 0) (by omega) hB
      refine a_call [] (hstep) ok0 ?_ ?_ ?_
      · refine zs ?_;try exact trivial
      · refine zs ?_;try exact trivial
      rintro _ _ ⟨rfl, rfl⟩
      refine zc ?_;try exact trivial
      all_goals first | exact leCs_refl _ | exact ⟨rfl, leCs_refl _⟩ | trace_state
    refine zc ?_;try exact trivial
    refine ⟨i + 1, by omega, by omega, ?_⟩
    try (refine zc ?_; try exact trivial)
  have e : i = c.pairs.length := by omega
  subst e
  cases g1 : decide ((c.pairs.length : Int) < (c.in0.length : Int))
  · rw [← h.pairs]
    simp (maxSteps:=2000000) (disch:=omega) only [go_sem,Nat.reduceAdd,Nat.reduceSub,Nat.reduceMul,Nat.reduceBEq,Nat.reduceEqDiff,Nat.reduceLT,Nat.reduceLeDiff,Nat.reduceDiv,reduceIte,reduceCtorEq, g1]
    all_goals simp only [@eq_comm Int 0]
  cases g2 : decide ((c.pairs.length : Int) < (c.in1.length : Int))
  · rw [← h.pairs]
    simp (maxSteps:=2000000) (disch:=omega) only [go_sem,Nat.reduceAdd,Nat.reduceSub,Nat.reduceMul,Nat.reduceBEq,Nat.reduceEqDiff,Nat.reduceLT,Nat.reduceLeDiff,Nat.reduceDiv,reduceIte,reduceCtorEq, g1, g2]
  have q1 := of_decide_eq_true g1
  have q2 := of_decide_eq_true g2
  have ho : (foS c.code c.cap c.fuel (startS c.seed) (pz c.in0 c.in1) (c.pairs.length)).over = true := by
    rw [← h.st]
    rcases h.up with q | q
    · omega
    exact q
  rw [← h.pairs]
  simp (maxSteps:=2000000) (disch:=omega) only [go_sem,Nat.reduceAdd,Nat.reduceSub,Nat.reduceMul,Nat.reduceBEq,Nat.reduceEqDiff,Nat.reduceLT,Nat.reduceLeDiff,Nat.reduceDiv,reduceIte,reduceCtorEq, g1, g2, ho, Bool.not_true]
theorem Inv18.gp {c : Ct} (h : Inv18 c) {n : Nat} (hn : n ≤ c.pairs.length) : foS c.code c.cap c.fuel (startS c.seed) (Proofs.YtgeelaafmnedmaaGreat.gp c.pairs) n = foS c.code c.cap c.fuel (startS c.seed) (pz c.in0 c.in1) n :=
  foS_congr fun j hj => by
    have e := h.pairs
    generalize c.pairs.length = m at e hn
    rw [e]
    unfold Proofs.YtgeelaafmnedmaaGreat.gp pzs
    rw [List.getD_eq_getElem?_getD]
    simp [show j < m by omega]
theorem Inv18.play {c : Ct} (h : Inv18 c) (hl : c.events.length ≤ 100000) : Holds Tryz.prog 31 [.game c.code c.cap c.fuel, .c (.val (.int .u32 (U32 c.seed))), .c (.lst .no none 2 (prs c.pairs))] [] (fun r h' => r = .tup [.agg ((sd c.st).map D.toC), .int .i64 0] ∧ h' = []) := by
  have l0 := h.e0
  have le := h.le
  have hcl := game_len h.g
  have hp := rplay_h c.code c.cap c.fuel c.seed c.pairs (by omega) h.g (by omega) (fun j hj => by rw [h.gp (by omega)]; exact h.no j hj)
  rw [h.gp (Nat.le_refl _), ← h.st] at hp
  exact hp
set_option maxRecDepth 20000 in
set_option maxHeartbeats 16000000 in
theorem rst_h (c : Ct) (h : Inv18 c) (hl : c.events.length ≤ 100000) : Holds Tryz.prog 13 [.ptr (.arg 0) 0] [(.arg 0, rfB (.arg 0) c)] (fun r h' => r = .w (.agg ((sd c.st).map D.toC)) ∧ h' = [(.arg 0, rfB (.arg 0) c)]) := by
  have hp := rpairs_h c h hl
  have hy := h.play hl
  refine holds_of_awp Tryz.func13 rfl (by decide +kernel) mixed Tryz.ntmps13 Tryz.results13 ?_
  refine zE ?_
  refine zc ?_;try exact trivial
  refine a_drawC (⟨[V.cell (.ptr (.arg 0) 0), .undef, V.cell (.ptr (.loc [2]) 0), V.cell (.ptr (.loc [3]) 0), V.int .i64 0, U, U, U, U, U, U, U, U, U, U, U, U, U, U, .undef], [(.loc [3], (sd c.st).map D.toC), (.loc [2], (sd (stz 0 0)).map D.toC), (.arg 0, rfB (.arg 0) c)]⟩) (.take 0 (.take 1 (.take 2 (.take 4 (.take 5 (.take 6 (.take 8 (.both [(3, .both [(7, .both [(9, .both [(10, .take 11 (.take 12 (.take 13 (.both [(14, .both [(15, .take 16 (.done))])])))), (14, .both [(10, .take 11 (.take 12 (.take 13 (.both [(15, .take 16 (.done))]))))])]), (14, .both [(9, .both [(10, .take 11 (.take 12 (.take 13 (.both [(15, .take 16 (.done))]))))])])]), (9, .both [(7, .both [(10, .take 11 (.take 12 (.take 13 (.both [(14, .both [(15, .take 16 (.done))])])))), (14, .both [(10, .take 11 (.take 12 (.take 13 (.both [(15, .take 16 (.done))]))))])]), (14, .both [(7, .both [(10, .take 11 (.take 12 (.take 13 (.both [(15, .take 16 (.done))]))))])])]), (14, .both [(7, .both [(9, .both [(10, .take 11 (.take 12 (.take 13 (.both [(15, .take 16 (.done))]))))])]), (9, .both [(7, .both [(10, .take 11 (.take 12 (.take 13 (.both [(15, .take 16 (.done))]))))])])])]), (7, .both [(3, .both [(9, .both [(10, .take 11 (.take 12 (.take 13 (.both [(14, .both [(15, .take 16 (.done))])])))), (14, .both [(10, .take 11 (.take 12 (.take 13 (.both [(15, .take 16 (.done))]))))])]), (14, .both [(9, .both [(10, .take 11 (.take 12 (.take 13 (.both [(15, .take 16 (.done))]))))])])]), (9, .both [(3, .both [(10, .take 11 (.take 12 (.take 13 (.both [(14, .both [(15, .take 16 (.done))])])))), (14, .both [(10, .take 11 (.take 12 (.take 13 (.both [(15, .take 16 (.done))]))))])]), (14, .both [(3, .both [(10, .take 11 (.take 12 (.take 13 (.both [(15, .take 16 (.done))]))))])])]), (14, .both [(3, .both [(9, .both [(10, .take 11 (.take 12 (.take 13 (.both [(15, .take 16 (.done))]))))])]), (9, .both [(3, .both [(10, .take 11 (.take 12 (.take 13 (.both [(15, .take 16 (.done))]))))])])])]), (9, .both [(3, .both [(7, .both [(10, .take 11 (.take 12 (.take 13 (.both [(14, .both [(15, .take 16 (.done))])])))), (14, .both [(10, .take 11 (.take 12 (.take 13 (.both [(15, .take 16 (.done))]))))])]), (14, .both [(7, .both [(10, .take 11 (.take 12 (.take 13 (.both [(15, .take 16 (.done))]))))])])]), (7, .both [(3, .both [(10, .take 11 (.take 12 (.take 13 (.both [(14, .both [(15, .take 16 (.done))])])))), (14, .both [(10, .take 11 (.take 12 (.take 13 (.both [(15, .take 16 (.done))]))))])]), (14, .both [(3, .both [(10, .take 11 (.take 12 (.take 13 (.both [(15, .take 16 (.done))]))))])])]), (14, .both [(3, .both [(7, .both [(10, .take 11 (.take 12 (.take 13 (.both [(15, .take 16 (.done))]))))])]), (7, .both [(3, .both [(10, .take 11 (.take 12 (.take 13 (.both [(15, .take 16 (.done))]))))])])])]), (14, .both [(3, .both [(7, .both [(9, .both [(10, .take 11 (.take 12 (.take 13 (.both [(15, .take 16 (.done))]))))])]), (9, .both [(7, .both [(10, .take 11 (.take 12 (.take 13 (.both [(15, .take 16 (.done))]))))])])]), (7, .both [(3, .both [(9, .both [(10, .take 11 (.take 12 (.take 13 (.both [(15, .take 16 (.done))]))))])]), (9, .both [(3, .both [(10, .take 11 (.take 12 (.take 13 (.both [(15, .take 16 (.done))]))))])])]), (9, .both [(3, .both [(7, .both [(10, .take 11 (.take 12 (.take 13 (.both [(15, .take 16 (.done))]))))])]), (7, .both [(3, .both [(10, .take 11 (.take 12 (.take 13 (.both [(15, .take 16 (.done))]))))])])])])])))))))) (by kernel_rfl) (by kernel_rfl) ?_ ?_
  · refine zc ?_;try exact trivial
    repeat' (with_reducible apply And.intro)
    all_goals (
      refine a_call [.arg 0] (hp) (ok1 rfl) ?_ ?_ ?_
      · refine zs ?_;try exact trivial
      · refine zs ?_;try exact trivial
      rintro _ _ ⟨rfl, rfl⟩
      refine zc ?_;try exact trivial
      repeat' (with_reducible apply And.intro)
      all_goals (
        refine a_call [] (hy) ok0 ?_ ?_ ?_
        · refine zs ?_;try exact trivial
        · refine zs ?_;try exact trivial
        rintro _ _ ⟨rfl, rfl⟩
        (refine zc ?_; try exact trivial)))
    all_goals first | exact leCs_refl _ | trace_state
  refine zc ?_;try exact trivial
  all_goals first | exact leCs_refl _ | trace_state
/-- has an event nothing but what its kind names, and is its kind one? -/
def formB (e : Ev) : Bool := if e.kind < 1 ∨ 6 ≤ e.kind then false else bareB e
set_option maxRecDepth 20000 in
set_option maxHeartbeats 16000000 in
theorem rform_h (e : Ev) : Holds Tryz.prog 32 [.ev e] [] (fun r h' => r = V.bool (formB e) ∧ h' = []) := by
  refine holds_of_awp Tryz.func32 rfl (by decide +kernel) mixed Tryz.ntmps32 Tryz.results32 ?_
  refine zE ?_
  by_cases hk : e.kind < 1 ∨ 6 ≤ e.kind
  · have ef : formB e = false := by unfold formB; rw [if_pos hk]
    have k1 : decide (e.kind = 1) = false := decide_eq_false (by omega)
    have k2 : decide (e.kind = 2) = false := decide_eq_false (by omega)
    have k3 : decide (e.kind = 3) = false := decide_eq_false (by omega)
    have k4 : decide (e.kind = 4) = false := decide_eq_false (by omega)
    have k5 : decide (e.kind = 5) = false := decide_eq_false (by omega)
    rw [ef]
    simp (maxSteps:=2000000) (disch:=omega) only [go_sem,Nat.reduceAdd,Nat.reduceSub,Nat.reduceMul,Nat.reduceBEq,Nat.reduceEqDiff,Nat.reduceLT,Nat.reduceLeDiff,Nat.reduceDiv,reduceIte,reduceCtorEq, k1, k2, k3, k4, k5]
  have ef : formB e = bareB e := by unfold formB; rw [if_neg hk]
  rw [ef]
  obtain ⟨kind, player, other, frame, inp, n⟩ := e
  simp only at hk ⊢
  rcases (by omega : kind = 1 ∨ kind = 2 ∨ kind = 3 ∨ kind = 4 ∨ kind = 5) with rfl | rfl | rfl | rfl | rfl
  · unfold bareB
    refine zc ?_;try exact trivial
    refine a_drawC (⟨[.undef, V.cell (.ptr (.loc [1]) 0), V.bool false, V.cell (.ptr (.loc [3]) 0), U, U, U, U, U, U, U, U, U, U, U, U, U, U, U, U, U, U, U, U, U, U, U, U, U, U, U, U, U, U, U, U, U, U, U, U, U, U, U, U, U, U, U, .undef], [(.loc [3], evC ⟨1, player, other, 0, 0, n⟩), (.loc [1], evC ⟨1, player, other, frame, inp, n⟩)]⟩) (.take 0 (.take 2 (.take 4 (.both [(1, .take 6 (.both [(3, .both [(5, .both [(7, .take 8 (.both [(9, .take 10 (.both [(11, .done)]))]))]), (7, .take 8 (.both [(5, .both [(9, .take 10 (.both [(11, .done)]))]), (9, .both [(5, .take 10 (.both [(11, .done)]))])]))]), (5, .both [(3, .both [(7, .take 8 (.both [(9, .take 10 (.both [(11, .done)]))]))]), (7, .both [(3, .take 8 (.both [(9, .take 10 (.both [(11, .done)]))]))])]), (7, .both [(3, .take 8 (.both [(5, .both [(9, .take 10 (.both [(11, .done)]))]), (9, .both [(5, .take 10 (.both [(11, .done)]))])])), (5, .both [(3, .take 8 (.both [(9, .take 10 (.both [(11, .done)]))]))])])])), (3, .both [(1, .take 6 (.both [(5, .both [(7, .take 8 (.both [(9, .take 10 (.both [(11, .done)]))]))]), (7, .take 8 (.both [(5, .both [(9, .take 10 (.both [(11, .done)]))]), (9, .both [(5, .take 10 (.both [(11, .done)]))])]))])), (5, .both [(1, .take 6 (.both [(7, .take 8 (.both [(9, .take 10 (.both [(11, .done)]))]))]))])]), (5, .both [(1, .take 6 (.both [(3, .both [(7, .take 8 (.both [(9, .take 10 (.both [(11, .done)]))]))]), (7, .both [(3, .take 8 (.both [(9, .take 10 (.both [(11, .done)]))]))])])), (3, .both [(1, .take 6 (.both [(7, .take 8 (.both [(9, .take 10 (.both [(11, .done)]))]))]))])])])))) (by kernel_rfl) (by kernel_rfl) ?_ ?_
    · refine zc ?_;try exact trivial
      repeat' (with_reducible apply And.intro)
      all_goals first | exact leCs_refl _ | trace_state
    refine zc ?_;try exact trivial
    all_goals simp only [@eq_comm Int 0]
  · unfold bareB
    refine zc ?_;try exact trivial
    all_goals simp only [@eq_comm Int 0]
  · unfold bareB
    refine zc ?_;try exact trivial
    refine a_drawC (⟨[.undef, V.cell (.ptr (.loc [1]) 0), V.bool false, V.cell (.ptr (.loc [3]) 0), U, U, U, U, U, U, U, U, U, U, U, U, U, U, U, U, U, U, U, U, U, U, U, U, U, U, U, U, U, U, U, U, U, U, U, U, U, U, U, U, U, U, U, .undef], [(.loc [3], evC ⟨3, player, 0, frame, inp, 0⟩), (.loc [1], evC ⟨3, player, other, frame, inp, n⟩)]⟩) (.take 0 (.take 2 (.take 4 (.both [(1, .take 6 (.both [(3, .both [(5, .both [(7, .take 8 (.both [(9, .take 10 (.both [(11, .done)]))]))]), (7, .take 8 (.both [(5, .both [(9, .take 10 (.both [(11, .done)]))]), (9, .both [(5, .take 10 (.both [(11, .done)]))])]))]), (5, .both [(3, .both [(7, .take 8 (.both [(9, .take 10 (.both [(11, .done)]))]))]), (7, .both [(3, .take 8 (.both [(9, .take 10 (.both [(11, .done)]))]))])]), (7, .both [(3, .take 8 (.both [(5, .both [(9, .take 10 (.both [(11, .done)]))]), (9, .both [(5, .take 10 (.both [(11, .done)]))])])), (5, .both [(3, .take 8 (.both [(9, .take 10 (.both [(11, .done)]))]))])])])), (3, .both [(1, .take 6 (.both [(5, .both [(7, .take 8 (.both [(9, .take 10 (.both [(11, .done)]))]))]), (7, .take 8 (.both [(5, .both [(9, .take 10 (.both [(11, .done)]))]), (9, .both [(5, .take 10 (.both [(11, .done)]))])]))])), (5, .both [(1, .take 6 (.both [(7, .take 8 (.both [(9, .take 10 (.both [(11, .done)]))]))]))])]), (5, .both [(1, .take 6 (.both [(3, .both [(7, .take 8 (.both [(9, .take 10 (.both [(11, .done)]))]))]), (7, .both [(3, .take 8 (.both [(9, .take 10 (.both [(11, .done)]))]))])])), (3, .both [(1, .take 6 (.both [(7, .take 8 (.both [(9, .take 10 (.both [(11, .done)]))]))]))])])])))) (by kernel_rfl) (by kernel_rfl) ?_ ?_
    · refine zc ?_;try exact trivial
      repeat' (with_reducible apply And.intro)
      all_goals first | exact leCs_refl _ | trace_state
    refine zc ?_;try exact trivial
    all_goals simp only [@eq_comm Int 0]
  · unfold bareB
    refine zc ?_;try exact trivial
    all_goals simp only [@eq_comm Int 0]
  unfold bareB
  refine zc ?_;try exact trivial
  refine a_drawC (⟨[.undef, V.cell (.ptr (.loc [1]) 0), V.bool false, V.cell (.ptr (.loc [3]) 0), U, U, U, U, U, U, U, U, U, U, U, U, U, U, U, U, U, U, U, U, U, U, U, U, U, U, U, U, U, U, U, U, U, U, U, U, U, U, U, U, U, U, U, .undef], [(.loc [3], evC ⟨5, player, 0, 0, 0, n⟩), (.loc [1], evC ⟨5, player, other, frame, inp, n⟩)]⟩) (.take 0 (.take 2 (.both [(1, .take 4 (.both [(3, .both [(5, .take 6 (.both [(7, .done)]))]), (5, .both [(3, .take 6 (.both [(7, .done)]))])])), (3, .both [(1, .take 4 (.both [(5, .take 6 (.both [(7, .done)]))]))])]))) (by kernel_rfl) (by kernel_rfl) ?_ ?_
  · refine zc ?_;try exact trivial
    repeat' (with_reducible apply And.intro)
    all_goals first | exact leCs_refl _ | trace_state
  refine zc ?_;try exact trivial
  all_goals simp only [@eq_comm Int 0]
end
end Go.Proofs.YtgeelaafmnedmaaGreat
