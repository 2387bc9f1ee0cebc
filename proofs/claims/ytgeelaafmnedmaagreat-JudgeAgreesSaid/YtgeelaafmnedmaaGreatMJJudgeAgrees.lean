/- Parts of a proof: Chapter 21 in the logic: who gives up; the events of acts that a match takes, The law JudgeHash in the logic, The law JudgeAgrees in the logic, The row of the law gauntletlaw21.JudgeAgrees. -/
import Derived.Test.YtgeelaafmnedmaaGreatMJ7
import Derived.Test.YtgeelaafmnedmaaGreatMJ6
set_option linter.unusedSimpArgs false
set_option linter.unusedVariables false
open Go Go.RowKit
namespace Go.Proofs.YtgeelaafmnedmaaGreat
section
def k21 : List Ev := [⟨1, 1, 2, 0, 0, 0⟩, ⟨4, 1, 0, 0, 0, 0⟩]
theorem k21_g : gameP [] 5 5 = 0 := by decide
theorem k21_e : (ovE (ctNew [] 5 5) 0 k21).2 = 0 := by decide
theorem k21_v : vdP (ovC (ctNew [] 5 5) k21) = (1, 3, true) := by decide
theorem k21_p : (ovC (ctNew [] 5 5) k21).pairs.length = 0 := by decide
set_option maxRecDepth 20000 in
set_option maxHeartbeats 4000000 in
theorem known_h21 : Holds Tryz.prog 10 [] [] (fun r h' => r = V.bool true ∧ h' = []) := by
  have hn := judge_ok [] 5 5 k21 (by simp) (by simp [k21]) k21_g k21_e
  unfold vdR at hn
  rw [k21_v, k21_p] at hn
  generalize encS (ovC (ctNew [] 5 5) k21).st = E at hn
  have ek : evs k21 = [.val (.int .i64 1), .val (.int .i64 1), .val (.int .i64 2), .val (.int .i64 0), .val (.int .u16 0), .val (.int .i64 0), .val (.int .i64 4), .val (.int .i64 1), .val (.int .i64 0), .val (.int .i64 0), .val (.int .u16 0), .val (.int .i64 0)] := rfl
  rw [ek] at hn
  refine holds_of_awp Tryz.func10 rfl (by decide +kernel) mixed Tryz.ntmps10 Tryz.results10 ?_
  refine zE ?_
  refine zc ?_;try exact trivial
  refine a_call [] (hn) ok0 ?_ ?_ ?_
  · refine zs ?_;try exact trivial
  · refine zs ?_;try exact trivial
  rintro _ _ ⟨rfl, rfl⟩
  refine zc ?_;try exact trivial
/-- the match that acts make -/
def tkC (c : Ct) (l : List Act) : Nat → Ct
  | 0 => c
  | n + 1 => nextP (tkC c l n) (eventP (tkC c l n) (gac l n))
theorem tk_inv {c : Ct} {l : List Act} (h : Inv18 c) : ∀ n, Inv18 (tkC c l n)
  | 0 => h
  | n + 1 => (tk_inv h n).next _
theorem tk_two {c : Ct} {l : List Act} (h : Two c) : ∀ n, Two (tkC c l n)
  | 0 => h
  | n + 1 => (tk_two h n).next _
theorem tk_len {c : Ct} {l : List Act} : ∀ n, (tkC c l n).events.length ≤ c.events.length + n
  | 0 => Nat.le_refl _
  | n + 1 => by
    have h1 := tk_len (c := c) (l := l) n
    have h2 := next_events (c := tkC c l n) (e := eventP (tkC c l n) (gac l n))
    show (nextP (tkC c l n) (eventP (tkC c l n) (gac l n))).events.length ≤ _
    omega
theorem tk_rp {c : Ct} {l : List Act} (hN : Nr c) (h : Inv18 c) (h2 : Two c) (hr : ∃ d, Rp c c d) : ∀ n, ∃ d, Rp c (tkC c l n) d
  | 0 => hr
  | n + 1 => by
    obtain ⟨d, hd⟩ := tk_rp hN h h2 hr n
    exact hd.next hN (tk_inv h n) (tk_two h2 n) _
section
variable (code : List (Int × Int)) (cap fuel : Int) (l : List Act) (hcl : code.length ≤ 9223372036854775807)
include hcl
set_option maxRecDepth 20000 in
set_option maxHeartbeats 4000000 in
theorem ltaken_bad (hg : gameP code cap fuel ≠ 0) : Holds Tryz.prog 9 [.game code cap fuel, .c (.lst .no none 10 (acs l))] [] (fun r h' => r = .tup [.c (.lst .no none 6 (evs [])), .c (.val (.pointer none))] ∧ h' = []) := by
  have hn := rnew_bad code cap fuel hcl hg
  have dg : decide (gameP code cap fuel = 0) = false := decide_eq_false hg
  generalize gameP code cap fuel = v at hn dg
  refine holds_of_awp Tryz.func9 rfl (by decide +kernel) mixed Tryz.ntmps9 Tryz.results9 ?_
  refine zE ?_
  refine zs ?_;try exact trivial
  refine a_call [] (hn) ok0 ?_ ?_ ?_
  · refine zs ?_;try exact trivial
  · refine zs ?_;try exact trivial
  rintro _ _ ⟨rfl, rfl⟩
  simp (maxSteps:=2000000) (disch:=omega) only [go_sem,Nat.reduceAdd,Nat.reduceSub,Nat.reduceMul,Nat.reduceBEq,Nat.reduceEqDiff,Nat.reduceLT,Nat.reduceLeDiff,Nat.reduceDiv,reduceIte,reduceCtorEq, dg, decide_not, Bool.not_false]
  all_goals (rw [show evs [] = [] from rfl]; simp [leC])
set_option maxRecDepth 20000 in
set_option maxHeartbeats 4000000 in
theorem ltaken_h (hll : l.length ≤ 9223372036854775807) (hg : gameP code cap fuel = 0) : Holds Tryz.prog 9 [.game code cap fuel, .c (.lst .no none 10 (acs l))] [] (fun r h' => r = .tup [.c (.lst .no none 6 (evs (tkC (ctNew code cap fuel) l (min l.length 120)).events)), .c (.ptr (.loc [11, 0, 12]) 0)] ∧ h' = [(.loc [11, 0, 12], rfB (.loc [11, 0, 12]) (tkC (ctNew code cap fuel) l (min l.length 120)))]) := by
  have hn := rnew_ok code cap fuel hcl hg
  have hI := inv_new hg
  have h0 : (ctNew code cap fuel).events.length = 0 := rfl
  generalize ctNew code cap fuel = c0 at hn hI h0
  refine holds_of_awp Tryz.func9 rfl (by decide +kernel) mixed Tryz.ntmps9 Tryz.results9 ?_
  refine zE ?_
  refine zs ?_;try exact trivial
  refine a_call [] (hn) ok0 ?_ ?_ ?_
  · refine zs ?_;try exact trivial
  · refine zs ?_;try exact trivial
  rintro _ _ ⟨rfl, rfl⟩
  refine zc ?_;try exact trivial
  refine a_loopk (fun i : Nat => ⟨[.undef, V.cell (.lst .no none 10 (acs l)), U, U, U, U, V.cell (.ptr (.loc [11, 0, 12]) 0), .undef, V.int .i64 (i : Int), U, U, U, U, U, U, U, U, U, U, U, U, U, U, U, U, U, U, U, U, U, U, U, U, U, U, U, U, U, .undef], [(.loc [11, 0, 12], rfB (.loc [11, 0, 12]) (tkC c0 l i))]⟩) (fun i => i ≤ min l.length 120) (fun i => 120 - i) 0 (by omega) ?_ ?_
  · rw [show tkC c0 l 0 = c0 from rfl]
    try (refine zs ?_; try exact trivial)
  intro i hi
  have hI2 := tk_inv (l := l) hI i
  have hl2 := tk_len (c := c0) (l := l) i
  refine zs ?_;try exact trivial
  cases g1 : decide ((i : Int) < (l.length : Int))
  · have e : min l.length 120 = i := by have := of_decide_eq_false g1; omega
    rw [e]
    simp (maxSteps:=2000000) (disch:=omega) only [go_sem,Nat.reduceAdd,Nat.reduceSub,Nat.reduceMul,Nat.reduceBEq,Nat.reduceEqDiff,Nat.reduceLT,Nat.reduceLeDiff,Nat.reduceDiv,reduceIte,reduceCtorEq, g1]
    all_goals first | exact leCs_refl _ | trace_state
  have q1 := of_decide_eq_true g1
  cases g2 : decide ((i : Int) < 120)
  · have e : min l.length 120 = i := by have := of_decide_eq_false g2; omega
    rw [e]
    simp (maxSteps:=2000000) (disch:=omega) only [go_sem,Nat.reduceAdd,Nat.reduceSub,Nat.reduceMul,Nat.reduceBEq,Nat.reduceEqDiff,Nat.reduceLT,Nat.reduceLeDiff,Nat.reduceDiv,reduceIte,reduceCtorEq, g1, g2]
    all_goals first | exact leCs_refl _ | trace_state
  have q2 := of_decide_eq_true g2
  have e2 : tkC c0 l (i + 1) = nextP (tkC c0 l i) (eventP (tkC c0 l i) (gac l i)) := rfl
  have hev := event_h (tkC c0 l i) (gac l i) hI2 (by omega)
  have m4 := rapply_all (tkC c0 l i) (eventP (tkC c0 l i) (gac l i)) hI2 (by omega)
  rw [← e2] at m4
  simp (maxSteps:=2000000) (disch:=omega) only [go_sem,Nat.reduceAdd,Nat.reduceSub,Nat.reduceMul,Nat.reduceBEq,Nat.reduceEqDiff,Nat.reduceLT,Nat.reduceLeDiff,Nat.reduceDiv,reduceIte,reduceCtorEq, g1, g2]
  refine a_call [.loc [11, 0, 12]] (hev) (ok1 rfl) ?_ ?_ ?_
  · refine zs ?_;try exact trivial
  · refine zs ?_;try exact trivial
  rintro _ _ ⟨rfl, rfl⟩
  refine zc ?_;try exact trivial
  refine a_call [.loc [11, 0, 12]] (m4) (ok1 rfl) ?_ ?_ ?_
  · refine zs ?_;try exact trivial
  · refine zs ?_;try exact trivial
  rintro _ _ ⟨rfl, rfl⟩
  refine zc ?_;try exact trivial
  refine ⟨i + 1, by omega, by omega, ?_⟩
  try (refine zc ?_; try exact trivial)
  all_goals first | exact leCs_refl _ | exact ⟨rfl, leCs_refl _⟩ | trace_state
end
end
section
/-- a match's own events, anew -/
theorem anew {code : List (Int × Int)} {cap fuel : Int} (hg : gameP code cap fuel = 0) (l : List Act) (n : Nat) :
    ∃ d, Rp (ctNew code cap fuel) (tkC (ctNew code cap fuel) l n) d ∧ Inv18 (tkC (ctNew code cap fuel) l n) ∧ (tkC (ctNew code cap fuel) l n).events.length ≤ n ∧ Nr d := by
  have h2 : Two (ctNew code cap fuel) := fun h => by cases h
  obtain ⟨d, hd⟩ := tk_rp (l := l) (nr_new code cap fuel) (inv_new hg) h2 ⟨_, rp_new code cap fuel⟩ n
  refine ⟨d, hd, tk_inv (inv_new hg) n, ?_, hd.hd ▸ (nr_new code cap fuel).ov⟩
  have := tk_len (c := ctNew code cap fuel) (l := l) n
  have h0 : (ctNew code cap fuel).events.length = 0 := rfl
  omega
theorem Rp.st {c0 c d : Ct} (h : Rp c0 c d) : c.st = d.st ∧ c.cap = d.cap ∧ c.pairs = d.pairs := by
  rcases h.eq with q | q
  · rw [q]; exact ⟨rfl, rfl, rfl⟩
  exact ⟨q.2.2.2.1, q.2.2.2.2.1, q.2.2.2.2.2.1⟩
set_option maxRecDepth 20000 in
set_option maxHeartbeats 8000000 in
theorem judgeHash_h (code : List (Int × Int)) (cap fuel : Int) (l : List Act) (hcl : code.length ≤ 9223372036854775807) (hll : l.length ≤ 9223372036854775807) :
    Holds Tryz.prog 4 [.game code cap fuel, .c (.lst .no none 10 (acs l))] [] (fun r h' => r = V.bool true ∧ h' = []) := by
  refine holds_of_awp Tryz.func4 rfl (by decide +kernel) mixed Tryz.ntmps4 Tryz.results4 ?_
  refine zE ?_
  refine zc ?_;try exact trivial
  refine a_call [] (slow_h code cap fuel) ok0 ?_ ?_ ?_
  · refine zs ?_;try exact trivial
  · refine zs ?_;try exact trivial
  rintro _ _ ⟨rfl, rfl⟩
  cases hs : slowP code fuel
  · refine zc ?_;try exact trivial
    by_cases hg : gameP code cap fuel = 0
    · have hn := ltaken_h code cap fuel l hcl hll hg
      obtain ⟨d, hd, hI, hlen, hN⟩ := anew hg l (min l.length 120)
      generalize tkC (ctNew code cap fuel) l (min l.length 120) = c at hn hd hI hlen
      have hj := judge_ok code cap fuel c.events hcl (by omega) hg hd.he
      rw [hd.hd] at hj
      obtain ⟨s1, s2, s3⟩ := hd.st
      have hst := rst_h c hI (by omega)
      have hh := rhash_h c.st hI.fr.1 hI.fr.2
      unfold vdR at hj
      rw [← s1] at hj
      generalize vdP d = q at hj
      generalize shaH (encS c.st) = H at hj hh
      refine a_call [] (hn) ok0 ?_ ?_ ?_
      · refine zs ?_;try exact trivial
      · refine zs ?_;try exact trivial
      rintro _ _ ⟨rfl, rfl⟩
      refine zc ?_;try exact trivial
      refine a_call [] (hj) ok0 ?_ ?_ ?_
      · refine zs ?_;try exact trivial
      · refine zs ?_;try exact trivial
      rintro _ _ ⟨rfl, rfl⟩
      refine zc ?_;try exact trivial
      refine a_draw (.take 0 (.take 1 (.take 2 (.take 3 (.take 5 (.both [(4, .both [(6, .both [(7, .take 8 (.take 9 (.take 10 (.both [(11, .take 12 (.take 13 (.done)))]))))])]), (6, .both [(4, .both [(7, .take 8 (.take 9 (.take 10 (.both [(11, .take 12 (.take 13 (.done)))]))))]), (7, .both [(4, .take 8 (.take 9 (.take 10 (.both [(11, .take 12 (.take 13 (.done)))]))))])])])))))) (by kernel_rfl) (by kernel_rfl) ?_
      refine zc ?_;try exact trivial
      repeat' (with_reducible apply And.intro)
      all_goals (
        refine a_call [.loc [15, 0, 11, 0, 12]] hst (ok1 rfl) ?_ ?_ ?_
        · refine zs ?_;try exact trivial
        · refine zs ?_;try exact trivial
        rintro _ _ ⟨rfl, rfl⟩
        refine zc ?_;try exact trivial
        repeat' (with_reducible apply And.intro)
        all_goals (
          refine a_call [] hh ok0 ?_ ?_ ?_
          · refine zs ?_;try exact trivial
          · refine zs ?_;try exact trivial
          rintro _ _ ⟨rfl, rfl⟩
          simp (maxSteps:=2000000) (disch:=omega) only [go_sem,Nat.reduceAdd,Nat.reduceSub,Nat.reduceMul,Nat.reduceBEq,Nat.reduceEqDiff,Nat.reduceLT,Nat.reduceLeDiff,Nat.reduceDiv,reduceIte,reduceCtorEq, decide_true, decide_eq_true_eq, Int.reduceLT]
          repeat' (with_reducible apply And.intro)
          all_goals (
            refine a_call [] known_h21 ok0 ?_ ?_ ?_
            · refine zs ?_;try exact trivial
            · refine zs ?_;try exact trivial
            rintro _ _ ⟨rfl, rfl⟩
            refine zc ?_;try exact trivial
            all_goals trace_state)))
    have hn := ltaken_bad code cap fuel l hcl hg
    refine a_call [] (hn) ok0 ?_ ?_ ?_
    · refine zs ?_;try exact trivial
    · refine zs ?_;try exact trivial
    rintro _ _ ⟨rfl, rfl⟩
    refine zc ?_;try exact trivial
    refine a_call [] (known_h21) ok0 ?_ ?_ ?_
    · refine zs ?_;try exact trivial
    · refine zs ?_;try exact trivial
    rintro _ _ ⟨rfl, rfl⟩
    refine zc ?_;try exact trivial
  refine zc ?_;try exact trivial
end
section
theorem Rp.vd {c0 c d : Ct} (h : Rp c0 c d) : c.over = true → vdP d = (c.winner, c.why, true) := by
  intro o
  rcases h.eq with q | q
  · rw [← q]; unfold vdP; rw [if_pos o]
  unfold vdP; rw [if_neg (by rw [q.1]; simp)]; exact q.2.2.2.2.2.2.1
/-- what a match wrote down as its result agrees -/
theorem own_agrees {c0 c d : Ct} (hn : Nr c0) (hc : c0.opn = false) (h : Rp c0 c d) (hN : Nr d) :
    (∀ e ∈ c.events, e.kind ≠ 5) ∨ ∃ i, i < c.events.length ∧ (∀ e ∈ c.events.take i, e.kind ≠ 5) ∧ (gev c.events i).kind = 5 ∧ agP d c.events i (gev c.events i) = true := by
  rcases h.eq with q | q
  · left; rw [q]; exact hN.nor
  right
  obtain ⟨o1, o2, o3, o4, o5, o6, o7, o8, o9, x, x1, x2, x3, x4⟩ := q
  have hlt : d.events.length < c.events.length := by rw [x1]; simp
  have e1 : c.events.take d.events.length = d.events := by rw [x1, List.take_left']; rfl
  have e2 : gev c.events d.events.length = x := by unfold gev; rw [x1]; simp
  refine ⟨d.events.length, hlt, by rw [e1]; exact o8, by rw [e2]; exact x2, ?_⟩
  rw [e2]
  have hv : vdP d = resP d.st d.cap := by unfold vdP; rw [if_neg (by rw [o1]; simp)]
  have hp : d.p0 = (c.events.getD 0 ⟨0, 0, 0, 0, 0, 0⟩).player ∧ d.p1 = (c.events.getD 0 ⟨0, 0, 0, 0, 0, 0⟩).other ∧ 0 < d.events.length := by
    cases hde : d.events with
    | nil =>
      rw [hde] at x1
      have hd := h.hd
      rw [x1] at hd
      have : ovC c0 ([] ++ [x]) = c0 := by show ovC c0 [x] = c0; rw [ovC_cons, if_pos x2]; rfl
      rw [this] at hd
      rw [← hd, hc] at o9
      cases o9
    | cons e a =>
      have hk : e.kind ≠ 5 := o8 e (by rw [hde]; exact List.mem_cons_self ..)
      have he := h.he
      have hd := h.hd
      rw [x1, hde] at he hd
      have := ov_first hc (l := a ++ [x]) hk he
      have hd' : ovC c0 (e :: (a ++ [x])) = d := hd
      rw [hd'] at this
      rw [x1, hde]
      exact ⟨this.2.1, this.2.2, by simp⟩
  unfold agP
  rw [hv, decide_eq_true (show d.events.length + 1 = c.events.length by rw [x1]; simp), decide_eq_true hp.2.2, o7, decide_eq_true (show (c.winner, c.why, true).2.1 ≠ 3 by rw [← o7]; exact resP_why), ← hp.1, ← hp.2.1]
  rw [o7] at x3 x4
  rw [decide_eq_true x3, decide_eq_true x4]
  rfl
set_option maxRecDepth 20000 in
set_option maxHeartbeats 8000000 in
theorem judgeAgrees_h (code : List (Int × Int)) (cap fuel : Int) (l : List Act) (hcl : code.length ≤ 9223372036854775807) (hll : l.length ≤ 9223372036854775807) :
    Holds Tryz.prog 7 [.game code cap fuel, .c (.lst .no none 10 (acs l))] [] (fun r h' => r = V.bool true ∧ h' = []) := by
  refine holds_of_awp Tryz.func7 rfl (by decide +kernel) mixed Tryz.ntmps7 Tryz.results7 ?_
  refine zE ?_
  refine zc ?_;try exact trivial
  refine a_call [] (slow_h code cap fuel) ok0 ?_ ?_ ?_
  · refine zs ?_;try exact trivial
  · refine zs ?_;try exact trivial
  rintro _ _ ⟨rfl, rfl⟩
  cases hs : slowP code fuel
  · refine zc ?_;try exact trivial
    by_cases hg : gameP code cap fuel = 0
    · have hn := ltaken_h code cap fuel l hcl hll hg
      obtain ⟨d, hd, hI, hlen, hN⟩ := anew hg l (min l.length 120)
      generalize tkC (ctNew code cap fuel) l (min l.length 120) = c at hn hd hI hlen
      have hj := judge_ok code cap fuel c.events hcl (by omega) hg hd.he
      rw [hd.hd] at hj
      obtain ⟨s1, s2, s3⟩ := hd.st
      have ha := agrees_ok code cap fuel c.events hcl (by omega) hg hd.he
      rw [hd.hd] at ha
      have hp := rpairs_h c hI (by omega)
      have hag := own_agrees (nr_new code cap fuel) rfl hd hN
      unfold vdR at hj
      rw [← s3] at hj
      have hvd : c.over = true → vdP d = (c.winner, c.why, true) := hd.vd
      generalize vdP d = q at hj hvd
      generalize shaH (encS d.st) = H at hj
      refine a_call [] (hn) ok0 ?_ ?_ ?_
      · refine zs ?_;try exact trivial
      · refine zs ?_;try exact trivial
      rintro _ _ ⟨rfl, rfl⟩
      refine zc ?_;try exact trivial
      refine a_call [] (hj) ok0 ?_ ?_ ?_
      · refine zs ?_;try exact trivial
      · refine zs ?_;try exact trivial
      rintro _ _ ⟨rfl, rfl⟩
      refine zc ?_;try exact trivial
      refine a_call [] (ha) ok0 ?_ ?_ ?_
      · refine zs ?_;try exact trivial
      · refine zs ?_;try exact trivial
      rintro r _ ⟨rfl, h1, h2⟩
      obtain rfl : r = .tup [.c (.val (.bool true)), .int .i64 0] := by
        rcases hag with g | ⟨i, g1, g2, g3, g4⟩
        · exact h1 g
        rw [h2 i g1 g2 g3, g4]
      refine zc ?_;try exact trivial
      rcases Bool.eq_false_or_eq_true c.over with o | o
      rotate_left
      · have g : (!c.over) = true := by rw [o]; rfl
        clear hvd
        refine a_draw (.take 0 (.take 1 (.take 2 (.both [(3, .take 4 (.take 5 (.take 6 (.both [(7, .take 8 (.take 9 (.take 11 (.take 12 (.take 13 (.both [(10, .both [(14, .take 15 (.take 16 (.take 17 (.take 18 (.take 20 (.take 21 (.take 22 (.both [(19, .both [(23, .take 24 (.take 25 (.take 26 (.take 27 (.take 28 (.take 30 (.both [(29, .both [(31, .take 32 (.take 33 (.take 34 (.take 35 (.both [(36, .take 37 (.take 38 (.done)))])))))]), (31, .take 32 (.both [(29, .take 33 (.take 34 (.take 35 (.both [(36, .take 37 (.take 38 (.done)))]))))]))])))))))]), (23, .both [(19, .take 24 (.take 25 (.take 26 (.take 27 (.take 28 (.take 30 (.both [(29, .both [(31, .take 32 (.take 33 (.take 34 (.take 35 (.both [(36, .take 37 (.take 38 (.done)))])))))]), (31, .take 32 (.both [(29, .take 33 (.take 34 (.take 35 (.both [(36, .take 37 (.take 38 (.done)))]))))]))])))))))])]))))))))]), (14, .both [(10, .take 15 (.take 16 (.take 17 (.take 18 (.take 20 (.take 21 (.take 22 (.both [(19, .both [(23, .take 24 (.take 25 (.take 26 (.take 27 (.take 28 (.take 30 (.both [(29, .both [(31, .take 32 (.take 33 (.take 34 (.take 35 (.both [(36, .take 37 (.take 38 (.done)))])))))]), (31, .take 32 (.both [(29, .take 33 (.take 34 (.take 35 (.both [(36, .take 37 (.take 38 (.done)))]))))]))])))))))]), (23, .both [(19, .take 24 (.take 25 (.take 26 (.take 27 (.take 28 (.take 30 (.both [(29, .both [(31, .take 32 (.take 33 (.take 34 (.take 35 (.both [(36, .take 37 (.take 38 (.done)))])))))]), (31, .take 32 (.both [(29, .take 33 (.take 34 (.take 35 (.both [(36, .take 37 (.take 38 (.done)))]))))]))])))))))])]))))))))])]))))))]))))])))) (by kernel_rfl) (by kernel_rfl) ?_
        simp (maxSteps:=2000000) (disch:=omega) only [go_sem,Nat.reduceAdd,Nat.reduceSub,Nat.reduceMul,Nat.reduceBEq,Nat.reduceEqDiff,Nat.reduceLT,Nat.reduceLeDiff,Nat.reduceDiv,reduceIte,reduceCtorEq, g, decide_true, Bool.not_true, Bool.not_false, Int.reduceLT]
        repeat' (with_reducible apply And.intro)
        all_goals (
          refine a_call [.loc [17, 0, 11, 0, 12]] hp (ok1 rfl) ?_ ?_ ?_
          · refine zs ?_;try exact trivial
          · refine zs ?_;try exact trivial
          rintro _ _ ⟨rfl, rfl⟩
          simp (maxSteps:=2000000) (disch:=omega) only [go_sem,Nat.reduceAdd,Nat.reduceSub,Nat.reduceMul,Nat.reduceBEq,Nat.reduceEqDiff,Nat.reduceLT,Nat.reduceLeDiff,Nat.reduceDiv,reduceIte,reduceCtorEq, g, decide_true, Bool.not_true, Bool.not_false, Int.reduceLT]
          repeat' (with_reducible apply And.intro)
          all_goals (
            refine a_call [] known_h21 ok0 ?_ ?_ ?_
            · refine zs ?_;try exact trivial
            · refine zs ?_;try exact trivial
            rintro _ _ ⟨rfl, rfl⟩
            refine zc ?_;try exact trivial
            all_goals trace_state))
      have g : (!c.over) = false := by rw [o]; rfl
      obtain rfl := hvd o
      refine a_draw (.take 0 (.take 1 (.take 2 (.both [(3, .take 4 (.take 5 (.take 6 (.both [(7, .take 8 (.take 9 (.take 11 (.take 12 (.take 13 (.both [(10, .both [(14, .take 15 (.take 16 (.take 17 (.take 18 (.take 20 (.take 21 (.take 22 (.both [(19, .both [(23, .take 24 (.take 25 (.take 26 (.take 27 (.take 28 (.take 30 (.both [(29, .both [(31, .take 32 (.take 33 (.take 34 (.take 35 (.both [(36, .take 37 (.take 38 (.done)))])))))]), (31, .take 32 (.both [(29, .take 33 (.take 34 (.take 35 (.both [(36, .take 37 (.take 38 (.done)))]))))]))])))))))]), (23, .both [(19, .take 24 (.take 25 (.take 26 (.take 27 (.take 28 (.take 30 (.both [(29, .both [(31, .take 32 (.take 33 (.take 34 (.take 35 (.both [(36, .take 37 (.take 38 (.done)))])))))]), (31, .take 32 (.both [(29, .take 33 (.take 34 (.take 35 (.both [(36, .take 37 (.take 38 (.done)))]))))]))])))))))])]))))))))]), (14, .both [(10, .take 15 (.take 16 (.take 17 (.take 18 (.take 20 (.take 21 (.take 22 (.both [(19, .both [(23, .take 24 (.take 25 (.take 26 (.take 27 (.take 28 (.take 30 (.both [(29, .both [(31, .take 32 (.take 33 (.take 34 (.take 35 (.both [(36, .take 37 (.take 38 (.done)))])))))]), (31, .take 32 (.both [(29, .take 33 (.take 34 (.take 35 (.both [(36, .take 37 (.take 38 (.done)))]))))]))])))))))]), (23, .both [(19, .take 24 (.take 25 (.take 26 (.take 27 (.take 28 (.take 30 (.both [(29, .both [(31, .take 32 (.take 33 (.take 34 (.take 35 (.both [(36, .take 37 (.take 38 (.done)))])))))]), (31, .take 32 (.both [(29, .take 33 (.take 34 (.take 35 (.both [(36, .take 37 (.take 38 (.done)))]))))]))])))))))])]))))))))])]))))))]))))])))) (by kernel_rfl) (by kernel_rfl) ?_
      simp (maxSteps:=2000000) (disch:=omega) only [go_sem,Nat.reduceAdd,Nat.reduceSub,Nat.reduceMul,Nat.reduceBEq,Nat.reduceEqDiff,Nat.reduceLT,Nat.reduceLeDiff,Nat.reduceDiv,reduceIte,reduceCtorEq, g, decide_true, Bool.not_true, Bool.not_false, Int.reduceLT]
      repeat' (with_reducible apply And.intro)
      all_goals (
        refine a_call [.loc [17, 0, 11, 0, 12]] hp (ok1 rfl) ?_ ?_ ?_
        · refine zs ?_;try exact trivial
        · refine zs ?_;try exact trivial
        rintro _ _ ⟨rfl, rfl⟩
        simp (maxSteps:=2000000) (disch:=omega) only [go_sem,Nat.reduceAdd,Nat.reduceSub,Nat.reduceMul,Nat.reduceBEq,Nat.reduceEqDiff,Nat.reduceLT,Nat.reduceLeDiff,Nat.reduceDiv,reduceIte,reduceCtorEq, g, decide_true, Bool.not_true, Bool.not_false, Int.reduceLT]
        repeat' (with_reducible apply And.intro)
        all_goals (
          refine a_call [] known_h21 ok0 ?_ ?_ ?_
          · refine zs ?_;try exact trivial
          · refine zs ?_;try exact trivial
          rintro _ _ ⟨rfl, rfl⟩
          refine zc ?_;try exact trivial
          all_goals trace_state))
    have hn := ltaken_bad code cap fuel l hcl hg
    refine a_call [] (hn) ok0 ?_ ?_ ?_
    · refine zs ?_;try exact trivial
    · refine zs ?_;try exact trivial
    rintro _ _ ⟨rfl, rfl⟩
    refine zc ?_;try exact trivial
    refine a_call [] (known_h21) ok0 ?_ ?_ ?_
    · refine zs ?_;try exact trivial
    · refine zs ?_;try exact trivial
    rintro _ _ ⟨rfl, rfl⟩
    refine zc ?_;try exact trivial
  refine zc ?_;try exact trivial
end
end Go.Proofs.YtgeelaafmnedmaaGreat
/- The row of the law gauntletlaw21.JudgeAgrees. -/
open Go Go.RowKit Go.ChangeShapes Go.WideShapes Go.ChangeAt
namespace Go.Proofs.YtgeelaafmnedmaaGreat.judgeAgrees
set_option linter.unusedVariables false
set_option maxRecDepth 100000 in
theorem lifted (os : Os) (started : os.Started) (H : Type) (enc : TypeId × Value → H) :
    ReturnsInHanded {} Tryz.checked os 7 .any (Rows.judgeAgreesSpec.pre6 enc Tryz.prog Tryz.f7 Rows.judgeAgreesRow.domain false) (Rows.judgeAgreesSpec.post enc Tryz.prog Tryz.f7 false true false false) := by
  refine returnsInHanded_of_change_sized (C := Tryz.checked) rowOwn started (by kernel_rfl) Tryz.func7
    (ChangeSpec.witness6 (enc := enc) (C := Tryz.checked) false ⟨#[], #[.agg #[.slice none 0 0, .int .i64 0, .int .i64 0], .slice none 0 0], []⟩ 8 (by kernel_rfl) (by kernel_rfl) (by kernel_rfl) (by kernel_rfl)) ?_
  intro W base args ds gs before hval0 hW hcnd hsz0 _
  have hsz : (DataW.weightsEach Tryz.prog (Tryz.f7.params.toList ++ Rows.judgeAgreesSpec.plain.varTypes Tryz.prog) (ds ++ gs)).all (· ≤ reachBytes) = true := hsz0
  have hval : ∀ (j : Nat) t v, Tryz.f7.params[j]? = some t → args[j]? = some v → Value.okWide Tryz.prog W .any base t v := hval0
  have hW' := hW
  obtain ⟨p, q, hA0, hV, rfl, hfz, hnd⟩ := hW
  have hA : DataW.TrodAll enc Tryz.prog W 0 (fun _ => true) true Tryz.f7.params.toList args.toList ds p := hA0
  rw [Tryz.params7] at hA hval hsz
  obtain ⟨v0, vs0, d0, ds0, pp0, q0, hargs, rfl, rfl, h0, r0⟩ := trodAll_cons hA
  obtain ⟨v1, vs1, d1, ds1, pp1, q1, rfl, rfl, rfl, h1, r1⟩ := trodAll_cons r0
  obtain ⟨rfl, rfl, rfl⟩ := trodAll_nil r1
  obtain rfl : args = #[v0, v1] := by cases args; simp_all
  obtain ⟨rfl, rfl⟩ := trodVars_none hV
  have k0 := h0
  have lt0 := places_lt h0
  obtain ⟨code0, cap0, fu0, hr0, hl0, hb0, hf0⟩ := open_game (hval 0 24 v0 rfl rfl) h0
  have k1 := h1
  have lt1 := places_lt h1
  obtain ⟨l1, hr1, hl1⟩ := open_acts (hval 1 25 v1 rfl rfl) h1
  clear hA0 hval0 hsz0 hsz
  refine ((judgeAgrees_h code0 cap0 fu0 l1 hl0 hl1).calls W (globNone rfl W) (.cons hr0 (.cons hr1 .nil))).mono fun e W' ⟨he, kept⟩ => ?_
  have bel := kept.below
  subst he
  exact ⟨_, rfl, _, _, _, [], _, [], hW', trodAll_mk1 (shut_bool Tryz.underlying4 _), (trodAll_cons_mk (Below.trod rowLaid (by kernel_rfl) (of_decide_eq_true (by kernel_rfl)) k0 bel lt0) (trodAll_cons_mk (Below.trod rowLaid (by kernel_rfl) (of_decide_eq_true (by kernel_rfl)) k1 bel lt1) trodAll_mk0)), rfl, bel.frame _, fun h => by cases h⟩
theorem over : Rows.judgeAgreesRow.holds Tryz.pinned (OpenSpec.ofChange Rows.judgeAgreesSpec) :=
  OpenClaim.holds_of_wide 7 Tryz.f7 rfl rfl rfl rfl rfl rfl rfl ⟨rfl, rfl, rfl, rfl, rfl⟩ rfl rfl rfl rfl rfl (by kernel_rfl) Tryz.func7 (by kernel_rfl)
    (of_decide_eq_true (by kernel_rfl)) (by unfold Func.isWrapper; first | (rw [if_pos (by decide +kernel)]; kernel_rfl) | (rw [if_neg (by decide +kernel)]; exact ⟨rfl, rfl⟩))
    (fun os started H enc _ => lifted os started H enc)
end Go.Proofs.YtgeelaafmnedmaaGreat.judgeAgrees
namespace Go.Proofs.YtgeelaafmnedmaaGreat
/-- The row. -/
theorem judgeAgrees_holds : Rows.JudgeAgreesSaid := judgeAgrees.over
#print axioms judgeAgrees_holds
end Go.Proofs.YtgeelaafmnedmaaGreat
