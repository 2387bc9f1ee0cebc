/- Parts of a proof: Chapter 10: the other machine's instructions. (written by gen10e.py), Chapter 10: the other machine's instructions. (written by gen10e.py), Chapter 10: the other machine's instructions. (written by gen10e.py), Chapter 10: the other machine's instruction, whichever it is, Chapter 10: what holds of the other machine all the while; its guards, Chapter 10: a frame's step, Chapter 10: the other machine's step, Chapter 18: what a player does, Chapter 18: an input while the other did nothing, Chapter 18: an input, and the frames that it brings. (written by gen18m.py), Chapter 18: a match is opened; an input ahead of the other's. -/
import Derived.Test.YtamcjecgkfmjkaaGreatMPl4
set_option linter.unusedSimpArgs false
set_option linter.unusedVariables false
open Go Go.RowKit
namespace Go.Proofs.YtamcjecgkfmjkaaGreat
section
set_option maxRecDepth 20000
set_option maxHeartbeats 4000000 in
theorem does1_h (m : Rac) (arg n : Int) (hl : m.sk.length ≤ 1000) (hp : 0 ≤ m.pc ∧ m.pc ≤ 1000) (ha : B32 arg) (ht : 0 ≤ m.sk.length) : Holds Tryz.prog 69 [.ptr (.arg 0) 0, .agg [.val (.int .i64 1), .val (.int .i64 arg)], .int .i64 n] [(.arg 0, rB (.arg 0) m)] (fun r h' => r = V.bool (goB (rpushM (incR m) arg) n) ∧ h' = [(.arg 0, rB (.arg 0) (rpushM (incR m) arg))]) := by
  have hlI : (incR m).sk.length ≤ 1000 := hl
  have hf : decide ((m.sk.length : Int) < 0) = false := by simp; try omega
  obtain ⟨ha, ha2⟩ := ha
  refine holds_of_awp Tryz.func69 rfl (by decide +kernel) mixed Tryz.ntmps69 Tryz.results69 ?_
  refine zE ?_
  refine zc ?_;try exact trivial
  refine a_drawC (⟨[V.cell (.ptr (.arg 0) 0), .undef, V.int .i64 n, .undef, V.cell (.ptr (.loc [4]) 0), .undef, V.bool false, U, U, U, U, U, U, U, U, U, U, U, U, U, U, V.bool (decide ((m.sk.length : Int) < 0)), U, U, U, U, U, U, U, U, U, U, U, U, U, U, U, U, U, U, U, U, U, U, U, U, U, U, U, U, U, U, U, U, U, U, U, U, U, U, U, U, U, U, U, U, U, U, U, U, U, U, U, U, U, U, U, U, U, U, U, U, U, U, U, U, U, U, U, U, U, U, U, U, U, U, U, U, U, U, U, U, U, U, U, U, U, U, U, U, U, U, U, U, U, U, U, U, U, U, U, U, U, U, U, U, U, U, U, U, U, U, U, U, U, U, U, U, U, U, U, U, U, U, U, U, U, U, U, U, U, U, U, U, U, U, U, U, U, U, U, U, U, U, U, U, U, U, U, U, U, U, U, U, U, U, U, U, U, U, U, U, U, U, U, U, U, U, U, U, U, U, U, U, U, U, U, U, .undef], [(.loc [4], [.val (.int .i64 1), .val (.int .i64 arg)]), (.arg 0, rB (.arg 0) m)]⟩) (.take 0 (.take 1 (.take 2 (.take 5 (.both [(3, .take 4 (.both [(6, .both [(7, .take 8 (.done))])])), (6, .both [(3, .take 4 (.both [(7, .take 8 (.done))])), (7, .take 3 (.take 4 (.take 8 (.done))))])]))))) (by kernel_rfl) (by kernel_rfl) ?_ ?_
  · refine zc ?_;try exact trivial
    refine ⟨?_, ?_, ?_⟩
    all_goals
      refine a_call [] takes1_h ok0 ?_ ?_ ?_
      · refine zs ?_;try exact trivial
      · refine zs ?_;try exact trivial
      rintro _ _ ⟨rfl, rfl⟩
      refine zs ?_;try exact trivial
      (all_goals exact leCs_refl _)
  simp (maxSteps:=2000000) (disch:=omega) only [go_sem,Nat.reduceAdd,Nat.reduceSub,Nat.reduceMul,Nat.reduceBEq,Nat.reduceEqDiff,Nat.reduceLT,Nat.reduceLeDiff,Nat.reduceDiv,reduceIte,reduceCtorEq, hf]
  try (refine zc ?_; try exact trivial)
  refine a_call [.arg 0] (rpush_h (incR m) (arg) (by have h2 := rpop_len (incR m); have h3 := rpop_len (rpopM (incR m)); have h4 := rpush_len (rpopM (incR m)) (rpopV (incR m)); have h5 := rpush_len (rpopM (rpopM (incR m))) (rpopV (incR m)); omega)) (ok1 rfl) ?_ ?_ ?_
  · refine zs ?_;try exact trivial
  · refine zs ?_;try exact trivial
  rintro _ _ ⟨rfl, rfl⟩
  refine zc ?_;try exact trivial
  cases d1 : (!(rpushM (incR m) arg).bad)
  · have e : goB (rpushM (incR m) arg) n = false := by
      show ((!(rpushM (incR m) arg).bad) && decide ((rpushM (incR m) arg).pc < n)) = false
      rw [d1]; rfl
    rw [e]
    simp (maxSteps:=2000000) (disch:=omega) only [go_sem,Nat.reduceAdd,Nat.reduceSub,Nat.reduceMul,Nat.reduceBEq,Nat.reduceEqDiff,Nat.reduceLT,Nat.reduceLeDiff,Nat.reduceDiv,reduceIte,reduceCtorEq, d1]
    all_goals exact leCs_refl _
  have e : goB (rpushM (incR m) arg) n = decide ((rpushM (incR m) arg).pc < n) := by
    show ((!(rpushM (incR m) arg).bad) && decide ((rpushM (incR m) arg).pc < n)) = _
    rw [d1, Bool.true_and]
  rw [e]
  simp (maxSteps:=2000000) (disch:=omega) only [go_sem,Nat.reduceAdd,Nat.reduceSub,Nat.reduceMul,Nat.reduceBEq,Nat.reduceEqDiff,Nat.reduceLT,Nat.reduceLeDiff,Nat.reduceDiv,reduceIte,reduceCtorEq, d1]
  all_goals exact leCs_refl _

set_option maxHeartbeats 4000000 in
theorem does2_h (m : Rac) (arg n : Int) (hl : m.sk.length ≤ 1000) (hp : 0 ≤ m.pc ∧ m.pc ≤ 1000) (h0 : 0 ≤ arg) (h1 : arg ≤ 15) (ht : 0 ≤ m.sk.length) : Holds Tryz.prog 69 [.ptr (.arg 0) 0, .agg [.val (.int .i64 2), .val (.int .i64 arg)], .int .i64 n] [(.arg 0, rB (.arg 0) m)] (fun r h' => r = V.bool (goB (rload (incR m) arg) n) ∧ h' = [(.arg 0, rB (.arg 0) (rload (incR m) arg))]) := by
  have hlI : (incR m).sk.length ≤ 1000 := hl
  have hf : decide ((m.sk.length : Int) < 0) = false := by simp; try omega
  skip
  refine holds_of_awp Tryz.func69 rfl (by decide +kernel) mixed Tryz.ntmps69 Tryz.results69 ?_
  refine zE ?_
  refine zc ?_;try exact trivial
  refine a_drawC (⟨[V.cell (.ptr (.arg 0) 0), .undef, V.int .i64 n, .undef, V.cell (.ptr (.loc [4]) 0), .undef, V.bool false, U, U, U, U, U, U, U, U, U, U, U, U, U, U, V.bool (decide ((m.sk.length : Int) < 0)), U, U, U, U, U, U, U, U, U, U, U, U, U, U, U, U, U, U, U, U, U, U, U, U, U, U, U, U, U, U, U, U, U, U, U, U, U, U, U, U, U, U, U, U, U, U, U, U, U, U, U, U, U, U, U, U, U, U, U, U, U, U, U, U, U, U, U, U, U, U, U, U, U, U, U, U, U, U, U, U, U, U, U, U, U, U, U, U, U, U, U, U, U, U, U, U, U, U, U, U, U, U, U, U, U, U, U, U, U, U, U, U, U, U, U, U, U, U, U, U, U, U, U, U, U, U, U, U, U, U, U, U, U, U, U, U, U, U, U, U, U, U, U, U, U, U, U, U, U, U, U, U, U, U, U, U, U, U, U, U, U, U, U, U, U, U, U, U, U, U, U, U, U, U, U, U, .undef], [(.loc [4], [.val (.int .i64 2), .val (.int .i64 arg)]), (.arg 0, rB (.arg 0) m)]⟩) (.take 0 (.take 1 (.take 2 (.take 5 (.both [(3, .take 4 (.both [(6, .both [(7, .take 8 (.done))])])), (6, .both [(3, .take 4 (.both [(7, .take 8 (.done))])), (7, .take 3 (.take 4 (.take 8 (.done))))])]))))) (by kernel_rfl) (by kernel_rfl) ?_ ?_
  · refine zc ?_;try exact trivial
    refine ⟨?_, ?_, ?_⟩
    all_goals
      refine a_call [] takes2_h ok0 ?_ ?_ ?_
      · refine zs ?_;try exact trivial
      · refine zs ?_;try exact trivial
      rintro _ _ ⟨rfl, rfl⟩
      refine zs ?_;try exact trivial
      (all_goals exact leCs_refl _)
  simp (maxSteps:=2000000) (disch:=omega) only [go_sem,Nat.reduceAdd,Nat.reduceSub,Nat.reduceMul,Nat.reduceBEq,Nat.reduceEqDiff,Nat.reduceLT,Nat.reduceLeDiff,Nat.reduceDiv,reduceIte,reduceCtorEq, hf]
  try (refine zc ?_; try exact trivial)
  refine a_draw (.take 0 (.take 1 (.take 2 (.take 4 (.take 5 (.take 6 (.both [(3, .take 7 (.both [(8, .both [(9, .done)])]))]))))))) (by kernel_rfl) (by kernel_rfl) ?_
  refine zc ?_;try exact trivial
  refine a_call [.arg 0] (rpush_h (incR m) (m.st.cells.getD arg.toNat 0) (by have h2 := rpop_len (incR m); have h3 := rpop_len (rpopM (incR m)); have h4 := rpush_len (rpopM (incR m)) (rpopV (incR m)); have h5 := rpush_len (rpopM (rpopM (incR m))) (rpopV (incR m)); omega)) (ok1 rfl) ?_ ?_ ?_
  · refine zs ?_;try exact trivial
  · refine zs ?_;try exact trivial
  rintro _ _ ⟨rfl, rfl⟩
  refine zc ?_;try exact trivial
  cases d1 : (!(rpushM (incR m) (m.st.cells.getD arg.toNat 0)).bad)
  · have e : goB (rload (incR m) arg) n = false := by
      show ((!(rpushM (incR m) (m.st.cells.getD arg.toNat 0)).bad) && decide ((rpushM (incR m) (m.st.cells.getD arg.toNat 0)).pc < n)) = false
      rw [d1]; rfl
    rw [e]
    simp (maxSteps:=2000000) (disch:=omega) only [go_sem,Nat.reduceAdd,Nat.reduceSub,Nat.reduceMul,Nat.reduceBEq,Nat.reduceEqDiff,Nat.reduceLT,Nat.reduceLeDiff,Nat.reduceDiv,reduceIte,reduceCtorEq, d1]
    all_goals exact leCs_refl _
  have e : goB (rload (incR m) arg) n = decide ((rpushM (incR m) (m.st.cells.getD arg.toNat 0)).pc < n) := by
    show ((!(rpushM (incR m) (m.st.cells.getD arg.toNat 0)).bad) && decide ((rpushM (incR m) (m.st.cells.getD arg.toNat 0)).pc < n)) = _
    rw [d1, Bool.true_and]
  rw [e]
  simp (maxSteps:=2000000) (disch:=omega) only [go_sem,Nat.reduceAdd,Nat.reduceSub,Nat.reduceMul,Nat.reduceBEq,Nat.reduceEqDiff,Nat.reduceLT,Nat.reduceLeDiff,Nat.reduceDiv,reduceIte,reduceCtorEq, d1]
  all_goals exact leCs_refl _

set_option maxHeartbeats 4000000 in
theorem does3_h (m : Rac) (arg n : Int) (hl : m.sk.length ≤ 1000) (hp : 0 ≤ m.pc ∧ m.pc ≤ 1000) (h0 : 0 ≤ arg) (h1 : arg ≤ 15) (ht : 1 ≤ m.sk.length) : Holds Tryz.prog 69 [.ptr (.arg 0) 0, .agg [.val (.int .i64 3), .val (.int .i64 arg)], .int .i64 n] [(.arg 0, rB (.arg 0) m)] (fun r h' => r = V.bool (goB (rstore (incR m) arg) n) ∧ h' = [(.arg 0, rB (.arg 0) (rstore (incR m) arg))]) := by
  have hlI : (incR m).sk.length ≤ 1000 := hl
  have hf : decide ((m.sk.length : Int) < 1) = false := by simp; try omega
  skip
  refine holds_of_awp Tryz.func69 rfl (by decide +kernel) mixed Tryz.ntmps69 Tryz.results69 ?_
  refine zE ?_
  refine zc ?_;try exact trivial
  refine a_drawC (⟨[V.cell (.ptr (.arg 0) 0), .undef, V.int .i64 n, .undef, V.cell (.ptr (.loc [4]) 0), .undef, V.bool false, U, U, U, U, U, U, U, U, U, U, U, U, U, U, V.bool (decide ((m.sk.length : Int) < 1)), U, U, U, U, U, U, U, U, U, U, U, U, U, U, U, U, U, U, U, U, U, U, U, U, U, U, U, U, U, U, U, U, U, U, U, U, U, U, U, U, U, U, U, U, U, U, U, U, U, U, U, U, U, U, U, U, U, U, U, U, U, U, U, U, U, U, U, U, U, U, U, U, U, U, U, U, U, U, U, U, U, U, U, U, U, U, U, U, U, U, U, U, U, U, U, U, U, U, U, U, U, U, U, U, U, U, U, U, U, U, U, U, U, U, U, U, U, U, U, U, U, U, U, U, U, U, U, U, U, U, U, U, U, U, U, U, U, U, U, U, U, U, U, U, U, U, U, U, U, U, U, U, U, U, U, U, U, U, U, U, U, U, U, U, U, U, U, U, U, U, U, U, U, U, U, U, .undef], [(.loc [4], [.val (.int .i64 3), .val (.int .i64 arg)]), (.arg 0, rB (.arg 0) m)]⟩) (.take 0 (.take 1 (.take 2 (.take 5 (.both [(3, .take 4 (.both [(6, .both [(7, .take 8 (.done))])])), (6, .both [(3, .take 4 (.both [(7, .take 8 (.done))])), (7, .take 3 (.take 4 (.take 8 (.done))))])]))))) (by kernel_rfl) (by kernel_rfl) ?_ ?_
  · refine zc ?_;try exact trivial
    refine ⟨?_, ?_, ?_⟩
    all_goals
      refine a_call [] takes3_h ok0 ?_ ?_ ?_
      · refine zs ?_;try exact trivial
      · refine zs ?_;try exact trivial
      rintro _ _ ⟨rfl, rfl⟩
      refine zs ?_;try exact trivial
      (all_goals exact leCs_refl _)
  simp (maxSteps:=2000000) (disch:=omega) only [go_sem,Nat.reduceAdd,Nat.reduceSub,Nat.reduceMul,Nat.reduceBEq,Nat.reduceEqDiff,Nat.reduceLT,Nat.reduceLeDiff,Nat.reduceDiv,reduceIte,reduceCtorEq, hf]
  try (refine zc ?_; try exact trivial)
  refine a_draw (.take 0 (.take 1 (.take 3 (.take 5 (.take 6 (.take 7 (.both [(2, .both [(4, .take 8 (.both [(9, .done)]))]), (4, .both [(2, .take 8 (.both [(9, .done)]))])]))))))) (by kernel_rfl) (by kernel_rfl) ?_
  refine zc ?_;try exact trivial
  refine ⟨?_, ?_⟩
  all_goals
    refine a_call [.arg 0] (rpop_h (incR m) (by have h2 := rpop_len (incR m); have h3 := rpop_len (rpopM (incR m)); have h4 := rpush_len (rpopM (incR m)) (rpopV (incR m)); have h5 := rpush_len (rpopM (rpopM (incR m))) (rpopV (incR m)); omega)) (ok1 rfl) ?_ ?_ ?_
    · refine zs ?_;try exact trivial
    · refine zs ?_;try exact trivial
    rintro _ _ ⟨rfl, rfl⟩
    refine zc ?_;try exact trivial
    refine ⟨by omega, ?_⟩
    cases d1 : (!(rpopM (incR m)).bad)
    · have e : goB (rstore (incR m) arg) n = false := by
        show ((!(rpopM (incR m)).bad) && decide ((rpopM (incR m)).pc < n)) = false
        rw [d1]; rfl
      rw [e]
      simp (maxSteps:=2000000) (disch:=omega) only [go_sem,Nat.reduceAdd,Nat.reduceSub,Nat.reduceMul,Nat.reduceBEq,Nat.reduceEqDiff,Nat.reduceLT,Nat.reduceLeDiff,Nat.reduceDiv,reduceIte,reduceCtorEq, d1]
      all_goals exact leCs_refl _
    have e : goB (rstore (incR m) arg) n = decide ((rpopM (incR m)).pc < n) := by
      show ((!(rpopM (incR m)).bad) && decide ((rpopM (incR m)).pc < n)) = _
      rw [d1, Bool.true_and]
    rw [e]
    simp (maxSteps:=2000000) (disch:=omega) only [go_sem,Nat.reduceAdd,Nat.reduceSub,Nat.reduceMul,Nat.reduceBEq,Nat.reduceEqDiff,Nat.reduceLT,Nat.reduceLeDiff,Nat.reduceDiv,reduceIte,reduceCtorEq, d1]
    all_goals exact leCs_refl _

set_option maxHeartbeats 4000000 in
theorem does12_h (m : Rac) (arg n : Int) (hl : m.sk.length ≤ 1000) (hp : 0 ≤ m.pc ∧ m.pc ≤ 1000)  (ht : 1 ≤ m.sk.length) : Holds Tryz.prog 69 [.ptr (.arg 0) 0, .agg [.val (.int .i64 12), .val (.int .i64 arg)], .int .i64 n] [(.arg 0, rB (.arg 0) m)] (fun r h' => r = V.bool (goB (rnot (incR m)) n) ∧ h' = [(.arg 0, rB (.arg 0) (rnot (incR m)))]) := by
  have hlI : (incR m).sk.length ≤ 1000 := hl
  have hf : decide ((m.sk.length : Int) < 1) = false := by simp; try omega
  skip
  refine holds_of_awp Tryz.func69 rfl (by decide +kernel) mixed Tryz.ntmps69 Tryz.results69 ?_
  refine zE ?_
  refine zc ?_;try exact trivial
  refine a_drawC (⟨[V.cell (.ptr (.arg 0) 0), .undef, V.int .i64 n, .undef, V.cell (.ptr (.loc [4]) 0), .undef, V.bool false, U, U, U, U, U, U, U, U, U, U, U, U, U, U, V.bool (decide ((m.sk.length : Int) < 1)), U, U, U, U, U, U, U, U, U, U, U, U, U, U, U, U, U, U, U, U, U, U, U, U, U, U, U, U, U, U, U, U, U, U, U, U, U, U, U, U, U, U, U, U, U, U, U, U, U, U, U, U, U, U, U, U, U, U, U, U, U, U, U, U, U, U, U, U, U, U, U, U, U, U, U, U, U, U, U, U, U, U, U, U, U, U, U, U, U, U, U, U, U, U, U, U, U, U, U, U, U, U, U, U, U, U, U, U, U, U, U, U, U, U, U, U, U, U, U, U, U, U, U, U, U, U, U, U, U, U, U, U, U, U, U, U, U, U, U, U, U, U, U, U, U, U, U, U, U, U, U, U, U, U, U, U, U, U, U, U, U, U, U, U, U, U, U, U, U, U, U, U, U, U, U, U, .undef], [(.loc [4], [.val (.int .i64 12), .val (.int .i64 arg)]), (.arg 0, rB (.arg 0) m)]⟩) (.take 0 (.take 1 (.take 2 (.take 5 (.both [(3, .take 4 (.both [(6, .both [(7, .take 8 (.done))])])), (6, .both [(3, .take 4 (.both [(7, .take 8 (.done))])), (7, .take 3 (.take 4 (.take 8 (.done))))])]))))) (by kernel_rfl) (by kernel_rfl) ?_ ?_
  · refine zc ?_;try exact trivial
    refine ⟨?_, ?_, ?_⟩
    all_goals
      refine a_call [] takes12_h ok0 ?_ ?_ ?_
      · refine zs ?_;try exact trivial
      · refine zs ?_;try exact trivial
      rintro _ _ ⟨rfl, rfl⟩
      refine zs ?_;try exact trivial
      (all_goals exact leCs_refl _)
  simp (maxSteps:=2000000) (disch:=omega) only [go_sem,Nat.reduceAdd,Nat.reduceSub,Nat.reduceMul,Nat.reduceBEq,Nat.reduceEqDiff,Nat.reduceLT,Nat.reduceLeDiff,Nat.reduceDiv,reduceIte,reduceCtorEq, hf]
  try (refine zc ?_; try exact trivial)
  refine a_call [.arg 0] (rpop_h (incR m) (by have h2 := rpop_len (incR m); have h3 := rpop_len (rpopM (incR m)); have h4 := rpush_len (rpopM (incR m)) (rpopV (incR m)); have h5 := rpush_len (rpopM (rpopM (incR m))) (rpopV (incR m)); omega)) (ok1 rfl) ?_ ?_ ?_
  · refine zs ?_;try exact trivial
  · refine zs ?_;try exact trivial
  rintro _ _ ⟨rfl, rfl⟩
  refine zc ?_;try exact trivial
  refine a_call [] (rtruth_h (decide (rpopV (incR m) = 0))) ok0 ?_ ?_ ?_
  · refine zs ?_;try exact trivial
  · refine zs ?_;try exact trivial
  rintro _ _ ⟨rfl, rfl⟩
  refine zc ?_;try exact trivial
  refine a_call [.arg 0] (rpush_h (rpopM (incR m)) (truthV (decide (rpopV (incR m) = 0))) (by have h2 := rpop_len (incR m); have h3 := rpop_len (rpopM (incR m)); have h4 := rpush_len (rpopM (incR m)) (rpopV (incR m)); have h5 := rpush_len (rpopM (rpopM (incR m))) (rpopV (incR m)); omega)) (ok1 rfl) ?_ ?_ ?_
  · refine zs ?_;try exact trivial
  · refine zs ?_;try exact trivial
  rintro _ _ ⟨rfl, rfl⟩
  refine zc ?_;try exact trivial
  cases d1 : (!(rpushM (rpopM (incR m)) (truthV (decide (rpopV (incR m) = 0)))).bad)
  · have e : goB (rnot (incR m)) n = false := by
      show ((!(rpushM (rpopM (incR m)) (truthV (decide (rpopV (incR m) = 0)))).bad) && decide ((rpushM (rpopM (incR m)) (truthV (decide (rpopV (incR m) = 0)))).pc < n)) = false
      rw [d1]; rfl
    rw [e]
    simp (maxSteps:=2000000) (disch:=omega) only [go_sem,Nat.reduceAdd,Nat.reduceSub,Nat.reduceMul,Nat.reduceBEq,Nat.reduceEqDiff,Nat.reduceLT,Nat.reduceLeDiff,Nat.reduceDiv,reduceIte,reduceCtorEq, d1]
    all_goals exact leCs_refl _
  have e : goB (rnot (incR m)) n = decide ((rpushM (rpopM (incR m)) (truthV (decide (rpopV (incR m) = 0)))).pc < n) := by
    show ((!(rpushM (rpopM (incR m)) (truthV (decide (rpopV (incR m) = 0)))).bad) && decide ((rpushM (rpopM (incR m)) (truthV (decide (rpopV (incR m) = 0)))).pc < n)) = _
    rw [d1, Bool.true_and]
  rw [e]
  simp (maxSteps:=2000000) (disch:=omega) only [go_sem,Nat.reduceAdd,Nat.reduceSub,Nat.reduceMul,Nat.reduceBEq,Nat.reduceEqDiff,Nat.reduceLT,Nat.reduceLeDiff,Nat.reduceDiv,reduceIte,reduceCtorEq, d1]
  all_goals exact leCs_refl _

set_option maxHeartbeats 4000000 in
theorem does13_h (m : Rac) (arg n : Int) (hl : m.sk.length ≤ 1000) (hp : 0 ≤ m.pc ∧ m.pc ≤ 1000)  (ht : 1 ≤ m.sk.length) : Holds Tryz.prog 69 [.ptr (.arg 0) 0, .agg [.val (.int .i64 13), .val (.int .i64 arg)], .int .i64 n] [(.arg 0, rB (.arg 0) m)] (fun r h' => r = V.bool (goB (rdup (incR m)) n) ∧ h' = [(.arg 0, rB (.arg 0) (rdup (incR m)))]) := by
  have hlI : (incR m).sk.length ≤ 1000 := hl
  have hf : decide ((m.sk.length : Int) < 1) = false := by simp; try omega
  skip
  refine holds_of_awp Tryz.func69 rfl (by decide +kernel) mixed Tryz.ntmps69 Tryz.results69 ?_
  refine zE ?_
  refine zc ?_;try exact trivial
  refine a_drawC (⟨[V.cell (.ptr (.arg 0) 0), .undef, V.int .i64 n, .undef, V.cell (.ptr (.loc [4]) 0), .undef, V.bool false, U, U, U, U, U, U, U, U, U, U, U, U, U, U, V.bool (decide ((m.sk.length : Int) < 1)), U, U, U, U, U, U, U, U, U, U, U, U, U, U, U, U, U, U, U, U, U, U, U, U, U, U, U, U, U, U, U, U, U, U, U, U, U, U, U, U, U, U, U, U, U, U, U, U, U, U, U, U, U, U, U, U, U, U, U, U, U, U, U, U, U, U, U, U, U, U, U, U, U, U, U, U, U, U, U, U, U, U, U, U, U, U, U, U, U, U, U, U, U, U, U, U, U, U, U, U, U, U, U, U, U, U, U, U, U, U, U, U, U, U, U, U, U, U, U, U, U, U, U, U, U, U, U, U, U, U, U, U, U, U, U, U, U, U, U, U, U, U, U, U, U, U, U, U, U, U, U, U, U, U, U, U, U, U, U, U, U, U, U, U, U, U, U, U, U, U, U, U, U, U, U, U, .undef], [(.loc [4], [.val (.int .i64 13), .val (.int .i64 arg)]), (.arg 0, rB (.arg 0) m)]⟩) (.take 0 (.take 1 (.take 2 (.take 5 (.both [(3, .take 4 (.both [(6, .both [(7, .take 8 (.done))])])), (6, .both [(3, .take 4 (.both [(7, .take 8 (.done))])), (7, .take 3 (.take 4 (.take 8 (.done))))])]))))) (by kernel_rfl) (by kernel_rfl) ?_ ?_
  · refine zc ?_;try exact trivial
    refine ⟨?_, ?_, ?_⟩
    all_goals
      refine a_call [] takes13_h ok0 ?_ ?_ ?_
      · refine zs ?_;try exact trivial
      · refine zs ?_;try exact trivial
      rintro _ _ ⟨rfl, rfl⟩
      refine zs ?_;try exact trivial
      (all_goals exact leCs_refl _)
  simp (maxSteps:=2000000) (disch:=omega) only [go_sem,Nat.reduceAdd,Nat.reduceSub,Nat.reduceMul,Nat.reduceBEq,Nat.reduceEqDiff,Nat.reduceLT,Nat.reduceLeDiff,Nat.reduceDiv,reduceIte,reduceCtorEq, hf]
  try (refine zc ?_; try exact trivial)
  refine a_call [.arg 0] (rpop_h (incR m) (by have h2 := rpop_len (incR m); have h3 := rpop_len (rpopM (incR m)); have h4 := rpush_len (rpopM (incR m)) (rpopV (incR m)); have h5 := rpush_len (rpopM (rpopM (incR m))) (rpopV (incR m)); omega)) (ok1 rfl) ?_ ?_ ?_
  · refine zs ?_;try exact trivial
  · refine zs ?_;try exact trivial
  rintro _ _ ⟨rfl, rfl⟩
  refine zc ?_;try exact trivial
  refine a_call [.arg 0] (rpush_h (rpopM (incR m)) (rpopV (incR m)) (by have h2 := rpop_len (incR m); have h3 := rpop_len (rpopM (incR m)); have h4 := rpush_len (rpopM (incR m)) (rpopV (incR m)); have h5 := rpush_len (rpopM (rpopM (incR m))) (rpopV (incR m)); omega)) (ok1 rfl) ?_ ?_ ?_
  · refine zs ?_;try exact trivial
  · refine zs ?_;try exact trivial
  rintro _ _ ⟨rfl, rfl⟩
  refine zc ?_;try exact trivial
  refine a_call [.arg 0] (rpush_h (rpushM (rpopM (incR m)) (rpopV (incR m))) (rpopV (incR m)) (by have h2 := rpop_len (incR m); have h3 := rpop_len (rpopM (incR m)); have h4 := rpush_len (rpopM (incR m)) (rpopV (incR m)); have h5 := rpush_len (rpopM (rpopM (incR m))) (rpopV (incR m)); omega)) (ok1 rfl) ?_ ?_ ?_
  · refine zs ?_;try exact trivial
  · refine zs ?_;try exact trivial
  rintro _ _ ⟨rfl, rfl⟩
  refine zc ?_;try exact trivial
  cases d1 : (!(rpushM (rpushM (rpopM (incR m)) (rpopV (incR m))) (rpopV (incR m))).bad)
  · have e : goB (rdup (incR m)) n = false := by
      show ((!(rpushM (rpushM (rpopM (incR m)) (rpopV (incR m))) (rpopV (incR m))).bad) && decide ((rpushM (rpushM (rpopM (incR m)) (rpopV (incR m))) (rpopV (incR m))).pc < n)) = false
      rw [d1]; rfl
    rw [e]
    simp (maxSteps:=2000000) (disch:=omega) only [go_sem,Nat.reduceAdd,Nat.reduceSub,Nat.reduceMul,Nat.reduceBEq,Nat.reduceEqDiff,Nat.reduceLT,Nat.reduceLeDiff,Nat.reduceDiv,reduceIte,reduceCtorEq, d1]
    all_goals exact leCs_refl _
  have e : goB (rdup (incR m)) n = decide ((rpushM (rpushM (rpopM (incR m)) (rpopV (incR m))) (rpopV (incR m))).pc < n) := by
    show ((!(rpushM (rpushM (rpopM (incR m)) (rpopV (incR m))) (rpopV (incR m))).bad) && decide ((rpushM (rpushM (rpopM (incR m)) (rpopV (incR m))) (rpopV (incR m))).pc < n)) = _
    rw [d1, Bool.true_and]
  rw [e]
  simp (maxSteps:=2000000) (disch:=omega) only [go_sem,Nat.reduceAdd,Nat.reduceSub,Nat.reduceMul,Nat.reduceBEq,Nat.reduceEqDiff,Nat.reduceLT,Nat.reduceLeDiff,Nat.reduceDiv,reduceIte,reduceCtorEq, d1]
  all_goals exact leCs_refl _

set_option maxHeartbeats 4000000 in
theorem does14_h (m : Rac) (arg n : Int) (hl : m.sk.length ≤ 1000) (hp : 0 ≤ m.pc ∧ m.pc ≤ 1000)  (ht : 2 ≤ m.sk.length) : Holds Tryz.prog 69 [.ptr (.arg 0) 0, .agg [.val (.int .i64 14), .val (.int .i64 arg)], .int .i64 n] [(.arg 0, rB (.arg 0) m)] (fun r h' => r = V.bool (goB (rswap (incR m)) n) ∧ h' = [(.arg 0, rB (.arg 0) (rswap (incR m)))]) := by
  have hlI : (incR m).sk.length ≤ 1000 := hl
  have hf : decide ((m.sk.length : Int) < 2) = false := by simp; try omega
  skip
  refine holds_of_awp Tryz.func69 rfl (by decide +kernel) mixed Tryz.ntmps69 Tryz.results69 ?_
  refine zE ?_
  refine zc ?_;try exact trivial
  refine a_drawC (⟨[V.cell (.ptr (.arg 0) 0), .undef, V.int .i64 n, .undef, V.cell (.ptr (.loc [4]) 0), .undef, V.bool false, U, U, U, U, U, U, U, U, U, U, U, U, U, U, V.bool (decide ((m.sk.length : Int) < 2)), U, U, U, U, U, U, U, U, U, U, U, U, U, U, U, U, U, U, U, U, U, U, U, U, U, U, U, U, U, U, U, U, U, U, U, U, U, U, U, U, U, U, U, U, U, U, U, U, U, U, U, U, U, U, U, U, U, U, U, U, U, U, U, U, U, U, U, U, U, U, U, U, U, U, U, U, U, U, U, U, U, U, U, U, U, U, U, U, U, U, U, U, U, U, U, U, U, U, U, U, U, U, U, U, U, U, U, U, U, U, U, U, U, U, U, U, U, U, U, U, U, U, U, U, U, U, U, U, U, U, U, U, U, U, U, U, U, U, U, U, U, U, U, U, U, U, U, U, U, U, U, U, U, U, U, U, U, U, U, U, U, U, U, U, U, U, U, U, U, U, U, U, U, U, U, U, .undef], [(.loc [4], [.val (.int .i64 14), .val (.int .i64 arg)]), (.arg 0, rB (.arg 0) m)]⟩) (.take 0 (.take 1 (.take 2 (.take 5 (.both [(3, .take 4 (.both [(6, .both [(7, .take 8 (.done))])])), (6, .both [(3, .take 4 (.both [(7, .take 8 (.done))])), (7, .take 3 (.take 4 (.take 8 (.done))))])]))))) (by kernel_rfl) (by kernel_rfl) ?_ ?_
  · refine zc ?_;try exact trivial
    refine ⟨?_, ?_, ?_⟩
    all_goals
      refine a_call [] takes14_h ok0 ?_ ?_ ?_
      · refine zs ?_;try exact trivial
      · refine zs ?_;try exact trivial
      rintro _ _ ⟨rfl, rfl⟩
      refine zs ?_;try exact trivial
      (all_goals exact leCs_refl _)
  simp (maxSteps:=2000000) (disch:=omega) only [go_sem,Nat.reduceAdd,Nat.reduceSub,Nat.reduceMul,Nat.reduceBEq,Nat.reduceEqDiff,Nat.reduceLT,Nat.reduceLeDiff,Nat.reduceDiv,reduceIte,reduceCtorEq, hf]
  try (refine zc ?_; try exact trivial)
  refine a_call [.arg 0] (rpop_h (incR m) (by have h2 := rpop_len (incR m); have h3 := rpop_len (rpopM (incR m)); have h4 := rpush_len (rpopM (incR m)) (rpopV (incR m)); have h5 := rpush_len (rpopM (rpopM (incR m))) (rpopV (incR m)); omega)) (ok1 rfl) ?_ ?_ ?_
  · refine zs ?_;try exact trivial
  · refine zs ?_;try exact trivial
  rintro _ _ ⟨rfl, rfl⟩
  refine zc ?_;try exact trivial
  refine a_call [.arg 0] (rpop_h (rpopM (incR m)) (by have h2 := rpop_len (incR m); have h3 := rpop_len (rpopM (incR m)); have h4 := rpush_len (rpopM (incR m)) (rpopV (incR m)); have h5 := rpush_len (rpopM (rpopM (incR m))) (rpopV (incR m)); omega)) (ok1 rfl) ?_ ?_ ?_
  · refine zs ?_;try exact trivial
  · refine zs ?_;try exact trivial
  rintro _ _ ⟨rfl, rfl⟩
  refine zc ?_;try exact trivial
  refine a_call [.arg 0] (rpush_h (rpopM (rpopM (incR m))) (rpopV (incR m)) (by have h2 := rpop_len (incR m); have h3 := rpop_len (rpopM (incR m)); have h4 := rpush_len (rpopM (incR m)) (rpopV (incR m)); have h5 := rpush_len (rpopM (rpopM (incR m))) (rpopV (incR m)); omega)) (ok1 rfl) ?_ ?_ ?_
  · refine zs ?_;try exact trivial
  · refine zs ?_;try exact trivial
  rintro _ _ ⟨rfl, rfl⟩
  refine zc ?_;try exact trivial
  refine a_call [.arg 0] (rpush_h (rpushM (rpopM (rpopM (incR m))) (rpopV (incR m))) (rpopV (rpopM (incR m))) (by have h2 := rpop_len (incR m); have h3 := rpop_len (rpopM (incR m)); have h4 := rpush_len (rpopM (incR m)) (rpopV (incR m)); have h5 := rpush_len (rpopM (rpopM (incR m))) (rpopV (incR m)); omega)) (ok1 rfl) ?_ ?_ ?_
  · refine zs ?_;try exact trivial
  · refine zs ?_;try exact trivial
  rintro _ _ ⟨rfl, rfl⟩
  refine zc ?_;try exact trivial
  cases d1 : (!(rpushM (rpushM (rpopM (rpopM (incR m))) (rpopV (incR m))) (rpopV (rpopM (incR m)))).bad)
  · have e : goB (rswap (incR m)) n = false := by
      show ((!(rpushM (rpushM (rpopM (rpopM (incR m))) (rpopV (incR m))) (rpopV (rpopM (incR m)))).bad) && decide ((rpushM (rpushM (rpopM (rpopM (incR m))) (rpopV (incR m))) (rpopV (rpopM (incR m)))).pc < n)) = false
      rw [d1]; rfl
    rw [e]
    simp (maxSteps:=2000000) (disch:=omega) only [go_sem,Nat.reduceAdd,Nat.reduceSub,Nat.reduceMul,Nat.reduceBEq,Nat.reduceEqDiff,Nat.reduceLT,Nat.reduceLeDiff,Nat.reduceDiv,reduceIte,reduceCtorEq, d1]
    all_goals exact leCs_refl _
  have e : goB (rswap (incR m)) n = decide ((rpushM (rpushM (rpopM (rpopM (incR m))) (rpopV (incR m))) (rpopV (rpopM (incR m)))).pc < n) := by
    show ((!(rpushM (rpushM (rpopM (rpopM (incR m))) (rpopV (incR m))) (rpopV (rpopM (incR m)))).bad) && decide ((rpushM (rpushM (rpopM (rpopM (incR m))) (rpopV (incR m))) (rpopV (rpopM (incR m)))).pc < n)) = _
    rw [d1, Bool.true_and]
  rw [e]
  simp (maxSteps:=2000000) (disch:=omega) only [go_sem,Nat.reduceAdd,Nat.reduceSub,Nat.reduceMul,Nat.reduceBEq,Nat.reduceEqDiff,Nat.reduceLT,Nat.reduceLeDiff,Nat.reduceDiv,reduceIte,reduceCtorEq, d1]
  all_goals exact leCs_refl _

set_option maxHeartbeats 4000000 in
theorem does15_h (m : Rac) (arg n : Int) (hl : m.sk.length ≤ 1000) (hp : 0 ≤ m.pc ∧ m.pc ≤ 1000)  (ht : 1 ≤ m.sk.length) : Holds Tryz.prog 69 [.ptr (.arg 0) 0, .agg [.val (.int .i64 15), .val (.int .i64 arg)], .int .i64 n] [(.arg 0, rB (.arg 0) m)] (fun r h' => r = V.bool (goB (rpopM (incR m)) n) ∧ h' = [(.arg 0, rB (.arg 0) (rpopM (incR m)))]) := by
  have hlI : (incR m).sk.length ≤ 1000 := hl
  have hf : decide ((m.sk.length : Int) < 1) = false := by simp; try omega
  skip
  refine holds_of_awp Tryz.func69 rfl (by decide +kernel) mixed Tryz.ntmps69 Tryz.results69 ?_
  refine zE ?_
  refine zc ?_;try exact trivial
  refine a_drawC (⟨[V.cell (.ptr (.arg 0) 0), .undef, V.int .i64 n, .undef, V.cell (.ptr (.loc [4]) 0), .undef, V.bool false, U, U, U, U, U, U, U, U, U, U, U, U, U, U, V.bool (decide ((m.sk.length : Int) < 1)), U, U, U, U, U, U, U, U, U, U, U, U, U, U, U, U, U, U, U, U, U, U, U, U, U, U, U, U, U, U, U, U, U, U, U, U, U, U, U, U, U, U, U, U, U, U, U, U, U, U, U, U, U, U, U, U, U, U, U, U, U, U, U, U, U, U, U, U, U, U, U, U, U, U, U, U, U, U, U, U, U, U, U, U, U, U, U, U, U, U, U, U, U, U, U, U, U, U, U, U, U, U, U, U, U, U, U, U, U, U, U, U, U, U, U, U, U, U, U, U, U, U, U, U, U, U, U, U, U, U, U, U, U, U, U, U, U, U, U, U, U, U, U, U, U, U, U, U, U, U, U, U, U, U, U, U, U, U, U, U, U, U, U, U, U, U, U, U, U, U, U, U, U, U, U, U, .undef], [(.loc [4], [.val (.int .i64 15), .val (.int .i64 arg)]), (.arg 0, rB (.arg 0) m)]⟩) (.take 0 (.take 1 (.take 2 (.take 5 (.both [(3, .take 4 (.both [(6, .both [(7, .take 8 (.done))])])), (6, .both [(3, .take 4 (.both [(7, .take 8 (.done))])), (7, .take 3 (.take 4 (.take 8 (.done))))])]))))) (by kernel_rfl) (by kernel_rfl) ?_ ?_
  · refine zc ?_;try exact trivial
    refine ⟨?_, ?_, ?_⟩
    all_goals
      refine a_call [] takes15_h ok0 ?_ ?_ ?_
      · refine zs ?_;try exact trivial
      · refine zs ?_;try exact trivial
      rintro _ _ ⟨rfl, rfl⟩
      refine zs ?_;try exact trivial
      (all_goals exact leCs_refl _)
  simp (maxSteps:=2000000) (disch:=omega) only [go_sem,Nat.reduceAdd,Nat.reduceSub,Nat.reduceMul,Nat.reduceBEq,Nat.reduceEqDiff,Nat.reduceLT,Nat.reduceLeDiff,Nat.reduceDiv,reduceIte,reduceCtorEq, hf]
  try (refine zc ?_; try exact trivial)
  refine a_call [.arg 0] (rpop_h (incR m) (by have h2 := rpop_len (incR m); have h3 := rpop_len (rpopM (incR m)); have h4 := rpush_len (rpopM (incR m)) (rpopV (incR m)); have h5 := rpush_len (rpopM (rpopM (incR m))) (rpopV (incR m)); omega)) (ok1 rfl) ?_ ?_ ?_
  · refine zs ?_;try exact trivial
  · refine zs ?_;try exact trivial
  rintro _ _ ⟨rfl, rfl⟩
  refine zc ?_;try exact trivial
  cases d1 : (!(rpopM (incR m)).bad)
  · have e : goB (rpopM (incR m)) n = false := by
      show ((!(rpopM (incR m)).bad) && decide ((rpopM (incR m)).pc < n)) = false
      rw [d1]; rfl
    rw [e]
    simp (maxSteps:=2000000) (disch:=omega) only [go_sem,Nat.reduceAdd,Nat.reduceSub,Nat.reduceMul,Nat.reduceBEq,Nat.reduceEqDiff,Nat.reduceLT,Nat.reduceLeDiff,Nat.reduceDiv,reduceIte,reduceCtorEq, d1]
    all_goals exact leCs_refl _
  have e : goB (rpopM (incR m)) n = decide ((rpopM (incR m)).pc < n) := by
    show ((!(rpopM (incR m)).bad) && decide ((rpopM (incR m)).pc < n)) = _
    rw [d1, Bool.true_and]
  rw [e]
  simp (maxSteps:=2000000) (disch:=omega) only [go_sem,Nat.reduceAdd,Nat.reduceSub,Nat.reduceMul,Nat.reduceBEq,Nat.reduceEqDiff,Nat.reduceLT,Nat.reduceLeDiff,Nat.reduceDiv,reduceIte,reduceCtorEq, d1]
  all_goals exact leCs_refl _
end
section
set_option maxRecDepth 20000
set_option maxHeartbeats 4000000 in
theorem does16_h (m : Rac) (arg n : Int) (hl : m.sk.length ≤ 1000) (hp : 0 ≤ m.pc ∧ m.pc ≤ 1000) (h0 : arg = 0 ∨ arg = 1) (ht : 0 ≤ m.sk.length) : Holds Tryz.prog 69 [.ptr (.arg 0) 0, .agg [.val (.int .i64 16), .val (.int .i64 arg)], .int .i64 n] [(.arg 0, rB (.arg 0) m)] (fun r h' => r = V.bool (goB (rinput (incR m) arg) n) ∧ h' = [(.arg 0, rB (.arg 0) (rinput (incR m) arg))]) := by
  have hlI : (incR m).sk.length ≤ 1000 := hl
  have hf : decide ((m.sk.length : Int) < 0) = false := by simp; try omega
  skip
  refine holds_of_awp Tryz.func69 rfl (by decide +kernel) mixed Tryz.ntmps69 Tryz.results69 ?_
  refine zE ?_
  refine zc ?_;try exact trivial
  refine a_drawC (⟨[V.cell (.ptr (.arg 0) 0), .undef, V.int .i64 n, .undef, V.cell (.ptr (.loc [4]) 0), .undef, V.bool false, U, U, U, U, U, U, U, U, U, U, U, U, U, U, V.bool (decide ((m.sk.length : Int) < 0)), U, U, U, U, U, U, U, U, U, U, U, U, U, U, U, U, U, U, U, U, U, U, U, U, U, U, U, U, U, U, U, U, U, U, U, U, U, U, U, U, U, U, U, U, U, U, U, U, U, U, U, U, U, U, U, U, U, U, U, U, U, U, U, U, U, U, U, U, U, U, U, U, U, U, U, U, U, U, U, U, U, U, U, U, U, U, U, U, U, U, U, U, U, U, U, U, U, U, U, U, U, U, U, U, U, U, U, U, U, U, U, U, U, U, U, U, U, U, U, U, U, U, U, U, U, U, U, U, U, U, U, U, U, U, U, U, U, U, U, U, U, U, U, U, U, U, U, U, U, U, U, U, U, U, U, U, U, U, U, U, U, U, U, U, U, U, U, U, U, U, U, U, U, U, U, U, .undef], [(.loc [4], [.val (.int .i64 16), .val (.int .i64 arg)]), (.arg 0, rB (.arg 0) m)]⟩) (.take 0 (.take 1 (.take 2 (.take 5 (.both [(3, .take 4 (.both [(6, .both [(7, .take 8 (.done))])])), (6, .both [(3, .take 4 (.both [(7, .take 8 (.done))])), (7, .take 3 (.take 4 (.take 8 (.done))))])]))))) (by kernel_rfl) (by kernel_rfl) ?_ ?_
  · refine zc ?_;try exact trivial
    refine ⟨?_, ?_, ?_⟩
    all_goals
      refine a_call [] takes16_h ok0 ?_ ?_ ?_
      · refine zs ?_;try exact trivial
      · refine zs ?_;try exact trivial
      rintro _ _ ⟨rfl, rfl⟩
      refine zs ?_;try exact trivial
      (all_goals exact leCs_refl _)
  simp (maxSteps:=2000000) (disch:=omega) only [go_sem,Nat.reduceAdd,Nat.reduceSub,Nat.reduceMul,Nat.reduceBEq,Nat.reduceEqDiff,Nat.reduceLT,Nat.reduceLeDiff,Nat.reduceDiv,reduceIte,reduceCtorEq, hf]
  try (refine zc ?_; try exact trivial)
  have u0 := U16_b m.i0
  have u1 := U16_b m.i1
  rcases h0 with rfl | rfl
  · refine a_draw (.take 0 (.take 1 (.take 2 (.take 4 (.take 5 (.both [(3, .take 6 (.both [(7, .take 8 (.both [(9, .done)]))]))])))))) (by kernel_rfl) (by kernel_rfl) ?_
    refine zc ?_;try exact trivial
    refine a_call [.arg 0] (rpush_h (incR m) ((U16 m.i0 : Int)) (by have h2 := rpop_len (incR m); have h3 := rpop_len (rpopM (incR m)); have h4 := rpush_len (rpopM (incR m)) (rpopV (incR m)); have h5 := rpush_len (rpopM (rpopM (incR m))) (rpopV (incR m)); omega)) (ok1 rfl) ?_ ?_ ?_
    · refine zs ?_;try exact trivial
    · refine zs ?_;try exact trivial
    rintro _ _ ⟨rfl, rfl⟩
    refine zc ?_;try exact trivial
    cases d1 : (!(rpushM (incR m) (U16 m.i0 : Int)).bad)
    · have e : goB (rinput (incR m) 0) n = false := by
        show ((!(rpushM (incR m) (U16 m.i0 : Int)).bad) && decide ((rpushM (incR m) (U16 m.i0 : Int)).pc < n)) = false
        rw [d1]; rfl
      rw [e]
      simp (maxSteps:=2000000) (disch:=omega) only [go_sem,Nat.reduceAdd,Nat.reduceSub,Nat.reduceMul,Nat.reduceBEq,Nat.reduceEqDiff,Nat.reduceLT,Nat.reduceLeDiff,Nat.reduceDiv,reduceIte,reduceCtorEq, d1]
      all_goals exact leCs_refl _
    have e : goB (rinput (incR m) 0) n = decide ((rpushM (incR m) (U16 m.i0 : Int)).pc < n) := by
      show ((!(rpushM (incR m) (U16 m.i0 : Int)).bad) && decide ((rpushM (incR m) (U16 m.i0 : Int)).pc < n)) = _
      rw [d1, Bool.true_and]
    rw [e]
    simp (maxSteps:=2000000) (disch:=omega) only [go_sem,Nat.reduceAdd,Nat.reduceSub,Nat.reduceMul,Nat.reduceBEq,Nat.reduceEqDiff,Nat.reduceLT,Nat.reduceLeDiff,Nat.reduceDiv,reduceIte,reduceCtorEq, d1]
    all_goals exact leCs_refl _
  refine a_draw (.take 0 (.take 1 (.take 2 (.take 4 (.take 5 (.both [(3, .take 6 (.both [(7, .take 8 (.both [(9, .done)]))]))])))))) (by kernel_rfl) (by kernel_rfl) ?_
  refine zc ?_;try exact trivial
  refine a_call [.arg 0] (rpush_h (incR m) ((U16 m.i1 : Int)) (by have h2 := rpop_len (incR m); have h3 := rpop_len (rpopM (incR m)); have h4 := rpush_len (rpopM (incR m)) (rpopV (incR m)); have h5 := rpush_len (rpopM (rpopM (incR m))) (rpopV (incR m)); omega)) (ok1 rfl) ?_ ?_ ?_
  · refine zs ?_;try exact trivial
  · refine zs ?_;try exact trivial
  rintro _ _ ⟨rfl, rfl⟩
  refine zc ?_;try exact trivial
  cases d1 : (!(rpushM (incR m) (U16 m.i1 : Int)).bad)
  · have e : goB (rinput (incR m) 1) n = false := by
      show ((!(rpushM (incR m) (U16 m.i1 : Int)).bad) && decide ((rpushM (incR m) (U16 m.i1 : Int)).pc < n)) = false
      rw [d1]; rfl
    rw [e]
    simp (maxSteps:=2000000) (disch:=omega) only [go_sem,Nat.reduceAdd,Nat.reduceSub,Nat.reduceMul,Nat.reduceBEq,Nat.reduceEqDiff,Nat.reduceLT,Nat.reduceLeDiff,Nat.reduceDiv,reduceIte,reduceCtorEq, d1]
    all_goals exact leCs_refl _
  have e : goB (rinput (incR m) 1) n = decide ((rpushM (incR m) (U16 m.i1 : Int)).pc < n) := by
    show ((!(rpushM (incR m) (U16 m.i1 : Int)).bad) && decide ((rpushM (incR m) (U16 m.i1 : Int)).pc < n)) = _
    rw [d1, Bool.true_and]
  rw [e]
  simp (maxSteps:=2000000) (disch:=omega) only [go_sem,Nat.reduceAdd,Nat.reduceSub,Nat.reduceMul,Nat.reduceBEq,Nat.reduceEqDiff,Nat.reduceLT,Nat.reduceLeDiff,Nat.reduceDiv,reduceIte,reduceCtorEq, d1]
  all_goals exact leCs_refl _

set_option maxHeartbeats 4000000 in
theorem does17_h (m : Rac) (arg n : Int) (hl : m.sk.length ≤ 1000) (hp : 0 ≤ m.pc ∧ m.pc ≤ 1000) (h0 : 0 ≤ m.st.frame) (h1 : m.st.frame ≤ 600) (ht : 0 ≤ m.sk.length) : Holds Tryz.prog 69 [.ptr (.arg 0) 0, .agg [.val (.int .i64 17), .val (.int .i64 arg)], .int .i64 n] [(.arg 0, rB (.arg 0) m)] (fun r h' => r = V.bool (goB (rpushM (incR m) m.st.frame) n) ∧ h' = [(.arg 0, rB (.arg 0) (rpushM (incR m) m.st.frame))]) := by
  have hlI : (incR m).sk.length ≤ 1000 := hl
  have hf : decide ((m.sk.length : Int) < 0) = false := by simp; try omega
  skip
  refine holds_of_awp Tryz.func69 rfl (by decide +kernel) mixed Tryz.ntmps69 Tryz.results69 ?_
  refine zE ?_
  refine zc ?_;try exact trivial
  refine a_drawC (⟨[V.cell (.ptr (.arg 0) 0), .undef, V.int .i64 n, .undef, V.cell (.ptr (.loc [4]) 0), .undef, V.bool false, U, U, U, U, U, U, U, U, U, U, U, U, U, U, V.bool (decide ((m.sk.length : Int) < 0)), U, U, U, U, U, U, U, U, U, U, U, U, U, U, U, U, U, U, U, U, U, U, U, U, U, U, U, U, U, U, U, U, U, U, U, U, U, U, U, U, U, U, U, U, U, U, U, U, U, U, U, U, U, U, U, U, U, U, U, U, U, U, U, U, U, U, U, U, U, U, U, U, U, U, U, U, U, U, U, U, U, U, U, U, U, U, U, U, U, U, U, U, U, U, U, U, U, U, U, U, U, U, U, U, U, U, U, U, U, U, U, U, U, U, U, U, U, U, U, U, U, U, U, U, U, U, U, U, U, U, U, U, U, U, U, U, U, U, U, U, U, U, U, U, U, U, U, U, U, U, U, U, U, U, U, U, U, U, U, U, U, U, U, U, U, U, U, U, U, U, U, U, U, U, U, U, .undef], [(.loc [4], [.val (.int .i64 17), .val (.int .i64 arg)]), (.arg 0, rB (.arg 0) m)]⟩) (.take 0 (.take 1 (.take 2 (.take 5 (.both [(3, .take 4 (.both [(6, .both [(7, .take 8 (.done))])])), (6, .both [(3, .take 4 (.both [(7, .take 8 (.done))])), (7, .take 3 (.take 4 (.take 8 (.done))))])]))))) (by kernel_rfl) (by kernel_rfl) ?_ ?_
  · refine zc ?_;try exact trivial
    refine ⟨?_, ?_, ?_⟩
    all_goals
      refine a_call [] takes17_h ok0 ?_ ?_ ?_
      · refine zs ?_;try exact trivial
      · refine zs ?_;try exact trivial
      rintro _ _ ⟨rfl, rfl⟩
      refine zs ?_;try exact trivial
      (all_goals exact leCs_refl _)
  simp (maxSteps:=2000000) (disch:=omega) only [go_sem,Nat.reduceAdd,Nat.reduceSub,Nat.reduceMul,Nat.reduceBEq,Nat.reduceEqDiff,Nat.reduceLT,Nat.reduceLeDiff,Nat.reduceDiv,reduceIte,reduceCtorEq, hf]
  try (refine zc ?_; try exact trivial)
  refine a_call [.arg 0] (rpush_h (incR m) (m.st.frame) (by have h2 := rpop_len (incR m); have h3 := rpop_len (rpopM (incR m)); have h4 := rpush_len (rpopM (incR m)) (rpopV (incR m)); have h5 := rpush_len (rpopM (rpopM (incR m))) (rpopV (incR m)); omega)) (ok1 rfl) ?_ ?_ ?_
  · refine zs ?_;try exact trivial
  · refine zs ?_;try exact trivial
  rintro _ _ ⟨rfl, rfl⟩
  refine zc ?_;try exact trivial
  cases d1 : (!(rpushM (incR m) m.st.frame).bad)
  · have e : goB (rpushM (incR m) m.st.frame) n = false := by
      show ((!(rpushM (incR m) m.st.frame).bad) && decide ((rpushM (incR m) m.st.frame).pc < n)) = false
      rw [d1]; rfl
    rw [e]
    simp (maxSteps:=2000000) (disch:=omega) only [go_sem,Nat.reduceAdd,Nat.reduceSub,Nat.reduceMul,Nat.reduceBEq,Nat.reduceEqDiff,Nat.reduceLT,Nat.reduceLeDiff,Nat.reduceDiv,reduceIte,reduceCtorEq, d1]
    all_goals exact leCs_refl _
  have e : goB (rpushM (incR m) m.st.frame) n = decide ((rpushM (incR m) m.st.frame).pc < n) := by
    show ((!(rpushM (incR m) m.st.frame).bad) && decide ((rpushM (incR m) m.st.frame).pc < n)) = _
    rw [d1, Bool.true_and]
  rw [e]
  simp (maxSteps:=2000000) (disch:=omega) only [go_sem,Nat.reduceAdd,Nat.reduceSub,Nat.reduceMul,Nat.reduceBEq,Nat.reduceEqDiff,Nat.reduceLT,Nat.reduceLeDiff,Nat.reduceDiv,reduceIte,reduceCtorEq, d1]
  all_goals exact leCs_refl _

set_option maxHeartbeats 4000000 in
theorem does18_h (m : Rac) (arg n : Int) (hl : m.sk.length ≤ 1000) (hp : 0 ≤ m.pc ∧ m.pc ≤ 1000)  (ht : 0 ≤ m.sk.length) : Holds Tryz.prog 69 [.ptr (.arg 0) 0, .agg [.val (.int .i64 18), .val (.int .i64 arg)], .int .i64 n] [(.arg 0, rB (.arg 0) m)] (fun r h' => r = V.bool (goB (rjump (incR m) arg) n) ∧ h' = [(.arg 0, rB (.arg 0) (rjump (incR m) arg))]) := by
  have hlI : (incR m).sk.length ≤ 1000 := hl
  have hf : decide ((m.sk.length : Int) < 0) = false := by simp; try omega
  skip
  refine holds_of_awp Tryz.func69 rfl (by decide +kernel) mixed Tryz.ntmps69 Tryz.results69 ?_
  refine zE ?_
  refine zc ?_;try exact trivial
  refine a_drawC (⟨[V.cell (.ptr (.arg 0) 0), .undef, V.int .i64 n, .undef, V.cell (.ptr (.loc [4]) 0), .undef, V.bool false, U, U, U, U, U, U, U, U, U, U, U, U, U, U, V.bool (decide ((m.sk.length : Int) < 0)), U, U, U, U, U, U, U, U, U, U, U, U, U, U, U, U, U, U, U, U, U, U, U, U, U, U, U, U, U, U, U, U, U, U, U, U, U, U, U, U, U, U, U, U, U, U, U, U, U, U, U, U, U, U, U, U, U, U, U, U, U, U, U, U, U, U, U, U, U, U, U, U, U, U, U, U, U, U, U, U, U, U, U, U, U, U, U, U, U, U, U, U, U, U, U, U, U, U, U, U, U, U, U, U, U, U, U, U, U, U, U, U, U, U, U, U, U, U, U, U, U, U, U, U, U, U, U, U, U, U, U, U, U, U, U, U, U, U, U, U, U, U, U, U, U, U, U, U, U, U, U, U, U, U, U, U, U, U, U, U, U, U, U, U, U, U, U, U, U, U, U, U, U, U, U, U, .undef], [(.loc [4], [.val (.int .i64 18), .val (.int .i64 arg)]), (.arg 0, rB (.arg 0) m)]⟩) (.take 0 (.take 1 (.take 2 (.take 5 (.both [(3, .take 4 (.both [(6, .both [(7, .take 8 (.done))])])), (6, .both [(3, .take 4 (.both [(7, .take 8 (.done))])), (7, .take 3 (.take 4 (.take 8 (.done))))])]))))) (by kernel_rfl) (by kernel_rfl) ?_ ?_
  · refine zc ?_;try exact trivial
    refine ⟨?_, ?_, ?_⟩
    all_goals
      refine a_call [] takes18_h ok0 ?_ ?_ ?_
      · refine zs ?_;try exact trivial
      · refine zs ?_;try exact trivial
      rintro _ _ ⟨rfl, rfl⟩
      refine zs ?_;try exact trivial
      (all_goals exact leCs_refl _)
  simp (maxSteps:=2000000) (disch:=omega) only [go_sem,Nat.reduceAdd,Nat.reduceSub,Nat.reduceMul,Nat.reduceBEq,Nat.reduceEqDiff,Nat.reduceLT,Nat.reduceLeDiff,Nat.reduceDiv,reduceIte,reduceCtorEq, hf]
  try (refine zc ?_; try exact trivial)
  cases d1 : (!m.bad)
  · have e : goB (rjump (incR m) arg) n = false := by
      show ((!m.bad) && decide (arg < n)) = false
      rw [d1]; rfl
    rw [e]
    simp (maxSteps:=2000000) (disch:=omega) only [go_sem,Nat.reduceAdd,Nat.reduceSub,Nat.reduceMul,Nat.reduceBEq,Nat.reduceEqDiff,Nat.reduceLT,Nat.reduceLeDiff,Nat.reduceDiv,reduceIte,reduceCtorEq, d1]
    all_goals exact leCs_refl _
  have e : goB (rjump (incR m) arg) n = decide (arg < n) := by
    show ((!m.bad) && decide (arg < n)) = _
    rw [d1, Bool.true_and]
  rw [e]
  simp (maxSteps:=2000000) (disch:=omega) only [go_sem,Nat.reduceAdd,Nat.reduceSub,Nat.reduceMul,Nat.reduceBEq,Nat.reduceEqDiff,Nat.reduceLT,Nat.reduceLeDiff,Nat.reduceDiv,reduceIte,reduceCtorEq, d1]
  all_goals exact leCs_refl _

set_option maxHeartbeats 4000000 in
theorem does19_h (m : Rac) (arg n : Int) (hl : m.sk.length ≤ 1000) (hp : 0 ≤ m.pc ∧ m.pc ≤ 1000)  (ht : 1 ≤ m.sk.length) : Holds Tryz.prog 69 [.ptr (.arg 0) 0, .agg [.val (.int .i64 19), .val (.int .i64 arg)], .int .i64 n] [(.arg 0, rB (.arg 0) m)] (fun r h' => r = V.bool (goB (rzero (incR m) arg) n) ∧ h' = [(.arg 0, rB (.arg 0) (rzero (incR m) arg))]) := by
  have hlI : (incR m).sk.length ≤ 1000 := hl
  have hf : decide ((m.sk.length : Int) < 1) = false := by simp; try omega
  skip
  refine holds_of_awp Tryz.func69 rfl (by decide +kernel) mixed Tryz.ntmps69 Tryz.results69 ?_
  refine zE ?_
  refine zc ?_;try exact trivial
  refine a_drawC (⟨[V.cell (.ptr (.arg 0) 0), .undef, V.int .i64 n, .undef, V.cell (.ptr (.loc [4]) 0), .undef, V.bool false, U, U, U, U, U, U, U, U, U, U, U, U, U, U, V.bool (decide ((m.sk.length : Int) < 1)), U, U, U, U, U, U, U, U, U, U, U, U, U, U, U, U, U, U, U, U, U, U, U, U, U, U, U, U, U, U, U, U, U, U, U, U, U, U, U, U, U, U, U, U, U, U, U, U, U, U, U, U, U, U, U, U, U, U, U, U, U, U, U, U, U, U, U, U, U, U, U, U, U, U, U, U, U, U, U, U, U, U, U, U, U, U, U, U, U, U, U, U, U, U, U, U, U, U, U, U, U, U, U, U, U, U, U, U, U, U, U, U, U, U, U, U, U, U, U, U, U, U, U, U, U, U, U, U, U, U, U, U, U, U, U, U, U, U, U, U, U, U, U, U, U, U, U, U, U, U, U, U, U, U, U, U, U, U, U, U, U, U, U, U, U, U, U, U, U, U, U, U, U, U, U, U, .undef], [(.loc [4], [.val (.int .i64 19), .val (.int .i64 arg)]), (.arg 0, rB (.arg 0) m)]⟩) (.take 0 (.take 1 (.take 2 (.take 5 (.both [(3, .take 4 (.both [(6, .both [(7, .take 8 (.done))])])), (6, .both [(3, .take 4 (.both [(7, .take 8 (.done))])), (7, .take 3 (.take 4 (.take 8 (.done))))])]))))) (by kernel_rfl) (by kernel_rfl) ?_ ?_
  · refine zc ?_;try exact trivial
    refine ⟨?_, ?_, ?_⟩
    all_goals
      refine a_call [] takes19_h ok0 ?_ ?_ ?_
      · refine zs ?_;try exact trivial
      · refine zs ?_;try exact trivial
      rintro _ _ ⟨rfl, rfl⟩
      refine zs ?_;try exact trivial
      (all_goals exact leCs_refl _)
  simp (maxSteps:=2000000) (disch:=omega) only [go_sem,Nat.reduceAdd,Nat.reduceSub,Nat.reduceMul,Nat.reduceBEq,Nat.reduceEqDiff,Nat.reduceLT,Nat.reduceLeDiff,Nat.reduceDiv,reduceIte,reduceCtorEq, hf]
  try (refine zc ?_; try exact trivial)
  refine a_call [.arg 0] (rpop_h (incR m) (by have h2 := rpop_len (incR m); have h3 := rpop_len (rpopM (incR m)); have h4 := rpush_len (rpopM (incR m)) (rpopV (incR m)); have h5 := rpush_len (rpopM (rpopM (incR m))) (rpopV (incR m)); omega)) (ok1 rfl) ?_ ?_ ?_
  · refine zs ?_;try exact trivial
  · refine zs ?_;try exact trivial
  rintro _ _ ⟨rfl, rfl⟩
  refine zc ?_;try exact trivial
  refine c_dec (fun hz => ?_) (fun hz => ?_)
  · have ez : rzero (incR m) arg = rjump (rpopM (incR m)) arg := by unfold rzero; rw [if_pos hz]
    rw [ez]
    refine zc ?_;try exact trivial
    cases d1 : (!(rpopM (incR m)).bad)
    · have e : goB (rjump (rpopM (incR m)) arg) n = false := by
        show ((!(rpopM (incR m)).bad) && decide (arg < n)) = false
        rw [d1]; rfl
      rw [e]
      simp (maxSteps:=2000000) (disch:=omega) only [go_sem,Nat.reduceAdd,Nat.reduceSub,Nat.reduceMul,Nat.reduceBEq,Nat.reduceEqDiff,Nat.reduceLT,Nat.reduceLeDiff,Nat.reduceDiv,reduceIte,reduceCtorEq, d1]
      all_goals exact leCs_refl _
    have e : goB (rjump (rpopM (incR m)) arg) n = decide (arg < n) := by
      show ((!(rpopM (incR m)).bad) && decide (arg < n)) = _
      rw [d1, Bool.true_and]
    rw [e]
    simp (maxSteps:=2000000) (disch:=omega) only [go_sem,Nat.reduceAdd,Nat.reduceSub,Nat.reduceMul,Nat.reduceBEq,Nat.reduceEqDiff,Nat.reduceLT,Nat.reduceLeDiff,Nat.reduceDiv,reduceIte,reduceCtorEq, d1]
    all_goals exact leCs_refl _
  have ez : rzero (incR m) arg = rpopM (incR m) := by unfold rzero; rw [if_neg hz]
  rw [ez]
  refine zc ?_;try exact trivial
  cases d1 : (!(rpopM (incR m)).bad)
  · have e : goB (rpopM (incR m)) n = false := by
      show ((!(rpopM (incR m)).bad) && decide ((rpopM (incR m)).pc < n)) = false
      rw [d1]; rfl
    rw [e]
    simp (maxSteps:=2000000) (disch:=omega) only [go_sem,Nat.reduceAdd,Nat.reduceSub,Nat.reduceMul,Nat.reduceBEq,Nat.reduceEqDiff,Nat.reduceLT,Nat.reduceLeDiff,Nat.reduceDiv,reduceIte,reduceCtorEq, d1]
    all_goals exact leCs_refl _
  have e : goB (rpopM (incR m)) n = decide ((rpopM (incR m)).pc < n) := by
    show ((!(rpopM (incR m)).bad) && decide ((rpopM (incR m)).pc < n)) = _
    rw [d1, Bool.true_and]
  rw [e]
  simp (maxSteps:=2000000) (disch:=omega) only [go_sem,Nat.reduceAdd,Nat.reduceSub,Nat.reduceMul,Nat.reduceBEq,Nat.reduceEqDiff,Nat.reduceLT,Nat.reduceLeDiff,Nat.reduceDiv,reduceIte,reduceCtorEq, d1]
  all_goals exact leCs_refl _

set_option maxHeartbeats 4000000 in
theorem does20_h (m : Rac) (arg n : Int) (hl : m.sk.length ≤ 1000) (hp : 0 ≤ m.pc ∧ m.pc ≤ 1000)  (ht : 0 ≤ m.sk.length) : Holds Tryz.prog 69 [.ptr (.arg 0) 0, .agg [.val (.int .i64 20), .val (.int .i64 arg)], .int .i64 n] [(.arg 0, rB (.arg 0) m)] (fun r h' => r = V.bool (false) ∧ h' = [(.arg 0, rB (.arg 0) (rwin (incR m) arg))]) := by
  have hlI : (incR m).sk.length ≤ 1000 := hl
  have hf : decide ((m.sk.length : Int) < 0) = false := by simp; try omega
  skip
  refine holds_of_awp Tryz.func69 rfl (by decide +kernel) mixed Tryz.ntmps69 Tryz.results69 ?_
  refine zE ?_
  refine zc ?_;try exact trivial
  refine a_drawC (⟨[V.cell (.ptr (.arg 0) 0), .undef, V.int .i64 n, .undef, V.cell (.ptr (.loc [4]) 0), .undef, V.bool false, U, U, U, U, U, U, U, U, U, U, U, U, U, U, V.bool (decide ((m.sk.length : Int) < 0)), U, U, U, U, U, U, U, U, U, U, U, U, U, U, U, U, U, U, U, U, U, U, U, U, U, U, U, U, U, U, U, U, U, U, U, U, U, U, U, U, U, U, U, U, U, U, U, U, U, U, U, U, U, U, U, U, U, U, U, U, U, U, U, U, U, U, U, U, U, U, U, U, U, U, U, U, U, U, U, U, U, U, U, U, U, U, U, U, U, U, U, U, U, U, U, U, U, U, U, U, U, U, U, U, U, U, U, U, U, U, U, U, U, U, U, U, U, U, U, U, U, U, U, U, U, U, U, U, U, U, U, U, U, U, U, U, U, U, U, U, U, U, U, U, U, U, U, U, U, U, U, U, U, U, U, U, U, U, U, U, U, U, U, U, U, U, U, U, U, U, U, U, U, U, U, U, .undef], [(.loc [4], [.val (.int .i64 20), .val (.int .i64 arg)]), (.arg 0, rB (.arg 0) m)]⟩) (.take 0 (.take 1 (.take 2 (.take 5 (.both [(3, .take 4 (.both [(6, .both [(7, .take 8 (.done))])])), (6, .both [(3, .take 4 (.both [(7, .take 8 (.done))])), (7, .take 3 (.take 4 (.take 8 (.done))))])]))))) (by kernel_rfl) (by kernel_rfl) ?_ ?_
  · refine zc ?_;try exact trivial
    refine ⟨?_, ?_, ?_⟩
    all_goals
      refine a_call [] takes20_h ok0 ?_ ?_ ?_
      · refine zs ?_;try exact trivial
      · refine zs ?_;try exact trivial
      rintro _ _ ⟨rfl, rfl⟩
      refine zs ?_;try exact trivial
      (all_goals exact leCs_refl _)
  simp (maxSteps:=2000000) (disch:=omega) only [go_sem,Nat.reduceAdd,Nat.reduceSub,Nat.reduceMul,Nat.reduceBEq,Nat.reduceEqDiff,Nat.reduceLT,Nat.reduceLeDiff,Nat.reduceDiv,reduceIte,reduceCtorEq, hf]
  try (refine zc ?_; try exact trivial)
  all_goals exact leCs_refl _

set_option maxHeartbeats 4000000 in
theorem does21_h (m : Rac) (arg n : Int) (hl : m.sk.length ≤ 1000) (hp : 0 ≤ m.pc ∧ m.pc ≤ 1000)  (ht : 0 ≤ m.sk.length) : Holds Tryz.prog 69 [.ptr (.arg 0) 0, .agg [.val (.int .i64 21), .val (.int .i64 arg)], .int .i64 n] [(.arg 0, rB (.arg 0) m)] (fun r h' => r = V.bool (goB (rrand (incR m)) n) ∧ h' = [(.arg 0, rB (.arg 0) (rrand (incR m)))]) := by
  have hlI : (incR m).sk.length ≤ 1000 := hl
  have hf : decide ((m.sk.length : Int) < 0) = false := by simp; try omega
  skip
  refine holds_of_awp Tryz.func69 rfl (by decide +kernel) mixed Tryz.ntmps69 Tryz.results69 ?_
  refine zE ?_
  refine zc ?_;try exact trivial
  refine a_drawC (⟨[V.cell (.ptr (.arg 0) 0), .undef, V.int .i64 n, .undef, V.cell (.ptr (.loc [4]) 0), .undef, V.bool false, U, U, U, U, U, U, U, U, U, U, U, U, U, U, V.bool (decide ((m.sk.length : Int) < 0)), U, U, U, U, U, U, U, U, U, U, U, U, U, U, U, U, U, U, U, U, U, U, U, U, U, U, U, U, U, U, U, U, U, U, U, U, U, U, U, U, U, U, U, U, U, U, U, U, U, U, U, U, U, U, U, U, U, U, U, U, U, U, U, U, U, U, U, U, U, U, U, U, U, U, U, U, U, U, U, U, U, U, U, U, U, U, U, U, U, U, U, U, U, U, U, U, U, U, U, U, U, U, U, U, U, U, U, U, U, U, U, U, U, U, U, U, U, U, U, U, U, U, U, U, U, U, U, U, U, U, U, U, U, U, U, U, U, U, U, U, U, U, U, U, U, U, U, U, U, U, U, U, U, U, U, U, U, U, U, U, U, U, U, U, U, U, U, U, U, U, U, U, U, U, U, U, .undef], [(.loc [4], [.val (.int .i64 21), .val (.int .i64 arg)]), (.arg 0, rB (.arg 0) m)]⟩) (.take 0 (.take 1 (.take 2 (.take 5 (.both [(3, .take 4 (.both [(6, .both [(7, .take 8 (.done))])])), (6, .both [(3, .take 4 (.both [(7, .take 8 (.done))])), (7, .take 3 (.take 4 (.take 8 (.done))))])]))))) (by kernel_rfl) (by kernel_rfl) ?_ ?_
  · refine zc ?_;try exact trivial
    refine ⟨?_, ?_, ?_⟩
    all_goals
      refine a_call [] takes21_h ok0 ?_ ?_ ?_
      · refine zs ?_;try exact trivial
      · refine zs ?_;try exact trivial
      rintro _ _ ⟨rfl, rfl⟩
      refine zs ?_;try exact trivial
      (all_goals exact leCs_refl _)
  simp (maxSteps:=2000000) (disch:=omega) only [go_sem,Nat.reduceAdd,Nat.reduceSub,Nat.reduceMul,Nat.reduceBEq,Nat.reduceEqDiff,Nat.reduceLT,Nat.reduceLeDiff,Nat.reduceDiv,reduceIte,reduceCtorEq, hf]
  try (refine zc ?_; try exact trivial)
  have hb := rndV_b (mixS m.st.seed)
  have em : (xor32 (xor32 (xor32 m.st.seed (shl32 m.st.seed 13)) (shr32 (xor32 m.st.seed (shl32 m.st.seed 13)) 17)) (shl32 (xor32 (xor32 m.st.seed (shl32 m.st.seed 13)) (shr32 (xor32 m.st.seed (shl32 m.st.seed 13)) 17)) 5)) = mixS m.st.seed := rfl
  simp only [em]
  refine zc ?_;try exact trivial
  refine a_call [.arg 0] (rpush_h ⟨m.st.wSeed (mixS m.st.seed), m.i0, m.i1, m.sk, m.pc + 1, m.won, m.bad⟩ (rndV (mixS m.st.seed)) (by show m.sk.length ≤ 100000; omega)) (ok1 rfl) ?_ ?_ ?_
  · refine zs ?_;try exact trivial
  · refine zs ?_;try exact trivial
  rintro _ _ ⟨rfl, rfl⟩
  refine zc ?_;try exact trivial
  cases d1 : (!(rpushM ⟨m.st.wSeed (mixS m.st.seed), m.i0, m.i1, m.sk, m.pc + 1, m.won, m.bad⟩ (rndV (mixS m.st.seed))).bad)
  · have e : goB (rrand (incR m)) n = false := by
      show ((!(rpushM ⟨m.st.wSeed (mixS m.st.seed), m.i0, m.i1, m.sk, m.pc + 1, m.won, m.bad⟩ (rndV (mixS m.st.seed))).bad) && decide ((rpushM ⟨m.st.wSeed (mixS m.st.seed), m.i0, m.i1, m.sk, m.pc + 1, m.won, m.bad⟩ (rndV (mixS m.st.seed))).pc < n)) = false
      rw [d1]; rfl
    rw [e]
    simp (maxSteps:=2000000) (disch:=omega) only [go_sem,Nat.reduceAdd,Nat.reduceSub,Nat.reduceMul,Nat.reduceBEq,Nat.reduceEqDiff,Nat.reduceLT,Nat.reduceLeDiff,Nat.reduceDiv,reduceIte,reduceCtorEq, d1]
    all_goals exact leCs_refl _
  have e : goB (rrand (incR m)) n = decide ((rpushM ⟨m.st.wSeed (mixS m.st.seed), m.i0, m.i1, m.sk, m.pc + 1, m.won, m.bad⟩ (rndV (mixS m.st.seed))).pc < n) := by
    show ((!(rpushM ⟨m.st.wSeed (mixS m.st.seed), m.i0, m.i1, m.sk, m.pc + 1, m.won, m.bad⟩ (rndV (mixS m.st.seed))).bad) && decide ((rpushM ⟨m.st.wSeed (mixS m.st.seed), m.i0, m.i1, m.sk, m.pc + 1, m.won, m.bad⟩ (rndV (mixS m.st.seed))).pc < n)) = _
    rw [d1, Bool.true_and]
  rw [e]
  simp (maxSteps:=2000000) (disch:=omega) only [go_sem,Nat.reduceAdd,Nat.reduceSub,Nat.reduceMul,Nat.reduceBEq,Nat.reduceEqDiff,Nat.reduceLT,Nat.reduceLeDiff,Nat.reduceDiv,reduceIte,reduceCtorEq, d1]
  all_goals exact leCs_refl _

set_option maxHeartbeats 4000000 in
theorem does22_h (m : Rac) (arg n : Int) (hl : m.sk.length ≤ 1000) (hp : 0 ≤ m.pc ∧ m.pc ≤ 1000)  (ht : 0 ≤ m.sk.length) : Holds Tryz.prog 69 [.ptr (.arg 0) 0, .agg [.val (.int .i64 22), .val (.int .i64 arg)], .int .i64 n] [(.arg 0, rB (.arg 0) m)] (fun r h' => r = V.bool (false) ∧ h' = [(.arg 0, rB (.arg 0) (incR m))]) := by
  have hlI : (incR m).sk.length ≤ 1000 := hl
  have hf : decide ((m.sk.length : Int) < 0) = false := by simp; try omega
  skip
  refine holds_of_awp Tryz.func69 rfl (by decide +kernel) mixed Tryz.ntmps69 Tryz.results69 ?_
  refine zE ?_
  refine zc ?_;try exact trivial
  refine a_drawC (⟨[V.cell (.ptr (.arg 0) 0), .undef, V.int .i64 n, .undef, V.cell (.ptr (.loc [4]) 0), .undef, V.bool false, U, U, U, U, U, U, U, U, U, U, U, U, U, U, V.bool (decide ((m.sk.length : Int) < 0)), U, U, U, U, U, U, U, U, U, U, U, U, U, U, U, U, U, U, U, U, U, U, U, U, U, U, U, U, U, U, U, U, U, U, U, U, U, U, U, U, U, U, U, U, U, U, U, U, U, U, U, U, U, U, U, U, U, U, U, U, U, U, U, U, U, U, U, U, U, U, U, U, U, U, U, U, U, U, U, U, U, U, U, U, U, U, U, U, U, U, U, U, U, U, U, U, U, U, U, U, U, U, U, U, U, U, U, U, U, U, U, U, U, U, U, U, U, U, U, U, U, U, U, U, U, U, U, U, U, U, U, U, U, U, U, U, U, U, U, U, U, U, U, U, U, U, U, U, U, U, U, U, U, U, U, U, U, U, U, U, U, U, U, U, U, U, U, U, U, U, U, U, U, U, U, U, .undef], [(.loc [4], [.val (.int .i64 22), .val (.int .i64 arg)]), (.arg 0, rB (.arg 0) m)]⟩) (.take 0 (.take 1 (.take 2 (.take 5 (.both [(3, .take 4 (.both [(6, .both [(7, .take 8 (.done))])])), (6, .both [(3, .take 4 (.both [(7, .take 8 (.done))])), (7, .take 3 (.take 4 (.take 8 (.done))))])]))))) (by kernel_rfl) (by kernel_rfl) ?_ ?_
  · refine zc ?_;try exact trivial
    refine ⟨?_, ?_, ?_⟩
    all_goals
      refine a_call [] takes22_h ok0 ?_ ?_ ?_
      · refine zs ?_;try exact trivial
      · refine zs ?_;try exact trivial
      rintro _ _ ⟨rfl, rfl⟩
      refine zs ?_;try exact trivial
      (all_goals exact leCs_refl _)
  simp (maxSteps:=2000000) (disch:=omega) only [go_sem,Nat.reduceAdd,Nat.reduceSub,Nat.reduceMul,Nat.reduceBEq,Nat.reduceEqDiff,Nat.reduceLT,Nat.reduceLeDiff,Nat.reduceDiv,reduceIte,reduceCtorEq, hf]
  try (refine zc ?_; try exact trivial)
  all_goals exact leCs_refl _
end
section
set_option maxRecDepth 20000
set_option maxHeartbeats 4000000 in
theorem doesT_h (op : Int) (f : Int → Int → Int) (hop : 4 ≤ op ∧ op ≤ 11) (hT : Holds Tryz.prog 75 [.int .i64 op] [] (fun r h' => r = .int .i64 2 ∧ h' = [])) (m : Rac) (arg n : Int)
    (hW : Holds Tryz.prog 79 [.int .i64 op, .int .i32 (rpopV (rpopM (incR m))), .int .i32 (rpopV (incR m))] [] (fun r h' => r = .int .i32 (f (rpopV (rpopM (incR m))) (rpopV (incR m))) ∧ h' = []))
    (hl : m.sk.length ≤ 1000) (hp : 0 ≤ m.pc ∧ m.pc ≤ 1000) (ht : 2 ≤ m.sk.length) : Holds Tryz.prog 69 [.ptr (.arg 0) 0, .agg [.val (.int .i64 op), .val (.int .i64 arg)], .int .i64 n] [(.arg 0, rB (.arg 0) m)] (fun r h' => r = V.bool (goB (rtwo f (incR m)) n) ∧ h' = [(.arg 0, rB (.arg 0) (rtwo f (incR m)))]) := by
  have hlI : (incR m).sk.length ≤ 1000 := hl
  have hf : decide ((m.sk.length : Int) < 2) = false := by simp; try omega
  have n1 : decide (op = 1) = false := decide_eq_false (by omega)
  have n2 : decide (op = 2) = false := decide_eq_false (by omega)
  have n3 : decide (op = 3) = false := decide_eq_false (by omega)
  have n12 : decide (op = 12) = false := decide_eq_false (by omega)
  have n13 : decide (op = 13) = false := decide_eq_false (by omega)
  have n14 : decide (op = 14) = false := decide_eq_false (by omega)
  have n15 : decide (op = 15) = false := decide_eq_false (by omega)
  have n16 : decide (op = 16) = false := decide_eq_false (by omega)
  have n17 : decide (op = 17) = false := decide_eq_false (by omega)
  have n18 : decide (op = 18) = false := decide_eq_false (by omega)
  have n19 : decide (op = 19) = false := decide_eq_false (by omega)
  have n20 : decide (op = 20) = false := decide_eq_false (by omega)
  have n21 : decide (op = 21) = false := decide_eq_false (by omega)
  have n22 : decide (op = 22) = false := decide_eq_false (by omega)
  refine holds_of_awp Tryz.func69 rfl (by decide +kernel) mixed Tryz.ntmps69 Tryz.results69 ?_
  refine zE ?_
  refine zc ?_;try exact trivial
  refine a_drawC (⟨[V.cell (.ptr (.arg 0) 0), .undef, V.int .i64 n, .undef, V.cell (.ptr (.loc [4]) 0), .undef, V.bool false, U, U, U, U, U, U, U, U, U, U, U, U, U, U, V.bool (decide ((m.sk.length : Int) < 2)), U, U, U, U, U, U, U, U, U, U, U, U, U, U, U, U, U, U, U, U, U, U, U, U, U, U, U, U, U, U, U, U, U, U, U, U, U, U, U, U, U, U, U, U, U, U, U, U, U, U, U, U, U, U, U, U, U, U, U, U, U, U, U, U, U, U, U, U, U, U, U, U, U, U, U, U, U, U, U, U, U, U, U, U, U, U, U, U, U, U, U, U, U, U, U, U, U, U, U, U, U, U, U, U, U, U, U, U, U, U, U, U, U, U, U, U, U, U, U, U, U, U, U, U, U, U, U, U, U, U, U, U, U, U, U, U, U, U, U, U, U, U, U, U, U, U, U, U, U, U, U, U, U, U, U, U, U, U, U, U, U, U, U, U, U, U, U, U, U, U, U, U, U, U, U, U, .undef], [(.loc [4], [.val (.int .i64 op), .val (.int .i64 arg)]), (.arg 0, rB (.arg 0) m)]⟩) (.take 0 (.take 1 (.take 2 (.take 5 (.both [(3, .take 4 (.both [(6, .both [(7, .take 8 (.done))])])), (6, .both [(3, .take 4 (.both [(7, .take 8 (.done))])), (7, .take 3 (.take 4 (.take 8 (.done))))])]))))) (by kernel_rfl) (by kernel_rfl) ?_ ?_
  · refine zc ?_;try exact trivial
    refine ⟨?_, ?_, ?_⟩
    all_goals
      refine a_call [] hT ok0 ?_ ?_ ?_
      · refine zs ?_;try exact trivial
      · refine zs ?_;try exact trivial
      rintro _ _ ⟨rfl, rfl⟩
      refine zs ?_;try exact trivial
      (all_goals exact leCs_refl _)
  simp (maxSteps:=2000000) (disch:=omega) only [go_sem,Nat.reduceAdd,Nat.reduceSub,Nat.reduceMul,Nat.reduceBEq,Nat.reduceEqDiff,Nat.reduceLT,Nat.reduceLeDiff,Nat.reduceDiv,reduceIte,reduceCtorEq, hf, n1, n2, n3, n12, n13, n14, n15, n16, n17, n18, n19, n20, n21, n22]
  refine a_call [.arg 0] (rpop_h (incR m) (by have h2 := rpop_len (incR m); have h3 := rpop_len (rpopM (incR m)); omega)) (ok1 rfl) ?_ ?_ ?_
  · refine zs ?_;try exact trivial
  · refine zs ?_;try exact trivial
  rintro _ _ ⟨rfl, rfl⟩
  refine zc ?_;try exact trivial
  refine a_call [.arg 0] (rpop_h (rpopM (incR m)) (by have h2 := rpop_len (incR m); have h3 := rpop_len (rpopM (incR m)); omega)) (ok1 rfl) ?_ ?_ ?_
  · refine zs ?_;try exact trivial
  · refine zs ?_;try exact trivial
  rintro _ _ ⟨rfl, rfl⟩
  refine zc ?_;try exact trivial
  refine a_call [] (hW) ok0 ?_ ?_ ?_
  · refine zs ?_;try exact trivial
  · refine zs ?_;try exact trivial
  rintro _ _ ⟨rfl, rfl⟩
  refine zc ?_;try exact trivial
  refine a_call [.arg 0] (rpush_h (rpopM (rpopM (incR m))) (f (rpopV (rpopM (incR m))) (rpopV (incR m))) (by have h2 := rpop_len (incR m); have h3 := rpop_len (rpopM (incR m)); omega)) (ok1 rfl) ?_ ?_ ?_
  · refine zs ?_;try exact trivial
  · refine zs ?_;try exact trivial
  rintro _ _ ⟨rfl, rfl⟩
  refine zc ?_;try exact trivial
  cases d1 : (!(rpushM (rpopM (rpopM (incR m))) (f (rpopV (rpopM (incR m))) (rpopV (incR m)))).bad)
  · have e : goB (rtwo f (incR m)) n = false := by
      show ((!(rpushM (rpopM (rpopM (incR m))) (f (rpopV (rpopM (incR m))) (rpopV (incR m)))).bad) && decide ((rpushM (rpopM (rpopM (incR m))) (f (rpopV (rpopM (incR m))) (rpopV (incR m)))).pc < n)) = false
      rw [d1]; rfl
    rw [e]
    simp (maxSteps:=2000000) (disch:=omega) only [go_sem,Nat.reduceAdd,Nat.reduceSub,Nat.reduceMul,Nat.reduceBEq,Nat.reduceEqDiff,Nat.reduceLT,Nat.reduceLeDiff,Nat.reduceDiv,reduceIte,reduceCtorEq, d1]
    all_goals exact leCs_refl _
  have e : goB (rtwo f (incR m)) n = decide ((rpushM (rpopM (rpopM (incR m))) (f (rpopV (rpopM (incR m))) (rpopV (incR m)))).pc < n) := by
    show ((!(rpushM (rpopM (rpopM (incR m))) (f (rpopV (rpopM (incR m))) (rpopV (incR m)))).bad) && decide ((rpushM (rpopM (rpopM (incR m))) (f (rpopV (rpopM (incR m))) (rpopV (incR m)))).pc < n)) = _
    rw [d1, Bool.true_and]
  rw [e]
  simp (maxSteps:=2000000) (disch:=omega) only [go_sem,Nat.reduceAdd,Nat.reduceSub,Nat.reduceMul,Nat.reduceBEq,Nat.reduceEqDiff,Nat.reduceLT,Nat.reduceLeDiff,Nat.reduceDiv,reduceIte,reduceCtorEq, d1]
  all_goals exact leCs_refl _
theorem does4_h (m : Rac) (arg n : Int) (hl : m.sk.length ≤ 1000) (hp : 0 ≤ m.pc ∧ m.pc ≤ 1000) (hb : B32 (rpopV (rpopM (incR m)))) (ha : B32 (rpopV (incR m))) (ht : 2 ≤ m.sk.length) : Holds Tryz.prog 69 [.ptr (.arg 0) 0, .agg [.val (.int .i64 4), .val (.int .i64 arg)], .int .i64 n] [(.arg 0, rB (.arg 0) m)] (fun r h' => r = V.bool (goB (rtwo f4 (incR m)) n) ∧ h' = [(.arg 0, rB (.arg 0) (rtwo f4 (incR m)))]) :=
  doesT_h 4 f4 (by omega) takes4_h m arg n (two4_h10 _ _ hb ha) hl hp ht
theorem does5_h (m : Rac) (arg n : Int) (hl : m.sk.length ≤ 1000) (hp : 0 ≤ m.pc ∧ m.pc ≤ 1000) (hb : B32 (rpopV (rpopM (incR m)))) (ha : B32 (rpopV (incR m))) (ht : 2 ≤ m.sk.length) : Holds Tryz.prog 69 [.ptr (.arg 0) 0, .agg [.val (.int .i64 5), .val (.int .i64 arg)], .int .i64 n] [(.arg 0, rB (.arg 0) m)] (fun r h' => r = V.bool (goB (rtwo f5 (incR m)) n) ∧ h' = [(.arg 0, rB (.arg 0) (rtwo f5 (incR m)))]) :=
  doesT_h 5 f5 (by omega) takes5_h m arg n (two5_h10 _ _ hb ha) hl hp ht
theorem does6_h (m : Rac) (arg n : Int) (hl : m.sk.length ≤ 1000) (hp : 0 ≤ m.pc ∧ m.pc ≤ 1000) (hb : B32 (rpopV (rpopM (incR m)))) (ha : B32 (rpopV (incR m))) (ht : 2 ≤ m.sk.length) : Holds Tryz.prog 69 [.ptr (.arg 0) 0, .agg [.val (.int .i64 6), .val (.int .i64 arg)], .int .i64 n] [(.arg 0, rB (.arg 0) m)] (fun r h' => r = V.bool (goB (rtwo f6 (incR m)) n) ∧ h' = [(.arg 0, rB (.arg 0) (rtwo f6 (incR m)))]) :=
  doesT_h 6 f6 (by omega) takes6_h m arg n (two6_h10 _ _ hb ha) hl hp ht
theorem does7_h (m : Rac) (arg n : Int) (hl : m.sk.length ≤ 1000) (hp : 0 ≤ m.pc ∧ m.pc ≤ 1000) (hb : B32 (rpopV (rpopM (incR m)))) (ha : B32 (rpopV (incR m))) (ht : 2 ≤ m.sk.length) : Holds Tryz.prog 69 [.ptr (.arg 0) 0, .agg [.val (.int .i64 7), .val (.int .i64 arg)], .int .i64 n] [(.arg 0, rB (.arg 0) m)] (fun r h' => r = V.bool (goB (rtwo f7 (incR m)) n) ∧ h' = [(.arg 0, rB (.arg 0) (rtwo f7 (incR m)))]) :=
  doesT_h 7 f7 (by omega) takes7_h m arg n (two7_h10 _ _ hb ha) hl hp ht
theorem does8_h (m : Rac) (arg n : Int) (hl : m.sk.length ≤ 1000) (hp : 0 ≤ m.pc ∧ m.pc ≤ 1000) (hb : B32 (rpopV (rpopM (incR m)))) (ha : B32 (rpopV (incR m))) (ht : 2 ≤ m.sk.length) : Holds Tryz.prog 69 [.ptr (.arg 0) 0, .agg [.val (.int .i64 8), .val (.int .i64 arg)], .int .i64 n] [(.arg 0, rB (.arg 0) m)] (fun r h' => r = V.bool (goB (rtwo f8 (incR m)) n) ∧ h' = [(.arg 0, rB (.arg 0) (rtwo f8 (incR m)))]) :=
  doesT_h 8 f8 (by omega) takes8_h m arg n (two8_h10 _ _ hb ha) hl hp ht
theorem does9_h (m : Rac) (arg n : Int) (hl : m.sk.length ≤ 1000) (hp : 0 ≤ m.pc ∧ m.pc ≤ 1000) (hb : B32 (rpopV (rpopM (incR m)))) (ha : B32 (rpopV (incR m))) (ht : 2 ≤ m.sk.length) : Holds Tryz.prog 69 [.ptr (.arg 0) 0, .agg [.val (.int .i64 9), .val (.int .i64 arg)], .int .i64 n] [(.arg 0, rB (.arg 0) m)] (fun r h' => r = V.bool (goB (rtwo f9 (incR m)) n) ∧ h' = [(.arg 0, rB (.arg 0) (rtwo f9 (incR m)))]) :=
  doesT_h 9 f9 (by omega) takes9_h m arg n (two9_h10 _ _ hb ha) hl hp ht
theorem does10_h (m : Rac) (arg n : Int) (hl : m.sk.length ≤ 1000) (hp : 0 ≤ m.pc ∧ m.pc ≤ 1000) (hb : B32 (rpopV (rpopM (incR m)))) (ha : B32 (rpopV (incR m))) (ht : 2 ≤ m.sk.length) : Holds Tryz.prog 69 [.ptr (.arg 0) 0, .agg [.val (.int .i64 10), .val (.int .i64 arg)], .int .i64 n] [(.arg 0, rB (.arg 0) m)] (fun r h' => r = V.bool (goB (rtwo f10 (incR m)) n) ∧ h' = [(.arg 0, rB (.arg 0) (rtwo f10 (incR m)))]) :=
  doesT_h 10 f10 (by omega) takes10_h m arg n (two10_h10 _ _ hb ha) hl hp ht
theorem does11_h (m : Rac) (arg n : Int) (hl : m.sk.length ≤ 1000) (hp : 0 ≤ m.pc ∧ m.pc ≤ 1000) (hb : B32 (rpopV (rpopM (incR m)))) (ha : B32 (rpopV (incR m))) (ht : 2 ≤ m.sk.length) : Holds Tryz.prog 69 [.ptr (.arg 0) 0, .agg [.val (.int .i64 11), .val (.int .i64 arg)], .int .i64 n] [(.arg 0, rB (.arg 0) m)] (fun r h' => r = V.bool (goB (rtwo f11 (incR m)) n) ∧ h' = [(.arg 0, rB (.arg 0) (rtwo f11 (incR m)))]) :=
  doesT_h 11 f11 (by omega) takes11_h m arg n (two11_h10 _ _ hb ha) hl hp ht
end
section
theorem takes_h {op : Int} (h : 1 ≤ op ∧ op ≤ 22) : Holds Tryz.prog 75 [.int .i64 op] [] (fun r h' => r = .int .i64 (takesP op : Nat) ∧ h' = []) := by
  rcases op_cases h with rfl | rfl | rfl | rfl | rfl | rfl | rfl | rfl | rfl | rfl | rfl | rfl | rfl | rfl | rfl | rfl | rfl | rfl | rfl | rfl | rfl | rfl
  · exact takes1_h
  · exact takes2_h
  · exact takes3_h
  · exact takes4_h
  · exact takes5_h
  · exact takes6_h
  · exact takes7_h
  · exact takes8_h
  · exact takes9_h
  · exact takes10_h
  · exact takes11_h
  · exact takes12_h
  · exact takes13_h
  · exact takes14_h
  · exact takes15_h
  · exact takes16_h
  · exact takes17_h
  · exact takes18_h
  · exact takes19_h
  · exact takes20_h
  · exact takes21_h
  exact takes22_h
set_option maxRecDepth 20000 in
set_option maxHeartbeats 4000000 in
theorem doesF_h (op : Int) (hop : 1 ≤ op ∧ op ≤ 22) (m : Rac) (arg n : Int) (hl : m.sk.length ≤ 1000) (ht : m.sk.length < takesP op) : Holds Tryz.prog 69 [.ptr (.arg 0) 0, .agg [.val (.int .i64 op), .val (.int .i64 arg)], .int .i64 n] [(.arg 0, rB (.arg 0) m)] (fun r h' => r = V.bool false ∧ h' = [(.arg 0, rB (.arg 0) (badR m))]) := by
  have hT := takes_h hop
  have hf : decide ((m.sk.length : Int) < ((takesP op : Nat) : Int)) = true := by simp; omega
  generalize takesP op = t at hT hf
  unfold badR
  refine holds_of_awp Tryz.func69 rfl (by decide +kernel) mixed Tryz.ntmps69 Tryz.results69 ?_
  refine zE ?_
  refine zc ?_;try exact trivial
  refine a_drawC (⟨[V.cell (.ptr (.arg 0) 0), .undef, V.int .i64 n, .undef, V.cell (.ptr (.loc [4]) 0), .undef, V.bool false, U, U, U, U, U, U, U, U, U, U, U, U, U, U, V.bool (decide ((m.sk.length : Int) < (t : Int))), U, U, U, U, U, U, U, U, U, U, U, U, U, U, U, U, U, U, U, U, U, U, U, U, U, U, U, U, U, U, U, U, U, U, U, U, U, U, U, U, U, U, U, U, U, U, U, U, U, U, U, U, U, U, U, U, U, U, U, U, U, U, U, U, U, U, U, U, U, U, U, U, U, U, U, U, U, U, U, U, U, U, U, U, U, U, U, U, U, U, U, U, U, U, U, U, U, U, U, U, U, U, U, U, U, U, U, U, U, U, U, U, U, U, U, U, U, U, U, U, U, U, U, U, U, U, U, U, U, U, U, U, U, U, U, U, U, U, U, U, U, U, U, U, U, U, U, U, U, U, U, U, U, U, U, U, U, U, U, U, U, U, U, U, U, U, U, U, U, U, U, U, U, U, U, U, .undef], [(.loc [4], [.val (.int .i64 op), .val (.int .i64 arg)]), (.arg 0, rB (.arg 0) m)]⟩) (.take 0 (.take 1 (.take 2 (.take 5 (.both [(3, .take 4 (.both [(6, .both [(7, .take 8 (.done))])])), (6, .both [(3, .take 4 (.both [(7, .take 8 (.done))])), (7, .take 3 (.take 4 (.take 8 (.done))))])]))))) (by kernel_rfl) (by kernel_rfl) ?_ ?_
  · refine zc ?_;try exact trivial
    refine ⟨?_, ?_, ?_⟩
    all_goals
      refine a_call [] hT ok0 ?_ ?_ ?_
      · refine zs ?_;try exact trivial
      · refine zs ?_;try exact trivial
      rintro _ _ ⟨rfl, rfl⟩
      refine zs ?_;try exact trivial
      (all_goals exact leCs_refl _)
  simp (maxSteps:=2000000) (disch:=omega) only [go_sem,Nat.reduceAdd,Nat.reduceSub,Nat.reduceMul,Nat.reduceBEq,Nat.reduceEqDiff,Nat.reduceLT,Nat.reduceLeDiff,Nat.reduceDiv,reduceIte,reduceCtorEq, hf]
  try (refine zc ?_; try exact trivial)
  all_goals exact leCs_refl _
set_option maxHeartbeats 4000000 in
/-- what an instruction of the other machine does -/
theorem does_h (op arg n : Int) (m : Rac) (hm : mayP op arg n = true) (hl : m.sk.length ≤ 1000) (hp : 0 ≤ m.pc ∧ m.pc ≤ 1000) (hB : ∀ x ∈ m.sk, B32 x) (h0 : 0 ≤ m.st.frame) (h1 : m.st.frame ≤ 600) :
    Holds Tryz.prog 69 [.ptr (.arg 0) 0, .agg [.val (.int .i64 op), .val (.int .i64 arg)], .int .i64 n] [(.arg 0, rB (.arg 0) m)] (fun r h' => r = V.bool (rdoB op arg n m) ∧ h' = [(.arg 0, rB (.arg 0) (rdoM op arg m))]) := by
  obtain ⟨ho, ha1, ha2, ha16, ha18, ha20⟩ := mayP_arg hm
  by_cases hf : m.sk.length < takesP op
  · have e1 : rdoB op arg n m = false := if_pos (.inl hf)
    have e2 : rdoM op arg m = badR m := if_pos hf
    rw [e1, e2]
    exact doesF_h op ho m arg n hl hf
  have ht : takesP op ≤ m.sk.length := by omega
  have e2 : rdoM op arg m = rdoK op arg m := if_neg hf
  have e1 : op ≠ 20 → op ≠ 22 → rdoB op arg n m = goB (rdoK op arg m) n := fun a b => by
    unfold rdoB
    rw [if_neg (by rintro (h | h | h) <;> contradiction), e2]
  have e3 : op = 20 ∨ op = 22 → rdoB op arg n m = false := fun h => if_pos (.inr h)
  have p1 : B32 (rpopV (incR m)) := getD_B32 hB _
  have p2 : B32 (rpopV (rpopM (incR m))) := getD_B32 (fun x hx => hB x (List.mem_of_mem_take hx)) _
  rw [e2]
  clear e2
  rcases op_cases ho with rfl | rfl | rfl | rfl | rfl | rfl | rfl | rfl | rfl | rfl | rfl | rfl | rfl | rfl | rfl | rfl | rfl | rfl | rfl | rfl | rfl | rfl
  · rw [e1 (by omega) (by omega)]; exact does1_h m arg n hl hp (ha1 rfl) ht
  · rw [e1 (by omega) (by omega)]; exact does2_h m arg n hl hp (ha2 (.inl rfl)).1 (ha2 (.inl rfl)).2 ht
  · rw [e1 (by omega) (by omega)]; exact does3_h m arg n hl hp (ha2 (.inr rfl)).1 (ha2 (.inr rfl)).2 ht
  · rw [e1 (by omega) (by omega)]; exact does4_h m arg n hl hp p2 p1 ht
  · rw [e1 (by omega) (by omega)]; exact does5_h m arg n hl hp p2 p1 ht
  · rw [e1 (by omega) (by omega)]; exact does6_h m arg n hl hp p2 p1 ht
  · rw [e1 (by omega) (by omega)]; exact does7_h m arg n hl hp p2 p1 ht
  · rw [e1 (by omega) (by omega)]; exact does8_h m arg n hl hp p2 p1 ht
  · rw [e1 (by omega) (by omega)]; exact does9_h m arg n hl hp p2 p1 ht
  · rw [e1 (by omega) (by omega)]; exact does10_h m arg n hl hp p2 p1 ht
  · rw [e1 (by omega) (by omega)]; exact does11_h m arg n hl hp p2 p1 ht
  · rw [e1 (by omega) (by omega)]; exact does12_h m arg n hl hp ht
  · rw [e1 (by omega) (by omega)]; exact does13_h m arg n hl hp ht
  · rw [e1 (by omega) (by omega)]; exact does14_h m arg n hl hp ht
  · rw [e1 (by omega) (by omega)]; exact does15_h m arg n hl hp ht
  · rw [e1 (by omega) (by omega)]; exact does16_h m arg n hl hp (ha16 rfl) ht
  · rw [e1 (by omega) (by omega)]; exact does17_h m arg n hl hp h0 h1 ht
  · rw [e1 (by omega) (by omega)]; exact does18_h m arg n hl hp ht
  · rw [e1 (by omega) (by omega)]; exact does19_h m arg n hl hp ht
  · rw [e3 (.inl rfl)]; exact does20_h m arg n hl hp ht
  · rw [e1 (by omega) (by omega)]; exact does21_h m arg n hl hp ht
  rw [e3 (.inr rfl)]; exact does22_h m arg n hl hp ht
end
section
/-- what holds of the other machine -/
structure okR (n : Int) (r : Rac) : Prop where
  pc0 : 0 ≤ r.pc
  pc1 : r.pc ≤ n
  len : r.sk.length ≤ 32
  sk : ∀ x ∈ r.sk, B32 x
  cells : ∀ x ∈ r.st.cells, B32 x
  fr0 : 0 ≤ r.st.frame
  fr1 : r.st.frame ≤ 600
theorem rpopV_B {r : Rac} (h : ∀ x ∈ r.sk, B32 x) : B32 (rpopV r) := getD_B32 h _
theorem okR.pop {n : Int} {r : Rac} (h : okR n r) : okR n (rpopM r) := ⟨h.pc0, h.pc1, Nat.le_trans (List.length_take_le' _ _) h.len, fun x hx => h.sk x (List.mem_of_mem_take hx), h.cells, h.fr0, h.fr1⟩
theorem okR.push {n : Int} {r : Rac} (h : okR n r) {x : Int} (hx : B32 x) : okR n (rpushM r x) := by
  unfold rpushM
  split
  · exact ⟨h.pc0, h.pc1, h.len, h.sk, h.cells, h.fr0, h.fr1⟩
  refine ⟨h.pc0, h.pc1, by simp; omega, fun y hy => ?_, h.cells, h.fr0, h.fr1⟩
  rcases List.mem_append.1 hy with h1 | h1
  · exact h.sk y h1
  rw [List.mem_singleton.1 h1]; exact hx
theorem okR.two {n : Int} {r : Rac} (h : okR n r) {f : Int → Int → Int} (hf : ∀ b a, B32 b → B32 a → B32 (f b a)) : okR n (rtwo f r) := h.pop.pop.push (hf _ _ (rpopV_B h.pop.sk) (rpopV_B h.sk))
theorem okR.do {n op arg : Int} {r : Rac} (h : okR n r) (hp : r.pc < n) (hm : mayP op arg n = true) : okR n (rdoM op arg r) := by
  obtain ⟨ho, h1, h2, h16, h18, h20⟩ := mayP_arg hm
  have u0 := U16_b r.i0
  have u1 := U16_b r.i1
  have hr := rndV_b (mixS r.st.seed)
  have i : okR n (incR r) := ⟨by show 0 ≤ r.pc + 1; have := h.pc0; omega, by show r.pc + 1 ≤ n; omega, h.len, h.sk, h.cells, h.fr0, h.fr1⟩
  unfold rdoM
  split
  · exact ⟨h.pc0, h.pc1, h.len, h.sk, h.cells, h.fr0, h.fr1⟩
  rcases op_cases ho with rfl | rfl | rfl | rfl | rfl | rfl | rfl | rfl | rfl | rfl | rfl | rfl | rfl | rfl | rfl | rfl | rfl | rfl | rfl | rfl | rfl | rfl
  · exact i.push (h1 rfl)
  · exact i.push (getD_B32 i.cells _)
  · exact ⟨i.pc0, i.pc1, i.pop.len, i.pop.sk, wCells_B i.cells (rpopV_B i.sk), i.fr0, i.fr1⟩
  · exact i.two fun _ _ _ _ => held_b _
  · exact i.two fun _ _ _ _ => held_b _
  · exact i.two fun _ _ _ _ => held_b _
  · exact i.two fun _ _ => divV_B
  · exact i.two fun _ _ => min_B
  · exact i.two fun _ _ => max_B
  · exact i.two fun _ _ _ _ => truthV_B _
  · exact i.two fun _ _ _ _ => truthV_B _
  · exact i.pop.push (truthV_B _)
  · exact (i.pop.push (rpopV_B i.sk)).push (rpopV_B i.sk)
  · exact (i.pop.pop.push (rpopV_B i.sk)).push (rpopV_B i.pop.sk)
  · exact i.pop
  · exact i.push (by show B32 (if arg = 0 then (U16 r.i0 : Int) else U16 r.i1); split <;> (unfold B32; omega))
  · exact i.push (by have := h.fr0; have := h.fr1; unfold B32; omega)
  · exact ⟨(h18 (.inl rfl)).1, (h18 (.inl rfl)).2, i.len, i.sk, i.cells, i.fr0, i.fr1⟩
  · show okR n (rzero (incR r) arg)
    unfold rzero
    split
    · exact ⟨(h18 (.inr rfl)).1, (h18 (.inr rfl)).2, i.pop.len, i.pop.sk, i.cells, i.fr0, i.fr1⟩
    exact i.pop
  · exact ⟨i.pc0, i.pc1, i.len, i.sk, i.cells, i.fr0, i.fr1⟩
  · exact okR.push (r := ⟨r.st.wSeed (mixS r.st.seed), r.i0, r.i1, r.sk, r.pc + 1, r.won, r.bad⟩) ⟨i.pc0, i.pc1, i.len, i.sk, i.cells, i.fr0, i.fr1⟩ (by show B32 (rndV (mixS r.st.seed)); unfold B32; omega)
  exact i
theorem okR.bad {n : Int} {r : Rac} (h : okR n r) : okR n (badR r) := ⟨h.pc0, h.pc1, h.len, h.sk, h.cells, h.fr0, h.fr1⟩
theorem okR.run {code : List (Int × Int)} (hc : (chkP code).2 = 0) : ∀ (f : Nat) (r : Rac), okR code.length r → okR code.length (rrunM code f r)
  | 0, r, h => by
    unfold rrunM
    split
    · exact h.bad
    exact h
  | f + 1, r, h => by
    unfold rrunM
    split
    · rename_i hp
      have h0 := h.pc0
      have hmay := chk_all hc (i := r.pc.toNat) (by omega)
      have hd := h.do hp hmay
      split
      · exact okR.run hc f _ hd
      exact hd
    exact h
/-- the other guards -/
theorem rcheck10_h (l : List (Int × Int)) (cap fuel : Int) (hl : l.length ≤ 9223372036854775807) : Holds Tryz.prog 22 [.game l cap fuel] [] (fun r h' => r = .int .i64 (gameP l cap fuel) ∧ h' = []) := by
  refine holds_of_awp Tryz.func22 rfl (by decide +kernel) mixed Tryz.ntmps22 Tryz.results22 ?_
  refine zE ?_
  refine zs ?_;try exact trivial
  refine a_call [] (rcheck_h l hl) ok0 ?_ ?_ ?_
  · refine zs ?_;try exact trivial
  · refine zs ?_;try exact trivial
  rintro _ _ ⟨rfl, rfl⟩
  refine zs ?_;try exact trivial
  refine c_dec (fun h => ?_) (fun h => ?_)
  · have e : gameP l cap fuel = (chkP l).2 := by unfold gameP; rw [if_pos h]
    rw [e]
    refine zs ?_;try exact trivial
  have e0 : ¬ (chkP l).2 ≠ 0 := h
  refine zs ?_;try exact trivial
  cases d1 : decide (cap < 1)
  · cases d2 : decide (600 < cap)
    · cases d3 : decide (fuel < 1)
      · simp (maxSteps:=2000000) (disch:=omega) only [go_sem,Nat.reduceAdd,Nat.reduceSub,Nat.reduceMul,Nat.reduceBEq,Nat.reduceEqDiff,Nat.reduceLT,Nat.reduceLeDiff,Nat.reduceDiv,reduceIte,reduceCtorEq, d1, d2, d3]
        have f1 := of_decide_eq_false d1
        have f2 := of_decide_eq_false d2
        have f3 := of_decide_eq_false d3
        refine c_dec (fun h => ?_) (fun h => ?_)
        · have e : gameP l cap fuel = 1 := by unfold gameP; rw [if_neg e0, if_pos (by omega)]
          rw [e]
          refine zs ?_;try exact trivial
        have e : gameP l cap fuel = 0 := by unfold gameP; rw [if_neg e0, if_neg (by omega)]
        rw [e]
        refine zs ?_;try exact trivial
      have f := of_decide_eq_true d3
      have e : gameP l cap fuel = 1 := by unfold gameP; rw [if_neg e0, if_pos (by omega)]
      rw [e]
      simp (maxSteps:=2000000) (disch:=omega) only [go_sem,Nat.reduceAdd,Nat.reduceSub,Nat.reduceMul,Nat.reduceBEq,Nat.reduceEqDiff,Nat.reduceLT,Nat.reduceLeDiff,Nat.reduceDiv,reduceIte,reduceCtorEq, d1, d2, d3]
    have f := of_decide_eq_true d2
    have e : gameP l cap fuel = 1 := by unfold gameP; rw [if_neg e0, if_pos (by omega)]
    rw [e]
    simp (maxSteps:=2000000) (disch:=omega) only [go_sem,Nat.reduceAdd,Nat.reduceSub,Nat.reduceMul,Nat.reduceBEq,Nat.reduceEqDiff,Nat.reduceLT,Nat.reduceLeDiff,Nat.reduceDiv,reduceIte,reduceCtorEq, d1, d2]
  have f := of_decide_eq_true d1
  have e : gameP l cap fuel = 1 := by unfold gameP; rw [if_neg e0, if_pos (by omega)]
  rw [e]
  simp (maxSteps:=2000000) (disch:=omega) only [go_sem,Nat.reduceAdd,Nat.reduceSub,Nat.reduceMul,Nat.reduceBEq,Nat.reduceEqDiff,Nat.reduceLT,Nat.reduceLeDiff,Nat.reduceDiv,reduceIte,reduceCtorEq, d1]
theorem ris_h (s : Sta) : Holds Tryz.prog 68 [.agg ((sd s).map D.toC)] [] (fun r h' => r = V.bool (isP s) ∧ h' = []) := by
  refine holds_of_awp Tryz.func68 rfl (by decide +kernel) mixed Tryz.ntmps68 Tryz.results68 ?_
  refine zE ?_
  unfold isP
  cases d1 : decide (0 ≤ s.frame)
  · simp (maxSteps:=2000000) (disch:=omega) only [go_sem,Nat.reduceAdd,Nat.reduceSub,Nat.reduceMul,Nat.reduceBEq,Nat.reduceEqDiff,Nat.reduceLT,Nat.reduceLeDiff,Nat.reduceDiv,reduceIte,reduceCtorEq, d1]
    simp
  cases d2 : decide (s.frame ≤ 600)
  · simp (maxSteps:=2000000) (disch:=omega) only [go_sem,Nat.reduceAdd,Nat.reduceSub,Nat.reduceMul,Nat.reduceBEq,Nat.reduceEqDiff,Nat.reduceLT,Nat.reduceLeDiff,Nat.reduceDiv,reduceIte,reduceCtorEq, d1, d2]
    simp
  cases d3 : decide (0 ≤ s.win)
  · simp (maxSteps:=2000000) (disch:=omega) only [go_sem,Nat.reduceAdd,Nat.reduceSub,Nat.reduceMul,Nat.reduceBEq,Nat.reduceEqDiff,Nat.reduceLT,Nat.reduceLeDiff,Nat.reduceDiv,reduceIte,reduceCtorEq, d1, d2, d3]
    simp
  cases d4 : decide (s.win ≤ 2)
  · simp (maxSteps:=2000000) (disch:=omega) only [go_sem,Nat.reduceAdd,Nat.reduceSub,Nat.reduceMul,Nat.reduceBEq,Nat.reduceEqDiff,Nat.reduceLT,Nat.reduceLeDiff,Nat.reduceDiv,reduceIte,reduceCtorEq, d1, d2, d3, d4]
    simp
  cases d5 : s.over
  · simp (maxSteps:=2000000) (disch:=omega) only [go_sem,Nat.reduceAdd,Nat.reduceSub,Nat.reduceMul,Nat.reduceBEq,Nat.reduceEqDiff,Nat.reduceLT,Nat.reduceLeDiff,Nat.reduceDiv,reduceIte,reduceCtorEq, d1, d2, d3, d4, d5]
  simp (maxSteps:=2000000) (disch:=omega) only [go_sem,Nat.reduceAdd,Nat.reduceSub,Nat.reduceMul,Nat.reduceBEq,Nat.reduceEqDiff,Nat.reduceLT,Nat.reduceLeDiff,Nat.reduceDiv,reduceIte,reduceCtorEq, d1, d2, d3, d4, d5]
theorem rstart_h (seed : UInt32) : Holds Tryz.prog 57 [.c (.val (.int .u32 (U32 seed)))] [] (fun r h' => r = .w (.agg ((sd (startS seed)).map D.toC)) ∧ h' = []) := by
  refine holds_of_awp Tryz.func57 rfl (by decide +kernel) mixed Tryz.ntmps57 Tryz.results57 ?_
  refine zE ?_
  refine zs ?_;try exact trivial
  have hb := U32_lo seed
  refine c_dec (fun z => ?_) (fun z => ?_)
  · have e : startS seed = stz 0 1 := by unfold startS; rw [show max 1 (U32 seed) = 1 by omega]; rfl
    refine zs ?_;try exact trivial
    rw [e]
    exact leCs_refl _
  have e : startS seed = stz 0 seed := by
    unfold startS
    rw [show max 1 (U32 seed) = U32 seed by omega]
    show stz 0 (UInt32.ofNat ((seed.toNat : Int)).toNat) = _
    rw [Int.toNat_natCast, UInt32.ofNat_toNat]
  refine zs ?_;try exact trivial
  rw [e]
  exact leCs_refl _
end
section
section
variable {s : Sta} {K : C → Prop}
@[go_sem ↓ 1200] theorem sd_c0 : (∃ c, ((sd s).map D.toC)[1]? = some c ∧ K c) = K (.val (.int .i32 (s.cells.getD 0 0))) := ex_some (get_cells (k := 0) (by omega))
@[go_sem ↓ 1200] theorem sd_c1 : (∃ c, ((sd s).map D.toC)[2]? = some c ∧ K c) = K (.val (.int .i32 (s.cells.getD 1 0))) := ex_some (get_cells (k := 1) (by omega))
end
def stepP (code : List (Int × Int)) (cap fuel : Int) (s : Sta) (i0 i1 : UInt16) : Sta × Int :=
  if gameP code cap fuel ≠ 0 then (stz 0 0, gameP code cap fuel)
  else if isP s = false ∨ U32 s.seed = 0 then (stz 0 0, 1)
  else if s.over = true ∨ cap ≤ s.frame then (stz 0 0, 12)
  else (stepM code cap fuel.toNat s i0 i1, 0)
theorem isP_spec {s : Sta} (h : isP s = true) : 0 ≤ s.frame ∧ s.frame ≤ 600 ∧ 0 ≤ s.win ∧ s.win ≤ 2 ∧ (s.over = true ∨ s.win = 0) := by
  unfold isP at h
  simp only [Bool.and_eq_true, decide_eq_true_eq, Bool.or_eq_true] at h
  obtain ⟨⟨⟨⟨h1, h2⟩, h3⟩, h4⟩, h5⟩ := h
  exact ⟨h1, h2, h3, h4, h5⟩
theorem gameP_spec {code : List (Int × Int)} {cap fuel : Int} (h : gameP code cap fuel = 0) : (chkP code).2 = 0 ∧ 1 ≤ cap ∧ cap ≤ 600 ∧ 1 ≤ fuel ∧ fuel ≤ 2000 := by
  unfold gameP at h
  split at h
  · rename_i h1; exact absurd h h1
  rename_i h1
  split at h
  · cases h
  rename_i h2
  exact ⟨by simpa using h1, by omega, by omega, by omega, by omega⟩
theorem runM_B {code : List (Int × Int)} (hc : (chkP code).2 = 0) : ∀ (f : Nat) (m : Mac), okL m → 0 ≤ m.pc → okL (runM code f m).2
  | 0, m, h, _ => by unfold runM; split <;> exact h
  | f + 1, m, h, h0 => by
    unfold runM
    split
    · rename_i hp
      have hmay := chk_all hc (i := m.pc.toNat) (by omega)
      have h1 : okL (incM m) := ⟨h.sk, h.cells, h.fr0, h.fr1⟩
      have h2 := doM_low h1 hmay
      split
      · exact h2
      exact runM_B hc f _ h2 (doM_pc0 (by show 0 ≤ m.pc + 1; omega) hmay)
    exact h
theorem endS_cells (cap : Int) (s : Sta) : (endS cap s).cells = s.cells := by unfold endS; split <;> rfl
theorem step_B32 (code : List (Int × Int)) (cap fuel : Int) (s : Sta) (i0 i1 : UInt16) (h : ∀ x ∈ s.cells, B32 x) : ∀ x ∈ (stepP code cap fuel s i0 i1).1.cells, B32 x := by
  have hz : ∀ x ∈ (stz 0 0).cells, B32 x := fun x hx => by
    have : x = 0 := List.eq_of_mem_replicate hx
    rw [this]; exact B32_0
  unfold stepP
  split
  · exact hz
  rename_i hg
  split
  · exact hz
  rename_i hi
  split
  · exact hz
  have hg' : gameP code cap fuel = 0 := by simpa using hg
  have hi' : isP s = true := by cases hh : isP s <;> simp_all
  obtain ⟨f0, f1, _⟩ := isP_spec hi'
  show ∀ x ∈ (stepM code cap fuel.toNat s i0 i1).cells, B32 x
  unfold stepM
  rw [endS_cells]
  split
  · exact (runM_B (gameP_spec hg').1 _ _ ⟨fun x hx => (by cases hx), h, f0, f1⟩ (by show (0 : Int) ≤ 0; omega)).cells
  exact h
set_option maxRecDepth 20000 in
set_option maxHeartbeats 16000000 in
theorem step_h (code : List (Int × Int)) (cap fuel : Int) (s : Sta) (i0 i1 : UInt16) (hcl : code.length ≤ 9223372036854775807) (hB : ∀ x ∈ s.cells, B32 x) :
    Holds Tryz.prog 66 [.game code cap fuel, .agg ((sd s).map D.toC), .agg [.val (.int .u16 (U16 i0)), .val (.int .u16 (U16 i1))]] [] (fun r h' => r = .tup [.agg ((sd (stepP code cap fuel s i0 i1).1).map D.toC), .int .i64 (stepP code cap fuel s i0 i1).2] ∧ h' = []) := by
  have hgc := gcheck_h code cap fuel hcl
  have his := isState_h s
  refine holds_of_awp Tryz.func66 rfl (by decide +kernel) mixed Tryz.ntmps66 Tryz.results66 ?_
  refine zE ?_
  refine zs ?_;try exact trivial
  refine a_call [] (hgc) ok0 ?_ ?_ ?_
  · refine zs ?_;try exact trivial
  · refine zs ?_;try exact trivial
  rintro _ _ ⟨rfl, rfl⟩
  by_cases hg : gameP code cap fuel = 0
  · obtain ⟨g1, g2, g3, g4, g5⟩ := gameP_spec hg
    have hlen := game_len hg
    rw [hg]
    refine zc ?_;try exact trivial
    refine a_call [] (his) ok0 ?_ ?_ ?_
    · refine zs ?_;try exact trivial
    · refine zs ?_;try exact trivial
    rintro _ _ ⟨rfl, rfl⟩
    cases hi : isP s
    · have e : stepP code cap fuel s i0 i1 = (stz 0 0, 1) := by unfold stepP; rw [if_neg (by rw [hg]; simp), if_pos (.inl hi)]
      rw [e]
      refine zc ?_;try exact trivial
      all_goals exact leCs_refl _
    obtain ⟨s1, s2, s3, s4, s5⟩ := isP_spec hi
    refine zc ?_;try exact trivial
    cases hz : decide (U32 s.seed = 0)
    · have hz' := of_decide_eq_false hz
      simp (maxSteps:=2000000) (disch:=omega) only [go_sem,Nat.reduceAdd,Nat.reduceSub,Nat.reduceMul,Nat.reduceBEq,Nat.reduceEqDiff,Nat.reduceLT,Nat.reduceLeDiff,Nat.reduceDiv,reduceIte,reduceCtorEq, hz]
      cases ho : s.over
      · simp (maxSteps:=2000000) (disch:=omega) only [go_sem,Nat.reduceAdd,Nat.reduceSub,Nat.reduceMul,Nat.reduceBEq,Nat.reduceEqDiff,Nat.reduceLT,Nat.reduceLeDiff,Nat.reduceDiv,reduceIte,reduceCtorEq, ho]
        cases hf : decide (cap ≤ s.frame)
        · have hf' := of_decide_eq_false hf
          have hw : s.win = 0 := by rcases s5 with h | h; rw [ho] at h; cases h; exact h
          have e : stepP code cap fuel s i0 i1 = (stepM code cap fuel.toNat s i0 i1, 0) := by unfold stepP; rw [if_neg (by rw [hg]; simp), if_neg (by rintro (h | h); rw [hi] at h; cases h; exact hz' h), if_neg (by rintro (h | h); rw [ho] at h; cases h; exact hf' h)]
          rw [e]
          have hrun := run_h10 code cap fuel.toNat (mac0 s i0 i1) g1 (by omega) ⟨by show (0 : Int) ≤ 0; omega, by show (0 : Int) ≤ _; omega, by show 0 ≤ 32; omega, fun x hx => (by cases hx), hB, s1, s2⟩ rfl (by omega)
          rw [show ((fuel.toNat : Nat) : Int) = fuel by omega] at hrun
          have hlow := runM_B g1 fuel.toNat (mac0 s i0 i1) ⟨fun x hx => (by cases hx), hB, s1, s2⟩ (by show (0 : Int) ≤ 0; omega)
          have eM : stepM code cap fuel.toNat s i0 i1 = endS cap (if (runM code fuel.toNat (mac0 s i0 i1)).1 = 0 then (runM code fuel.toNat (mac0 s i0 i1)).2.st else s) := rfl
          rw [eM]
          clear e eM
          generalize runM code fuel.toNat (mac0 s i0 i1) = x at hrun hlow ⊢
          obtain ⟨E, M⟩ := x
          simp only at hrun hlow ⊢
          have mf0 := hlow.fr0
          have mf1 := hlow.fr1
          simp (maxSteps:=2000000) (disch:=omega) only [go_sem,Nat.reduceAdd,Nat.reduceSub,Nat.reduceMul,Nat.reduceBEq,Nat.reduceEqDiff,Nat.reduceLT,Nat.reduceLeDiff,Nat.reduceDiv,reduceIte,reduceCtorEq, hf]
          refine a_call [.loc [40]] hrun (ok1 rfl) ?_ ?_ ?_
          · refine zs ?_;try exact trivial
          · refine zs ?_;try exact trivial
            exact mc_le ⟨rfl, rfl, rfl, by simp [leC], rfl, rfl, rfl⟩
          rintro _ _ ⟨rfl, rfl⟩
          refine zc ?_;try exact trivial
          clear hrun hgc his hB g1 hlow
          refine c_dec (fun hE => ?_) (fun hE => ?_)
          · rw [if_neg (show ¬ E = 0 from hE)]
            refine zc ?_;try exact trivial
            have hover : (s).over = false ∨ (s).over = true := by cases (s).over <;> simp
            cases hk : decide (cap ≤ (s).frame + 1)
            · have e2 : endS cap (s) = (s).wFrame ((s).frame + 1) := by unfold endS; rw [if_neg (fun h => (of_decide_eq_false hk) h.1)]
              rw [e2]
              simp (maxSteps:=2000000) (disch:=omega) only [go_sem,Nat.reduceAdd,Nat.reduceSub,Nat.reduceMul,Nat.reduceBEq,Nat.reduceEqDiff,Nat.reduceLT,Nat.reduceLeDiff,Nat.reduceDiv,reduceIte,reduceCtorEq, hk]
              all_goals exact leCs_refl _
            cases hq : (!(s).over)
            · have e2 : endS cap (s) = (s).wFrame ((s).frame + 1) := by unfold endS; rw [if_neg (fun h => by rw [h.2] at hq; cases hq)]
              rw [e2]
              simp (maxSteps:=2000000) (disch:=omega) only [go_sem,Nat.reduceAdd,Nat.reduceSub,Nat.reduceMul,Nat.reduceBEq,Nat.reduceEqDiff,Nat.reduceLT,Nat.reduceLeDiff,Nat.reduceDiv,reduceIte,reduceCtorEq, hk, hq]
              all_goals exact leCs_refl _
            have hq' : (s).over = false := by cases hh : (s).over <;> simp_all
            have e2 : endS cap (s) = (((s).wFrame ((s).frame + 1)).wOver true).wWin (winS (s)) := by unfold endS; rw [if_pos ⟨of_decide_eq_true hk, hq'⟩]
            rw [e2]
            simp (maxSteps:=2000000) (disch:=omega) only [go_sem,Nat.reduceAdd,Nat.reduceSub,Nat.reduceMul,Nat.reduceBEq,Nat.reduceEqDiff,Nat.reduceLT,Nat.reduceLeDiff,Nat.reduceDiv,reduceIte,reduceCtorEq, hk, hq]
            refine c_dec (fun w1 => ?_) (fun w1 => ?_)
            · have e3 : winS (s) = 0 := by unfold winS; rw [if_pos w1]
              rw [e3]
              refine zc ?_;try exact trivial
              all_goals exact leCs_refl _
            refine zc ?_;try exact trivial
            refine c_dec (fun w2 => ?_) (fun w2 => ?_)
            · have e3 : winS (s) = 1 := by unfold winS; rw [if_neg w1, if_pos w2]
              rw [e3]
              refine zc ?_;try exact trivial
              all_goals exact leCs_refl _
            have e3 : winS (s) = 2 := by unfold winS; rw [if_neg w1, if_neg w2]
            rw [e3]
            refine zc ?_;try exact trivial
            all_goals exact leCs_refl _
          rw [if_pos (show E = 0 by omega)]
          refine zc ?_;try exact trivial
          have hover : (M.st).over = false ∨ (M.st).over = true := by cases (M.st).over <;> simp
          cases hk : decide (cap ≤ (M.st).frame + 1)
          · have e2 : endS cap (M.st) = (M.st).wFrame ((M.st).frame + 1) := by unfold endS; rw [if_neg (fun h => (of_decide_eq_false hk) h.1)]
            rw [e2]
            simp (maxSteps:=2000000) (disch:=omega) only [go_sem,Nat.reduceAdd,Nat.reduceSub,Nat.reduceMul,Nat.reduceBEq,Nat.reduceEqDiff,Nat.reduceLT,Nat.reduceLeDiff,Nat.reduceDiv,reduceIte,reduceCtorEq, hk]
            all_goals exact leCs_refl _
          cases hq : (!(M.st).over)
          · have e2 : endS cap (M.st) = (M.st).wFrame ((M.st).frame + 1) := by unfold endS; rw [if_neg (fun h => by rw [h.2] at hq; cases hq)]
            rw [e2]
            simp (maxSteps:=2000000) (disch:=omega) only [go_sem,Nat.reduceAdd,Nat.reduceSub,Nat.reduceMul,Nat.reduceBEq,Nat.reduceEqDiff,Nat.reduceLT,Nat.reduceLeDiff,Nat.reduceDiv,reduceIte,reduceCtorEq, hk, hq]
            all_goals exact leCs_refl _
          have hq' : (M.st).over = false := by cases hh : (M.st).over <;> simp_all
          have e2 : endS cap (M.st) = (((M.st).wFrame ((M.st).frame + 1)).wOver true).wWin (winS (M.st)) := by unfold endS; rw [if_pos ⟨of_decide_eq_true hk, hq'⟩]
          rw [e2]
          simp (maxSteps:=2000000) (disch:=omega) only [go_sem,Nat.reduceAdd,Nat.reduceSub,Nat.reduceMul,Nat.reduceBEq,Nat.reduceEqDiff,Nat.reduceLT,Nat.reduceLeDiff,Nat.reduceDiv,reduceIte,reduceCtorEq, hk, hq]
          refine c_dec (fun w1 => ?_) (fun w1 => ?_)
          · have e3 : winS (M.st) = 0 := by unfold winS; rw [if_pos w1]
            rw [e3]
            refine zc ?_;try exact trivial
            all_goals exact leCs_refl _
          refine zc ?_;try exact trivial
          refine c_dec (fun w2 => ?_) (fun w2 => ?_)
          · have e3 : winS (M.st) = 1 := by unfold winS; rw [if_neg w1, if_pos w2]
            rw [e3]
            refine zc ?_;try exact trivial
            all_goals exact leCs_refl _
          have e3 : winS (M.st) = 2 := by unfold winS; rw [if_neg w1, if_neg w2]
          rw [e3]
          refine zc ?_;try exact trivial
          all_goals exact leCs_refl _
        have e : stepP code cap fuel s i0 i1 = (stz 0 0, 12) := by unfold stepP; rw [if_neg (by rw [hg]; simp), if_neg (by rintro (h | h); rw [hi] at h; cases h; exact hz' h), if_pos (.inr (of_decide_eq_true hf))]
        rw [e]
        simp (maxSteps:=2000000) (disch:=omega) only [go_sem,Nat.reduceAdd,Nat.reduceSub,Nat.reduceMul,Nat.reduceBEq,Nat.reduceEqDiff,Nat.reduceLT,Nat.reduceLeDiff,Nat.reduceDiv,reduceIte,reduceCtorEq, hf]
        all_goals exact leCs_refl _
      have e : stepP code cap fuel s i0 i1 = (stz 0 0, 12) := by unfold stepP; rw [if_neg (by rw [hg]; simp), if_neg (by rintro (h | h); rw [hi] at h; cases h; exact hz' h), if_pos (.inl ho)]
      rw [e]
      simp (maxSteps:=2000000) (disch:=omega) only [go_sem,Nat.reduceAdd,Nat.reduceSub,Nat.reduceMul,Nat.reduceBEq,Nat.reduceEqDiff,Nat.reduceLT,Nat.reduceLeDiff,Nat.reduceDiv,reduceIte,reduceCtorEq, ho]
      all_goals exact leCs_refl _
    have e : stepP code cap fuel s i0 i1 = (stz 0 0, 1) := by unfold stepP; rw [if_neg (by rw [hg]; simp), if_pos (.inr (of_decide_eq_true hz))]
    rw [e]
    simp (maxSteps:=2000000) (disch:=omega) only [go_sem,Nat.reduceAdd,Nat.reduceSub,Nat.reduceMul,Nat.reduceBEq,Nat.reduceEqDiff,Nat.reduceLT,Nat.reduceLeDiff,Nat.reduceDiv,reduceIte,reduceCtorEq, hz]
    all_goals exact leCs_refl _
  have e : stepP code cap fuel s i0 i1 = (stz 0 0, gameP code cap fuel) := by unfold stepP; rw [if_pos hg]
  rw [e]
  have dn : decide (gameP code cap fuel ≠ 0) = true := decide_eq_true hg
  simp (maxSteps:=2000000) (disch:=omega) only [go_sem,Nat.reduceAdd,Nat.reduceSub,Nat.reduceMul,Nat.reduceBEq,Nat.reduceEqDiff,Nat.reduceLT,Nat.reduceLeDiff,Nat.reduceDiv,reduceIte,reduceCtorEq, dn]
  all_goals exact leCs_refl _
end
section
theorem spl_mid {α : Type} : ∀ (p a b q : List α), a.length = b.length → spl (p ++ a ++ q) p.length b = p ++ b ++ q
  | p, [], [], q, _ => rfl
  | p, u :: us, v :: vs, q, h => by
    show spl ((p ++ u :: us ++ q).set p.length v) (p.length + 1) vs = _
    have e1 : (p ++ u :: us ++ q).set p.length v = (p ++ [v]) ++ us ++ q := by simp [List.set_append]
    have e2 := spl_mid (p ++ [v]) us vs q (by simpa using h)
    rw [List.length_append] at e2
    rw [e1]
    refine e2.trans ?_
    simp
  | _, [], _ :: _, _, h => by simp at h
  | _, _ :: _, [], _, h => by simp at h
@[reducible] def Sta.wAll (s t : Sta) : Sta := ⟨s.frame, t.cells, s.seed, s.over, s.win, t.len⟩
@[go_sem] theorem sta_len {s : Sta} : s.cells.length = 16 := nr s.len
@[go_sem 1300] theorem rm_sall {s t : Sta} {i0 i1 : UInt16} {sk : C} {a w : Int} {b : Bool} : spl (rmC s i0 i1 sk a w b) 1 ((c32 t.cells).map D.toC) = rmC (s.wAll t) i0 i1 sk a w b := by
  have h1 : ((c32 t.cells).map D.toC).length = 16 := by simp [c32, t.len]
  have h2 : ((c32 s.cells).map D.toC).length = 16 := by simp [c32, s.len]
  have e : ∀ u : Sta, rmC u i0 i1 sk a w b = [.val (.int .i64 u.frame)] ++ (c32 u.cells).map D.toC ++ ([.val (.int .u32 (U32 u.seed)), .val (.bool u.over), .val (.int .i64 u.win)] ++ [.val (.int .u16 (U16 i0)), .val (.int .u16 (U16 i1)), sk, .val (.int .i64 a), .val (.int .i64 w), .val (.bool b)]) := fun u => by
    unfold rmC sd
    simp [D.toC]
  rw [e, e]
  exact spl_mid [.val (.int .i64 s.frame)] _ _ _ (h2.trans h1.symm)
@[go_sem ↓ 1300] theorem rm_c0 {s : Sta} {i0 i1 : UInt16} {sk : C} {a w : Int} {b : Bool} {K : C → Prop} : (∃ c, (rmC s i0 i1 sk a w b)[1]? = some c ∧ K c) = K (.val (.int .i32 (s.cells.getD 0 0))) := ex_some (rm_gcell (k := 0) (by omega))
@[go_sem ↓ 1300] theorem rm_c1 {s : Sta} {i0 i1 : UInt16} {sk : C} {a w : Int} {b : Bool} {K : C → Prop} : (∃ c, (rmC s i0 i1 sk a w b)[2]? = some c ∧ K c) = K (.val (.int .i32 (s.cells.getD 1 0))) := ex_some (rm_gcell (k := 1) (by omega))
@[go_sem 1300] theorem rm_lit {sk : C} {s : Sta} : spl [.val (.int .i64 0), .val (.int .i32 0), .val (.int .i32 0), .val (.int .i32 0), .val (.int .i32 0), .val (.int .i32 0), .val (.int .i32 0), .val (.int .i32 0), .val (.int .i32 0), .val (.int .i32 0), .val (.int .i32 0), .val (.int .i32 0), .val (.int .i32 0), .val (.int .i32 0), .val (.int .i32 0), .val (.int .i32 0), .val (.int .i32 0), .val (.int .u32 0), .val (.bool false), .val (.int .i64 0), .val (.int .u16 0), .val (.int .u16 0), sk, .val (.int .i64 0), .val (.int .i64 0), .val (.bool false)] 0 ((sd s).map D.toC) = rmC s 0 0 sk 0 0 false := by
  show spl (rmC (stz 0 0) 0 0 sk 0 0 false) 0 ((sd s).map D.toC) = _
  exact rm_ss
set_option maxRecDepth 20000 in
set_option maxHeartbeats 16000000 in
theorem rstep_h (code : List (Int × Int)) (cap fuel : Int) (s : Sta) (i0 i1 : UInt16) (hcl : code.length ≤ 9223372036854775807) (hB : ∀ x ∈ s.cells, B32 x) :
    Holds Tryz.prog 58 [.game code cap fuel, .agg ((sd s).map D.toC), .agg [.val (.int .u16 (U16 i0)), .val (.int .u16 (U16 i1))]] [] (fun r h' => r = .tup [.agg ((sd (stepP code cap fuel s i0 i1).1).map D.toC), .int .i64 (stepP code cap fuel s i0 i1).2] ∧ h' = []) := by
  have hgc := rcheck10_h code cap fuel hcl
  have his := ris_h s
  refine holds_of_awp Tryz.func58 rfl (by decide +kernel) mixed Tryz.ntmps58 Tryz.results58 ?_
  refine zE ?_
  refine zs ?_;try exact trivial
  refine a_call [] (hgc) ok0 ?_ ?_ ?_
  · refine zs ?_;try exact trivial
  · refine zs ?_;try exact trivial
  rintro _ _ ⟨rfl, rfl⟩
  by_cases hg : gameP code cap fuel = 0
  · obtain ⟨g1, g2, g3, g4, g5⟩ := gameP_spec hg
    have hlen := game_len hg
    rw [hg]
    refine zc ?_;try exact trivial
    refine a_call [] (his) ok0 ?_ ?_ ?_
    · refine zs ?_;try exact trivial
    · refine zs ?_;try exact trivial
    rintro _ _ ⟨rfl, rfl⟩
    cases hi : isP s
    · have e : stepP code cap fuel s i0 i1 = (stz 0 0, 1) := by unfold stepP; rw [if_neg (by rw [hg]; simp), if_pos (.inl hi)]
      rw [e]
      refine zc ?_;try exact trivial
      all_goals exact leCs_refl _
    obtain ⟨s1, s2, s3, s4, s5⟩ := isP_spec hi
    refine zc ?_;try exact trivial
    cases hz : decide (U32 s.seed = 0)
    · have hz' := of_decide_eq_false hz
      simp (maxSteps:=2000000) (disch:=omega) only [go_sem,Nat.reduceAdd,Nat.reduceSub,Nat.reduceMul,Nat.reduceBEq,Nat.reduceEqDiff,Nat.reduceLT,Nat.reduceLeDiff,Nat.reduceDiv,reduceIte,reduceCtorEq, hz]
      cases ho : s.over
      · simp (maxSteps:=2000000) (disch:=omega) only [go_sem,Nat.reduceAdd,Nat.reduceSub,Nat.reduceMul,Nat.reduceBEq,Nat.reduceEqDiff,Nat.reduceLT,Nat.reduceLeDiff,Nat.reduceDiv,reduceIte,reduceCtorEq, ho]
        cases hf : decide (cap ≤ s.frame)
        · have hf' := of_decide_eq_false hf
          have hw : s.win = 0 := by rcases s5 with h | h; rw [ho] at h; cases h; exact h
          have e : stepP code cap fuel s i0 i1 = (stepM code cap fuel.toNat s i0 i1, 0) := by unfold stepP; rw [if_neg (by rw [hg]; simp), if_neg (by rintro (h | h); rw [hi] at h; cases h; exact hz' h), if_neg (by rintro (h | h); rw [ho] at h; cases h; exact hf' h)]
          rw [e, ← step_eq g1 ho hw (by omega)]
          clear e
          unfold rstepM
          obtain ⟨R, hR⟩ : ∃ R, rrunM code fuel.toNat (rac0 s i0 i1) = R := ⟨_, rfl⟩
          rw [hR]
          simp (maxSteps:=2000000) (disch:=omega) only [go_sem,Nat.reduceAdd,Nat.reduceSub,Nat.reduceMul,Nat.reduceBEq,Nat.reduceEqDiff,Nat.reduceLT,Nat.reduceLeDiff,Nat.reduceDiv,reduceIte,reduceCtorEq, hf]
          refine a_loopk (fun x : Nat × Rac => ⟨[U, U, U, V.cell (.ptr (.loc [3]) 0), V.cell (.ptr (.loc [4]) 0), .undef, V.cell (.ptr (.loc [6]) 0), V.int .i64 0, .undef, V.cell (.ptr (.loc [39]) 0), V.int .i64 (x.1 : Int), U, U, U, U, U, U, U, U, U, U, U, U, U, U, U, U, U, U, U, U, U, U, U, U, U, U, U, U, U, U, U, U, U, U, U, U, U, U, U, U, U, U, U, U, U, U, U, U, U, U, U, U, U, U, U, U, U, U, U, U, U, U, U, U, U, U, U, U, U, U, U, U, U, U, U, U, U, U, U, U, U, U, U, U, U, U, U, U, U, U, U, U, U, U, U, U, U, U, U, U, U, U, U, U, U, U, U, U, U, U, U, U, U, U, U, U, U, U, U, U, U, U, U, U, U, U, U, U, U, U, U, U, U, U, U, U, U, U, U, U, U, U, U, U, U, U, U, U, U, U, U, U, U, U, U, U, U, U, U, U, .undef], [(.loc [39], rB (.loc [39]) x.2), (.loc [6], (sd (stz 0 0)).map D.toC), (.loc [4], (sd s).map D.toC), (.loc [3], [.lst .no none 2 (ins code), .val (.int .i64 cap), .val (.int .i64 fuel)])]⟩) (fun x => x.1 ≤ 2000 ∧ okR code.length x.2 ∧ x.2.bad = false ∧ rrunM code x.1 x.2 = R) (fun x => x.1) (fuel.toNat, rac0 s i0 i1) ⟨by omega, ⟨by show (0 : Int) ≤ 0; omega, by show (0 : Int) ≤ _; omega, by show 0 ≤ 32; omega, fun x hx => (by cases hx), hB, s1, s2⟩, rfl, hR⟩ ?_ ?_
          · have ef : ((fuel.toNat : Nat) : Int) = fuel := by omega
            simp only [ef]
            refine zs ?_;try exact trivial
            exact rm_le ⟨rfl, rfl, rfl, by simp [leC, c32], rfl, rfl, rfl⟩
          rintro ⟨f, r⟩ ⟨h1, h2, h3, h4⟩
          simp only at h1 h2 h3 h4 ⊢
          have p0 := h2.pc0
          have p1 := h2.pc1
          have q0 := h2.fr0
          have q1 := h2.fr1
          clear hgc his
          refine zs ?_;try exact trivial
          refine a_quiet (by kernel_rfl) (by kernel_rfl) (by kernel_rfl) ?_
          cases d1 : decide (r.pc < (code.length : Int))
          · have hst : R = r := by
              rw [← h4]
              cases f with
              | zero => exact if_neg (of_decide_eq_false d1)
              | succ f => exact if_neg (of_decide_eq_false d1)
            have hU : undoR s r = r := by unfold undoR; rw [if_neg (by rw [h3]; simp)]
            rw [hst, hU]
            simp (maxSteps:=2000000) (disch:=omega) only [go_sem,Nat.reduceAdd,Nat.reduceSub,Nat.reduceMul,Nat.reduceBEq,Nat.reduceEqDiff,Nat.reduceLT,Nat.reduceLeDiff,Nat.reduceDiv,reduceIte,reduceCtorEq, d1]
            simp (maxSteps:=2000000) (disch:=omega) only [go_sem,Nat.reduceAdd,Nat.reduceSub,Nat.reduceMul,Nat.reduceBEq,Nat.reduceEqDiff,Nat.reduceLT,Nat.reduceLeDiff,Nat.reduceDiv,reduceIte,reduceCtorEq, h3]
            -- REST r | r.st | r.won | 0
            refine zc ?_;try exact trivial
            cases dw : decide ((0 : Int) ≤ r.won)
            · simp (maxSteps:=2000000) (disch:=omega) only [go_sem,Nat.reduceAdd,Nat.reduceSub,Nat.reduceMul,Nat.reduceBEq,Nat.reduceEqDiff,Nat.reduceLT,Nat.reduceLeDiff,Nat.reduceDiv,reduceIte,reduceCtorEq, dw]
              refine a_quiet (by kernel_rfl) (by kernel_rfl) (by kernel_rfl) ?_
              cases dc : decide (r.st.frame + 1 = cap)
              · simp (maxSteps:=2000000) (disch:=omega) only [go_sem,Nat.reduceAdd,Nat.reduceSub,Nat.reduceMul,Nat.reduceBEq,Nat.reduceEqDiff,Nat.reduceLT,Nat.reduceLeDiff,Nat.reduceDiv,reduceIte,reduceCtorEq, dc]
                have e : refE cap r = (r.st.wFrame (r.st.frame + 1)) := by unfold refE; rw [if_neg (of_decide_eq_false dw), if_neg (of_decide_eq_false dc)]
                rw [e]
                try (refine zc ?_; try exact trivial)
                all_goals exact leCs_refl _
              simp (maxSteps:=2000000) (disch:=omega) only [go_sem,Nat.reduceAdd,Nat.reduceSub,Nat.reduceMul,Nat.reduceBEq,Nat.reduceEqDiff,Nat.reduceLT,Nat.reduceLeDiff,Nat.reduceDiv,reduceIte,reduceCtorEq, dc]
              refine a_quiet (by kernel_rfl) (by kernel_rfl) (by kernel_rfl) ?_
              refine zs ?_;try exact trivial
              cases de : decide (r.st.cells.getD 0 0 = r.st.cells.getD 1 0)
              · simp (maxSteps:=2000000) (disch:=omega) only [go_sem,Nat.reduceAdd,Nat.reduceSub,Nat.reduceMul,Nat.reduceBEq,Nat.reduceEqDiff,Nat.reduceLT,Nat.reduceLeDiff,Nat.reduceDiv,reduceIte,reduceCtorEq, de]
                refine a_quiet (by kernel_rfl) (by kernel_rfl) (by kernel_rfl) ?_
                refine zs ?_;try exact trivial
                cases dl : decide (r.st.cells.getD 0 0 < r.st.cells.getD 1 0)
                · simp (maxSteps:=2000000) (disch:=omega) only [go_sem,Nat.reduceAdd,Nat.reduceSub,Nat.reduceMul,Nat.reduceBEq,Nat.reduceEqDiff,Nat.reduceLT,Nat.reduceLeDiff,Nat.reduceDiv,reduceIte,reduceCtorEq, dl]
                  have e : refE cap r = (r.st.wFrame (r.st.frame + 1)).wOver true := by unfold refE; rw [if_neg (of_decide_eq_false dw), if_pos (of_decide_eq_true dc), if_neg (show ¬ r.st.cells.getD 0 0 = r.st.cells.getD 1 0 from of_decide_eq_false de), if_neg (show ¬ r.st.cells.getD 0 0 < r.st.cells.getD 1 0 from of_decide_eq_false dl)]
                  rw [e]
                  try (refine zc ?_; try exact trivial)
                  all_goals exact leCs_refl _
                simp (maxSteps:=2000000) (disch:=omega) only [go_sem,Nat.reduceAdd,Nat.reduceSub,Nat.reduceMul,Nat.reduceBEq,Nat.reduceEqDiff,Nat.reduceLT,Nat.reduceLeDiff,Nat.reduceDiv,reduceIte,reduceCtorEq, dl]
                have e : refE cap r = ((r.st.wFrame (r.st.frame + 1)).wOver true).wWin 1 := by unfold refE; rw [if_neg (of_decide_eq_false dw), if_pos (of_decide_eq_true dc), if_neg (show ¬ r.st.cells.getD 0 0 = r.st.cells.getD 1 0 from of_decide_eq_false de), if_pos (show r.st.cells.getD 0 0 < r.st.cells.getD 1 0 from of_decide_eq_true dl)]
                rw [e]
                try (refine zc ?_; try exact trivial)
                all_goals exact leCs_refl _
              simp (maxSteps:=2000000) (disch:=omega) only [go_sem,Nat.reduceAdd,Nat.reduceSub,Nat.reduceMul,Nat.reduceBEq,Nat.reduceEqDiff,Nat.reduceLT,Nat.reduceLeDiff,Nat.reduceDiv,reduceIte,reduceCtorEq, de]
              have e : refE cap r = ((r.st.wFrame (r.st.frame + 1)).wOver true).wWin 2 := by unfold refE; rw [if_neg (of_decide_eq_false dw), if_pos (of_decide_eq_true dc), if_pos (show r.st.cells.getD 0 0 = r.st.cells.getD 1 0 from of_decide_eq_true de)]
              rw [e]
              try (refine zc ?_; try exact trivial)
              all_goals exact leCs_refl _
            · simp (maxSteps:=2000000) (disch:=omega) only [go_sem,Nat.reduceAdd,Nat.reduceSub,Nat.reduceMul,Nat.reduceBEq,Nat.reduceEqDiff,Nat.reduceLT,Nat.reduceLeDiff,Nat.reduceDiv,reduceIte,reduceCtorEq, dw]
              have e : refE cap r = ((r.st.wFrame (r.st.frame + 1)).wOver true).wWin r.won := by unfold refE; rw [if_pos (of_decide_eq_true dw)]
              rw [e]
              try (refine zc ?_; try exact trivial)
              all_goals exact leCs_refl _
            -- END
          simp (maxSteps:=2000000) (disch:=omega) only [go_sem,Nat.reduceAdd,Nat.reduceSub,Nat.reduceMul,Nat.reduceBEq,Nat.reduceEqDiff,Nat.reduceLT,Nat.reduceLeDiff,Nat.reduceDiv,reduceIte,reduceCtorEq, d1]
          refine c_dec (fun g => ?_) (fun g => ?_)
          · refine zs ?_;try exact trivial
            have q3 := h2.fr0
            refine a_drawC (⟨[U, U, U, V.cell (.ptr (.loc [3]) 0), V.cell (.ptr (.loc [4]) 0), .undef, V.cell (.ptr (.loc [6]) 0), V.int .i64 0, .undef, V.cell (.ptr (.loc [39]) 0), U, U, U, U, U, U, U, U, U, U, U, U, U, U, U, U, U, U, U, U, U, U, U, U, U, U, U, U, U, U, U, U, U, U, U, U, U, U, U, U, U, U, U, U, U, U, U, U, U, U, U, U, U, U, U, U, U, U, U, U, U, U, U, U, U, U, U, U, U, U, U, U, U, U, U, U, U, U, U, U, U, U, U, U, U, U, U, U, U, U, U, U, U, U, U, U, U, U, U, U, U, U, U, U, U, U, U, U, U, U, U, U, U, U, U, U, U, U, U, U, U, U, U, U, U, U, U, U, U, U, U, U, U, U, U, U, U, U, U, U, U, U, U, U, U, U, U, U, U, U, U, U, U, U, U, U, U, U, U, U, U, .undef], [(.loc [39], rB (.loc [39]) (undoR s (badR r))), (.loc [6], (sd (stz 0 0)).map D.toC), (.loc [4], (sd s).map D.toC), (.loc [3], [.lst .no none 2 (ins code), .val (.int .i64 cap), .val (.int .i64 fuel)])]⟩) (.take 0 (.take 1 (.take 2 (.take 3 (.take 5 (.both [(4, .take 7 (.take 8 (.take 9 (.both [(6, .both [(10, .take 11 (.take 12 (.take 13 (.both [(14, .take 15 (.take 16 (.both [(17, .done)])))]))))]), (10, .both [(6, .take 11 (.take 12 (.take 13 (.both [(14, .take 15 (.take 16 (.both [(17, .done)])))]))))])])))), (6, .both [(4, .take 7 (.take 8 (.take 9 (.both [(10, .take 11 (.take 12 (.take 13 (.both [(14, .take 15 (.take 16 (.both [(17, .done)])))]))))]))))])])))))) (by kernel_rfl) (by kernel_rfl) ?_ ?_
            · refine zc ?_;try exact trivial
              exact rm_le ⟨rfl, rfl, rfl, leC_refl _, rfl, rfl, rfl⟩
            have hU : undoR s (badR r) = ⟨(r.st.wAll s).wSeed s.seed, r.i0, r.i1, r.sk, r.pc, -1, true⟩ := rfl
            rw [show R = badR r by rw [← h4, show f = 0 by omega]; exact if_pos (of_decide_eq_true d1), hU]
            have k0 : 0 ≤ ((r.st.wAll s).wSeed s.seed).frame := q0
            have k1 : ((r.st.wAll s).wSeed s.seed).frame ≤ 600 := q1
            generalize (r.st.wAll s).wSeed s.seed = st at k0 k1 ⊢
            -- REST ⟨st, r.i0, r.i1, r.sk, r.pc, -1, true⟩ | st | (-1) | 1
            refine zc ?_;try exact trivial
            refine a_quiet (by kernel_rfl) (by kernel_rfl) (by kernel_rfl) ?_
            cases dc : decide (st.frame + 1 = cap)
            · simp (maxSteps:=2000000) (disch:=omega) only [go_sem,Nat.reduceAdd,Nat.reduceSub,Nat.reduceMul,Nat.reduceBEq,Nat.reduceEqDiff,Nat.reduceLT,Nat.reduceLeDiff,Nat.reduceDiv,reduceIte,reduceCtorEq, dc]
              have e : refE cap ⟨st, r.i0, r.i1, r.sk, r.pc, -1, true⟩ = (st.wFrame (st.frame + 1)) := by unfold refE; rw [if_neg (show ¬ (0 : Int) ≤ -1 by omega), if_neg (of_decide_eq_false dc)]
              rw [e]
              try (refine zc ?_; try exact trivial)
              all_goals exact leCs_refl _
            · simp (maxSteps:=2000000) (disch:=omega) only [go_sem,Nat.reduceAdd,Nat.reduceSub,Nat.reduceMul,Nat.reduceBEq,Nat.reduceEqDiff,Nat.reduceLT,Nat.reduceLeDiff,Nat.reduceDiv,reduceIte,reduceCtorEq, dc]
              refine a_quiet (by kernel_rfl) (by kernel_rfl) (by kernel_rfl) ?_
              refine zs ?_;try exact trivial
              cases de : decide (st.cells.getD 0 0 = st.cells.getD 1 0)
              · simp (maxSteps:=2000000) (disch:=omega) only [go_sem,Nat.reduceAdd,Nat.reduceSub,Nat.reduceMul,Nat.reduceBEq,Nat.reduceEqDiff,Nat.reduceLT,Nat.reduceLeDiff,Nat.reduceDiv,reduceIte,reduceCtorEq, de]
                refine a_quiet (by kernel_rfl) (by kernel_rfl) (by kernel_rfl) ?_
                refine zs ?_;try exact trivial
                cases dl : decide (st.cells.getD 0 0 < st.cells.getD 1 0)
                · simp (maxSteps:=2000000) (disch:=omega) only [go_sem,Nat.reduceAdd,Nat.reduceSub,Nat.reduceMul,Nat.reduceBEq,Nat.reduceEqDiff,Nat.reduceLT,Nat.reduceLeDiff,Nat.reduceDiv,reduceIte,reduceCtorEq, dl]
                  have e : refE cap ⟨st, r.i0, r.i1, r.sk, r.pc, -1, true⟩ = (st.wFrame (st.frame + 1)).wOver true := by unfold refE; rw [if_neg (show ¬ (0 : Int) ≤ -1 by omega), if_pos (of_decide_eq_true dc), if_neg (show ¬ st.cells.getD 0 0 = st.cells.getD 1 0 from of_decide_eq_false de), if_neg (show ¬ st.cells.getD 0 0 < st.cells.getD 1 0 from of_decide_eq_false dl)]
                  rw [e]
                  try (refine zc ?_; try exact trivial)
                  all_goals exact leCs_refl _
                simp (maxSteps:=2000000) (disch:=omega) only [go_sem,Nat.reduceAdd,Nat.reduceSub,Nat.reduceMul,Nat.reduceBEq,Nat.reduceEqDiff,Nat.reduceLT,Nat.reduceLeDiff,Nat.reduceDiv,reduceIte,reduceCtorEq, dl]
                have e : refE cap ⟨st, r.i0, r.i1, r.sk, r.pc, -1, true⟩ = ((st.wFrame (st.frame + 1)).wOver true).wWin 1 := by unfold refE; rw [if_neg (show ¬ (0 : Int) ≤ -1 by omega), if_pos (of_decide_eq_true dc), if_neg (show ¬ st.cells.getD 0 0 = st.cells.getD 1 0 from of_decide_eq_false de), if_pos (show st.cells.getD 0 0 < st.cells.getD 1 0 from of_decide_eq_true dl)]
                rw [e]
                try (refine zc ?_; try exact trivial)
                all_goals exact leCs_refl _
              simp (maxSteps:=2000000) (disch:=omega) only [go_sem,Nat.reduceAdd,Nat.reduceSub,Nat.reduceMul,Nat.reduceBEq,Nat.reduceEqDiff,Nat.reduceLT,Nat.reduceLeDiff,Nat.reduceDiv,reduceIte,reduceCtorEq, de]
              have e : refE cap ⟨st, r.i0, r.i1, r.sk, r.pc, -1, true⟩ = ((st.wFrame (st.frame + 1)).wOver true).wWin 2 := by unfold refE; rw [if_neg (show ¬ (0 : Int) ≤ -1 by omega), if_pos (of_decide_eq_true dc), if_pos (show st.cells.getD 0 0 = st.cells.getD 1 0 from of_decide_eq_true de)]
              rw [e]
              try (refine zc ?_; try exact trivial)
              all_goals exact leCs_refl _
            -- END
          obtain ⟨f, rfl⟩ : ∃ f', f = f' + 1 := ⟨f - 1, by omega⟩
          have hlt := of_decide_eq_true d1
          have hpc : r.pc.toNat < code.length := by omega
          have hmay := chk_all g1 hpc
          have hd := does_h _ _ code.length r hmay (by have := h2.len; omega) ⟨p0, by omega⟩ h2.sk q0 q1
          have hk := h2.do hlt hmay
          refine zs ?_;try exact trivial
          refine a_drawC (⟨[U, U, U, V.cell (.ptr (.loc [3]) 0), V.cell (.ptr (.loc [4]) 0), .undef, V.cell (.ptr (.loc [6]) 0), V.int .i64 0, .undef, V.cell (.ptr (.loc [39]) 0), V.int .i64 (f : Int), U, U, U, U, U, U, U, U, U, U, U, U, U, U, U, U, U, U, U, U, U, U, U, U, U, U, U, U, U, U, U, U, U, U, U, U, U, U, U, U, U, U, U, U, U, U, U, U, U, U, U, U, U, U, U, U, U, U, U, V.bool (!rdoB (gi code r.pc.toNat).1 (gi code r.pc.toNat).2 code.length r), U, U, U, U, U, U, U, U, U, U, U, U, U, U, U, U, U, U, U, U, U, U, U, U, U, U, U, U, U, U, U, U, U, U, U, U, U, U, U, U, U, U, U, U, U, U, U, U, U, U, U, U, U, U, U, U, U, U, U, U, U, U, U, U, U, U, U, U, U, U, U, U, U, U, U, U, U, U, U, U, U, U, U, U, U, U, U, U, U, U, U, U, U, U, U, U, U, U, U, U, .undef], [(.loc [39], rB (.loc [39]) (rdoM (gi code r.pc.toNat).1 (gi code r.pc.toNat).2 r)), (.loc [6], (sd (stz 0 0)).map D.toC), (.loc [4], (sd s).map D.toC), (.loc [3], [.lst .no none 2 (ins code), .val (.int .i64 cap), .val (.int .i64 fuel)])]⟩) (.take 0 (.take 1 (.take 3 (.take 4 (.take 5 (.take 9 (.both [(2, .both [(6, .take 7 (.both [(8, .both [(10, .take 11 (.both [(12, .take 13 (.done))]))]), (10, .take 11 (.both [(8, .both [(12, .take 13 (.done))])]))])), (10, .take 11 (.both [(6, .take 7 (.both [(8, .both [(12, .take 13 (.done))])]))]))]), (6, .both [(2, .take 7 (.both [(8, .both [(10, .take 11 (.both [(12, .take 13 (.done))]))]), (10, .take 11 (.both [(8, .both [(12, .take 13 (.done))])]))])), (10, .take 11 (.both [(2, .take 7 (.both [(8, .both [(12, .take 13 (.done))])]))]))]), (10, .take 11 (.both [(2, .both [(6, .take 7 (.both [(8, .both [(12, .take 13 (.done))])]))]), (6, .both [(2, .take 7 (.both [(8, .both [(12, .take 13 (.done))])]))])]))]))))))) (by kernel_rfl) (by kernel_rfl) ?_ ?_
          · refine zc ?_;try exact trivial
            repeat' (with_reducible apply And.intro)
            all_goals (
              refine a_call [.loc [39]] (hd) (ok1 rfl) ?_ ?_ ?_
              · refine zs ?_;try exact trivial
              · refine zs ?_;try exact trivial
              rintro _ _ ⟨rfl, rfl⟩
              refine zs ?_;try exact trivial
              all_goals first | exact leCs_refl _ | (congr 1; omega))
          cases hb : rdoB (gi code r.pc.toNat).1 (gi code r.pc.toNat).2 code.length r
          · simp (maxSteps:=2000000) (disch:=omega) only [go_sem,Nat.reduceAdd,Nat.reduceSub,Nat.reduceMul,Nat.reduceBEq,Nat.reduceEqDiff,Nat.reduceLT,Nat.reduceLeDiff,Nat.reduceDiv,reduceIte,reduceCtorEq, hb, Bool.not_false]
            have hR2 : R = rdoM (gi code r.pc.toNat).1 (gi code r.pc.toNat).2 r := by rw [← h4]; unfold rrunM; rw [if_pos hlt, if_neg (by rw [hb]; simp)]
            clear hd
            generalize rdoM (gi code r.pc.toNat).1 (gi code r.pc.toNat).2 r = r2 at hk hR2 ⊢
            have hst : R = r2 := hR2
            have k0 := hk.fr0
            have k1 := hk.fr1
            rw [hst]
            cases dB : r2.bad
            · have hU : undoR s r2 = r2 := by unfold undoR; rw [if_neg (by rw [dB]; simp)]
              rw [hU]
              simp (maxSteps:=2000000) (disch:=omega) only [go_sem,Nat.reduceAdd,Nat.reduceSub,Nat.reduceMul,Nat.reduceBEq,Nat.reduceEqDiff,Nat.reduceLT,Nat.reduceLeDiff,Nat.reduceDiv,reduceIte,reduceCtorEq, dB]
              -- REST r2 | r2.st | r2.won | 0
              refine zc ?_;try exact trivial
              cases dw : decide ((0 : Int) ≤ r2.won)
              · simp (maxSteps:=2000000) (disch:=omega) only [go_sem,Nat.reduceAdd,Nat.reduceSub,Nat.reduceMul,Nat.reduceBEq,Nat.reduceEqDiff,Nat.reduceLT,Nat.reduceLeDiff,Nat.reduceDiv,reduceIte,reduceCtorEq, dw]
                refine a_quiet (by kernel_rfl) (by kernel_rfl) (by kernel_rfl) ?_
                cases dc : decide (r2.st.frame + 1 = cap)
                · simp (maxSteps:=2000000) (disch:=omega) only [go_sem,Nat.reduceAdd,Nat.reduceSub,Nat.reduceMul,Nat.reduceBEq,Nat.reduceEqDiff,Nat.reduceLT,Nat.reduceLeDiff,Nat.reduceDiv,reduceIte,reduceCtorEq, dc]
                  have e : refE cap r2 = (r2.st.wFrame (r2.st.frame + 1)) := by unfold refE; rw [if_neg (of_decide_eq_false dw), if_neg (of_decide_eq_false dc)]
                  rw [e]
                  try (refine zc ?_; try exact trivial)
                  all_goals exact leCs_refl _
                simp (maxSteps:=2000000) (disch:=omega) only [go_sem,Nat.reduceAdd,Nat.reduceSub,Nat.reduceMul,Nat.reduceBEq,Nat.reduceEqDiff,Nat.reduceLT,Nat.reduceLeDiff,Nat.reduceDiv,reduceIte,reduceCtorEq, dc]
                refine a_quiet (by kernel_rfl) (by kernel_rfl) (by kernel_rfl) ?_
                refine zs ?_;try exact trivial
                cases de : decide (r2.st.cells.getD 0 0 = r2.st.cells.getD 1 0)
                · simp (maxSteps:=2000000) (disch:=omega) only [go_sem,Nat.reduceAdd,Nat.reduceSub,Nat.reduceMul,Nat.reduceBEq,Nat.reduceEqDiff,Nat.reduceLT,Nat.reduceLeDiff,Nat.reduceDiv,reduceIte,reduceCtorEq, de]
                  refine a_quiet (by kernel_rfl) (by kernel_rfl) (by kernel_rfl) ?_
                  refine zs ?_;try exact trivial
                  cases dl : decide (r2.st.cells.getD 0 0 < r2.st.cells.getD 1 0)
                  · simp (maxSteps:=2000000) (disch:=omega) only [go_sem,Nat.reduceAdd,Nat.reduceSub,Nat.reduceMul,Nat.reduceBEq,Nat.reduceEqDiff,Nat.reduceLT,Nat.reduceLeDiff,Nat.reduceDiv,reduceIte,reduceCtorEq, dl]
                    have e : refE cap r2 = (r2.st.wFrame (r2.st.frame + 1)).wOver true := by unfold refE; rw [if_neg (of_decide_eq_false dw), if_pos (of_decide_eq_true dc), if_neg (show ¬ r2.st.cells.getD 0 0 = r2.st.cells.getD 1 0 from of_decide_eq_false de), if_neg (show ¬ r2.st.cells.getD 0 0 < r2.st.cells.getD 1 0 from of_decide_eq_false dl)]
                    rw [e]
                    try (refine zc ?_; try exact trivial)
                    all_goals exact leCs_refl _
                  simp (maxSteps:=2000000) (disch:=omega) only [go_sem,Nat.reduceAdd,Nat.reduceSub,Nat.reduceMul,Nat.reduceBEq,Nat.reduceEqDiff,Nat.reduceLT,Nat.reduceLeDiff,Nat.reduceDiv,reduceIte,reduceCtorEq, dl]
                  have e : refE cap r2 = ((r2.st.wFrame (r2.st.frame + 1)).wOver true).wWin 1 := by unfold refE; rw [if_neg (of_decide_eq_false dw), if_pos (of_decide_eq_true dc), if_neg (show ¬ r2.st.cells.getD 0 0 = r2.st.cells.getD 1 0 from of_decide_eq_false de), if_pos (show r2.st.cells.getD 0 0 < r2.st.cells.getD 1 0 from of_decide_eq_true dl)]
                  rw [e]
                  try (refine zc ?_; try exact trivial)
                  all_goals exact leCs_refl _
                simp (maxSteps:=2000000) (disch:=omega) only [go_sem,Nat.reduceAdd,Nat.reduceSub,Nat.reduceMul,Nat.reduceBEq,Nat.reduceEqDiff,Nat.reduceLT,Nat.reduceLeDiff,Nat.reduceDiv,reduceIte,reduceCtorEq, de]
                have e : refE cap r2 = ((r2.st.wFrame (r2.st.frame + 1)).wOver true).wWin 2 := by unfold refE; rw [if_neg (of_decide_eq_false dw), if_pos (of_decide_eq_true dc), if_pos (show r2.st.cells.getD 0 0 = r2.st.cells.getD 1 0 from of_decide_eq_true de)]
                rw [e]
                try (refine zc ?_; try exact trivial)
                all_goals exact leCs_refl _
              · simp (maxSteps:=2000000) (disch:=omega) only [go_sem,Nat.reduceAdd,Nat.reduceSub,Nat.reduceMul,Nat.reduceBEq,Nat.reduceEqDiff,Nat.reduceLT,Nat.reduceLeDiff,Nat.reduceDiv,reduceIte,reduceCtorEq, dw]
                have e : refE cap r2 = ((r2.st.wFrame (r2.st.frame + 1)).wOver true).wWin r2.won := by unfold refE; rw [if_pos (of_decide_eq_true dw)]
                rw [e]
                try (refine zc ?_; try exact trivial)
                all_goals exact leCs_refl _
              -- END
            have hU : undoR s r2 = ⟨(r2.st.wAll s).wSeed s.seed, r2.i0, r2.i1, r2.sk, r2.pc, -1, true⟩ := by unfold undoR; rw [if_pos dB, dB]; rfl
            rw [hU]
            simp (maxSteps:=2000000) (disch:=omega) only [go_sem,Nat.reduceAdd,Nat.reduceSub,Nat.reduceMul,Nat.reduceBEq,Nat.reduceEqDiff,Nat.reduceLT,Nat.reduceLeDiff,Nat.reduceDiv,reduceIte,reduceCtorEq, dB]
            refine a_drawC (⟨[U, U, U, V.cell (.ptr (.loc [3]) 0), V.cell (.ptr (.loc [4]) 0), .undef, V.cell (.ptr (.loc [6]) 0), V.int .i64 0, .undef, V.cell (.ptr (.loc [39]) 0), U, U, U, U, U, U, U, U, U, U, U, U, U, U, U, U, U, U, U, U, U, U, U, U, U, U, U, U, U, U, U, U, U, U, U, U, U, U, U, U, U, U, U, U, U, U, U, U, U, U, U, U, U, U, U, U, U, U, U, U, U, U, U, U, U, U, U, U, U, U, U, U, U, U, U, U, U, U, U, U, U, U, U, U, U, U, U, U, U, U, U, U, U, U, U, U, U, U, U, U, U, U, U, U, U, U, U, U, U, U, U, U, U, U, U, U, U, U, U, U, U, U, U, U, U, U, U, U, U, U, U, U, U, U, U, U, U, U, U, U, U, U, U, U, U, U, U, U, U, U, U, U, U, U, U, U, U, U, U, U, U, .undef], [(.loc [39], rB (.loc [39]) ⟨(r2.st.wAll s).wSeed s.seed, r2.i0, r2.i1, r2.sk, r2.pc, -1, true⟩), (.loc [6], (sd (stz 0 0)).map D.toC), (.loc [4], (sd s).map D.toC), (.loc [3], [.lst .no none 2 (ins code), .val (.int .i64 cap), .val (.int .i64 fuel)])]⟩) (.take 0 (.take 1 (.take 2 (.take 3 (.take 5 (.both [(4, .take 7 (.take 8 (.take 9 (.both [(6, .both [(10, .take 11 (.take 12 (.take 13 (.both [(14, .take 15 (.take 16 (.both [(17, .done)])))]))))]), (10, .both [(6, .take 11 (.take 12 (.take 13 (.both [(14, .take 15 (.take 16 (.both [(17, .done)])))]))))])])))), (6, .both [(4, .take 7 (.take 8 (.take 9 (.both [(10, .take 11 (.take 12 (.take 13 (.both [(14, .take 15 (.take 16 (.both [(17, .done)])))]))))]))))])])))))) (by kernel_rfl) (by kernel_rfl) ?_ ?_
            · refine zc ?_;try exact trivial
              all_goals exact rm_le ⟨rfl, rfl, rfl, leC_refl _, rfl, rfl, by first | rfl | exact dB.symm⟩
            have k0 : 0 ≤ ((r2.st.wAll s).wSeed s.seed).frame := k0
            have k1 : ((r2.st.wAll s).wSeed s.seed).frame ≤ 600 := k1
            generalize (r2.st.wAll s).wSeed s.seed = st at k0 k1 ⊢
            -- REST ⟨st, r2.i0, r2.i1, r2.sk, r2.pc, -1, true⟩ | st | (-1) | 1
            refine zc ?_;try exact trivial
            refine a_quiet (by kernel_rfl) (by kernel_rfl) (by kernel_rfl) ?_
            cases dc : decide (st.frame + 1 = cap)
            · simp (maxSteps:=2000000) (disch:=omega) only [go_sem,Nat.reduceAdd,Nat.reduceSub,Nat.reduceMul,Nat.reduceBEq,Nat.reduceEqDiff,Nat.reduceLT,Nat.reduceLeDiff,Nat.reduceDiv,reduceIte,reduceCtorEq, dc]
              have e : refE cap ⟨st, r2.i0, r2.i1, r2.sk, r2.pc, -1, true⟩ = (st.wFrame (st.frame + 1)) := by unfold refE; rw [if_neg (show ¬ (0 : Int) ≤ -1 by omega), if_neg (of_decide_eq_false dc)]
              rw [e]
              try (refine zc ?_; try exact trivial)
              all_goals exact leCs_refl _
            · simp (maxSteps:=2000000) (disch:=omega) only [go_sem,Nat.reduceAdd,Nat.reduceSub,Nat.reduceMul,Nat.reduceBEq,Nat.reduceEqDiff,Nat.reduceLT,Nat.reduceLeDiff,Nat.reduceDiv,reduceIte,reduceCtorEq, dc]
              refine a_quiet (by kernel_rfl) (by kernel_rfl) (by kernel_rfl) ?_
              refine zs ?_;try exact trivial
              cases de : decide (st.cells.getD 0 0 = st.cells.getD 1 0)
              · simp (maxSteps:=2000000) (disch:=omega) only [go_sem,Nat.reduceAdd,Nat.reduceSub,Nat.reduceMul,Nat.reduceBEq,Nat.reduceEqDiff,Nat.reduceLT,Nat.reduceLeDiff,Nat.reduceDiv,reduceIte,reduceCtorEq, de]
                refine a_quiet (by kernel_rfl) (by kernel_rfl) (by kernel_rfl) ?_
                refine zs ?_;try exact trivial
                cases dl : decide (st.cells.getD 0 0 < st.cells.getD 1 0)
                · simp (maxSteps:=2000000) (disch:=omega) only [go_sem,Nat.reduceAdd,Nat.reduceSub,Nat.reduceMul,Nat.reduceBEq,Nat.reduceEqDiff,Nat.reduceLT,Nat.reduceLeDiff,Nat.reduceDiv,reduceIte,reduceCtorEq, dl]
                  have e : refE cap ⟨st, r2.i0, r2.i1, r2.sk, r2.pc, -1, true⟩ = (st.wFrame (st.frame + 1)).wOver true := by unfold refE; rw [if_neg (show ¬ (0 : Int) ≤ -1 by omega), if_pos (of_decide_eq_true dc), if_neg (show ¬ st.cells.getD 0 0 = st.cells.getD 1 0 from of_decide_eq_false de), if_neg (show ¬ st.cells.getD 0 0 < st.cells.getD 1 0 from of_decide_eq_false dl)]
                  rw [e]
                  try (refine zc ?_; try exact trivial)
                  all_goals exact leCs_refl _
                simp (maxSteps:=2000000) (disch:=omega) only [go_sem,Nat.reduceAdd,Nat.reduceSub,Nat.reduceMul,Nat.reduceBEq,Nat.reduceEqDiff,Nat.reduceLT,Nat.reduceLeDiff,Nat.reduceDiv,reduceIte,reduceCtorEq, dl]
                have e : refE cap ⟨st, r2.i0, r2.i1, r2.sk, r2.pc, -1, true⟩ = ((st.wFrame (st.frame + 1)).wOver true).wWin 1 := by unfold refE; rw [if_neg (show ¬ (0 : Int) ≤ -1 by omega), if_pos (of_decide_eq_true dc), if_neg (show ¬ st.cells.getD 0 0 = st.cells.getD 1 0 from of_decide_eq_false de), if_pos (show st.cells.getD 0 0 < st.cells.getD 1 0 from of_decide_eq_true dl)]
                rw [e]
                try (refine zc ?_; try exact trivial)
                all_goals exact leCs_refl _
              simp (maxSteps:=2000000) (disch:=omega) only [go_sem,Nat.reduceAdd,Nat.reduceSub,Nat.reduceMul,Nat.reduceBEq,Nat.reduceEqDiff,Nat.reduceLT,Nat.reduceLeDiff,Nat.reduceDiv,reduceIte,reduceCtorEq, de]
              have e : refE cap ⟨st, r2.i0, r2.i1, r2.sk, r2.pc, -1, true⟩ = ((st.wFrame (st.frame + 1)).wOver true).wWin 2 := by unfold refE; rw [if_neg (show ¬ (0 : Int) ≤ -1 by omega), if_pos (of_decide_eq_true dc), if_pos (show st.cells.getD 0 0 = st.cells.getD 1 0 from of_decide_eq_true de)]
              rw [e]
              try (refine zc ?_; try exact trivial)
              all_goals exact leCs_refl _
            -- END
          simp (maxSteps:=2000000) (disch:=omega) only [go_sem,Nat.reduceAdd,Nat.reduceSub,Nat.reduceMul,Nat.reduceBEq,Nat.reduceEqDiff,Nat.reduceLT,Nat.reduceLeDiff,Nat.reduceDiv,reduceIte,reduceCtorEq, hb, Bool.not_true]
          refine ⟨(f, rdoM (gi code r.pc.toNat).1 (gi code r.pc.toNat).2 r), by simp, ⟨by simp; omega, hk, ?_, ?_⟩, rfl, leCs_refl _⟩
          · unfold rdoB at hb
            split at hb
            · cases hb
            unfold goB at hb
            simpa using (Bool.and_eq_true_iff.1 hb).1
          show rrunM code f _ = R
          rw [← h4]
          exact ((if_pos hlt).trans (if_pos hb)).symm
        have e : stepP code cap fuel s i0 i1 = (stz 0 0, 12) := by unfold stepP; rw [if_neg (by rw [hg]; simp), if_neg (by rintro (h | h); rw [hi] at h; cases h; exact hz' h), if_pos (.inr (of_decide_eq_true hf))]
        rw [e]
        simp (maxSteps:=2000000) (disch:=omega) only [go_sem,Nat.reduceAdd,Nat.reduceSub,Nat.reduceMul,Nat.reduceBEq,Nat.reduceEqDiff,Nat.reduceLT,Nat.reduceLeDiff,Nat.reduceDiv,reduceIte,reduceCtorEq, hf]
        all_goals exact leCs_refl _
      have e : stepP code cap fuel s i0 i1 = (stz 0 0, 12) := by unfold stepP; rw [if_neg (by rw [hg]; simp), if_neg (by rintro (h | h); rw [hi] at h; cases h; exact hz' h), if_pos (.inl ho)]
      rw [e]
      simp (maxSteps:=2000000) (disch:=omega) only [go_sem,Nat.reduceAdd,Nat.reduceSub,Nat.reduceMul,Nat.reduceBEq,Nat.reduceEqDiff,Nat.reduceLT,Nat.reduceLeDiff,Nat.reduceDiv,reduceIte,reduceCtorEq, ho]
      all_goals exact leCs_refl _
    have e : stepP code cap fuel s i0 i1 = (stz 0 0, 1) := by unfold stepP; rw [if_neg (by rw [hg]; simp), if_pos (.inr (of_decide_eq_true hz))]
    rw [e]
    simp (maxSteps:=2000000) (disch:=omega) only [go_sem,Nat.reduceAdd,Nat.reduceSub,Nat.reduceMul,Nat.reduceBEq,Nat.reduceEqDiff,Nat.reduceLT,Nat.reduceLeDiff,Nat.reduceDiv,reduceIte,reduceCtorEq, hz]
    all_goals exact leCs_refl _
  have e : stepP code cap fuel s i0 i1 = (stz 0 0, gameP code cap fuel) := by unfold stepP; rw [if_pos hg]
  rw [e]
  have dg : decide (gameP code cap fuel = 0) = false := decide_eq_false hg
  simp (maxSteps:=2000000) (disch:=omega) only [go_sem,Nat.reduceAdd,Nat.reduceSub,Nat.reduceMul,Nat.reduceBEq,Nat.reduceEqDiff,Nat.reduceLT,Nat.reduceLeDiff,Nat.reduceDiv,reduceIte,reduceCtorEq, dg, Bool.not_false, decide_not]
end
section
@[go_sem ↓ 1200] theorem e_fU {l : List UInt16} {i : Nat} {K : C → Prop} (h : i < l.length) : (∃ c, ((ls fU (l.drop i)).map D.toC)[0]? = some c ∧ K c) = K (.val (.int .u16 (U16 (l.getD i 0)))) := by
  apply ex_some
  rw [List.getElem?_map]
  simp [ls, h, fU, D.toC]
/-- may a player do this, who did mine? -/
def winP (cap : Int) (mine other : List UInt16) (e : Ev) : Int :=
  if e.frame < 0 ∨ cap ≤ e.frame then 1
  else if e.frame < (mine.length : Int) ∧ U16 (mine.getD e.frame.toNat 0) = U16 e.inp then 8
  else if e.frame < (mine.length : Int) then 18
  else if (mine.length : Int) < e.frame ∨ 8 ≤ (mine.length : Int) - (other.length : Int) then 13 else 0
def mayInputP (c : Ct) (e : Ev) : Int := if actP c e.player ≠ 0 then actP c e.player else if seatP c e.player = 0 then winP c.cap c.in0 c.in1 e else winP c.cap c.in1 c.in0 e
set_option maxHeartbeats 4000000 in
theorem mayInput_h (c : Ct) (e : Ev) (h0 : c.in0.length ≤ 1000000) (h1 : c.in1.length ≤ 1000000) : Holds Tryz.prog 47 [.ptr (.arg 0) 0, .ev e] [(.arg 0, ctB (.arg 0) c)] (fun r h' => r = .int .i64 (mayInputP c e) ∧ h' = [(.arg 0, ctB (.arg 0) c)]) := by
  refine holds_of_awp Tryz.func47 rfl (by decide +kernel) mixed Tryz.ntmps47 Tryz.results47 ?_
  refine zE ?_
  refine zs ?_;try exact trivial
  refine a_call [.arg 0] (mayAct_h c e) (ok1 rfl) ?_ ?_ ?_
  · refine zs ?_;try exact trivial
  · refine zs ?_;try exact trivial
  rintro _ _ ⟨rfl, rfl⟩
  refine zs ?_;try exact trivial
  refine c_dec (fun h => ?_) (fun h => ?_)
  · have e1 : mayInputP c e = actP c e.player := by unfold mayInputP; rw [if_pos h]
    rw [e1]
    refine zs ?_;try exact trivial
  have ha : ¬ actP c e.player ≠ 0 := h
  have hs := act_seat (c := c) (x := e.player) (by omega)
  refine zs ?_;try exact trivial
  refine a_call [.arg 0] (seat_h c e.player) (ok1 rfl) ?_ ?_ ?_
  · refine zs ?_;try exact trivial
  · refine zs ?_;try exact trivial
  rintro _ _ ⟨rfl, rfl⟩
  rcases seat_cases c e.player hs with q | q
  · have e1 : mayInputP c e = winP c.cap c.in0 c.in1 e := by unfold mayInputP; rw [if_neg ha, if_pos q]
    rw [e1, q]
    refine zc ?_;try exact trivial
    refine a_quiet (by kernel_rfl) (by kernel_rfl) (by kernel_rfl) ?_
    refine zc ?_;try exact trivial
    refine a_quiet (by kernel_rfl) (by kernel_rfl) (by kernel_rfl) ?_
    cases g1 : decide (e.frame < 0)
    · have f1 := of_decide_eq_false g1
      simp (maxSteps:=2000000) (disch:=omega) only [go_sem,Nat.reduceAdd,Nat.reduceSub,Nat.reduceMul,Nat.reduceBEq,Nat.reduceEqDiff,Nat.reduceLT,Nat.reduceLeDiff,Nat.reduceDiv,reduceIte,reduceCtorEq, g1]
      refine c_dec (fun g2 => ?_) (fun g2 => ?_)
      · have e2 : winP c.cap c.in0 c.in1 e = 1 := by unfold winP; rw [if_pos (.inr g2)]
        rw [e2]
        refine zs ?_;try exact trivial
      have n1 : ¬ (e.frame < 0 ∨ c.cap ≤ e.frame) := by omega
      refine zs ?_;try exact trivial
      refine a_quiet (by kernel_rfl) (by kernel_rfl) (by kernel_rfl) ?_
      cases g3 : decide (e.frame < (c.in0.length : Int))
      · have f3 := of_decide_eq_false g3
        simp (maxSteps:=2000000) (disch:=omega) only [go_sem,Nat.reduceAdd,Nat.reduceSub,Nat.reduceMul,Nat.reduceBEq,Nat.reduceEqDiff,Nat.reduceLT,Nat.reduceLeDiff,Nat.reduceDiv,reduceIte,reduceCtorEq, g3]
        have n2 : ¬ (e.frame < (c.in0.length : Int) ∧ U16 (c.in0.getD e.frame.toNat 0) = U16 e.inp) := fun h => f3 h.1
        cases g4 : decide ((c.in0.length : Int) < e.frame)
        · have f4 := of_decide_eq_false g4
          simp (maxSteps:=2000000) (disch:=omega) only [go_sem,Nat.reduceAdd,Nat.reduceSub,Nat.reduceMul,Nat.reduceBEq,Nat.reduceEqDiff,Nat.reduceLT,Nat.reduceLeDiff,Nat.reduceDiv,reduceIte,reduceCtorEq, g4]
          refine c_dec (fun g5 => ?_) (fun g5 => ?_)
          · have e2 : winP c.cap c.in0 c.in1 e = 13 := by unfold winP; rw [if_neg n1, if_neg n2, if_neg f3, if_pos (.inr g5)]
            rw [e2]
            refine zs ?_;try exact trivial
          have e2 : winP c.cap c.in0 c.in1 e = 0 := by unfold winP; rw [if_neg n1, if_neg n2, if_neg f3, if_neg (by omega)]
          rw [e2]
          refine zs ?_;try exact trivial
        have f4 := of_decide_eq_true g4
        have e2 : winP c.cap c.in0 c.in1 e = 13 := by unfold winP; rw [if_neg n1, if_neg n2, if_neg f3, if_pos (.inl f4)]
        rw [e2]
        simp (maxSteps:=2000000) (disch:=omega) only [go_sem,Nat.reduceAdd,Nat.reduceSub,Nat.reduceMul,Nat.reduceBEq,Nat.reduceEqDiff,Nat.reduceLT,Nat.reduceLeDiff,Nat.reduceDiv,reduceIte,reduceCtorEq, g4]
      have f3 := of_decide_eq_true g3
      simp (maxSteps:=2000000) (disch:=omega) only [go_sem,Nat.reduceAdd,Nat.reduceSub,Nat.reduceMul,Nat.reduceBEq,Nat.reduceEqDiff,Nat.reduceLT,Nat.reduceLeDiff,Nat.reduceDiv,reduceIte,reduceCtorEq, g3]
      refine c_dec (fun g4 => ?_) (fun g4 => ?_)
      · have e2 : winP c.cap c.in0 c.in1 e = 8 := by unfold winP; rw [if_neg n1, if_pos ⟨f3, g4⟩]
        rw [e2]
        refine zs ?_;try exact trivial
      have e2 : winP c.cap c.in0 c.in1 e = 18 := by unfold winP; rw [if_neg n1, if_neg (fun h => g4 h.2), if_pos f3]
      rw [e2]
      simp (maxSteps:=2000000) (disch:=omega) only [go_sem,Nat.reduceAdd,Nat.reduceSub,Nat.reduceMul,Nat.reduceBEq,Nat.reduceEqDiff,Nat.reduceLT,Nat.reduceLeDiff,Nat.reduceDiv,reduceIte,reduceCtorEq, g3]
    have f1 := of_decide_eq_true g1
    have e2 : winP c.cap c.in0 c.in1 e = 1 := by unfold winP; rw [if_pos (.inl f1)]
    rw [e2]
    simp (maxSteps:=2000000) (disch:=omega) only [go_sem,Nat.reduceAdd,Nat.reduceSub,Nat.reduceMul,Nat.reduceBEq,Nat.reduceEqDiff,Nat.reduceLT,Nat.reduceLeDiff,Nat.reduceDiv,reduceIte,reduceCtorEq, g1]
  have e1 : mayInputP c e = winP c.cap c.in1 c.in0 e := by unfold mayInputP; rw [if_neg ha, if_neg (show ¬ seatP c e.player = 0 by omega)]
  rw [e1, q]
  refine zc ?_;try exact trivial
  refine a_quiet (by kernel_rfl) (by kernel_rfl) (by kernel_rfl) ?_
  refine zc ?_;try exact trivial
  refine a_quiet (by kernel_rfl) (by kernel_rfl) (by kernel_rfl) ?_
  cases g1 : decide (e.frame < 0)
  · have f1 := of_decide_eq_false g1
    simp (maxSteps:=2000000) (disch:=omega) only [go_sem,Nat.reduceAdd,Nat.reduceSub,Nat.reduceMul,Nat.reduceBEq,Nat.reduceEqDiff,Nat.reduceLT,Nat.reduceLeDiff,Nat.reduceDiv,reduceIte,reduceCtorEq, g1]
    refine c_dec (fun g2 => ?_) (fun g2 => ?_)
    · have e2 : winP c.cap c.in1 c.in0 e = 1 := by unfold winP; rw [if_pos (.inr g2)]
      rw [e2]
      refine zs ?_;try exact trivial
    have n1 : ¬ (e.frame < 0 ∨ c.cap ≤ e.frame) := by omega
    refine zs ?_;try exact trivial
    refine a_quiet (by kernel_rfl) (by kernel_rfl) (by kernel_rfl) ?_
    cases g3 : decide (e.frame < (c.in1.length : Int))
    · have f3 := of_decide_eq_false g3
      simp (maxSteps:=2000000) (disch:=omega) only [go_sem,Nat.reduceAdd,Nat.reduceSub,Nat.reduceMul,Nat.reduceBEq,Nat.reduceEqDiff,Nat.reduceLT,Nat.reduceLeDiff,Nat.reduceDiv,reduceIte,reduceCtorEq, g3]
      have n2 : ¬ (e.frame < (c.in1.length : Int) ∧ U16 (c.in1.getD e.frame.toNat 0) = U16 e.inp) := fun h => f3 h.1
      cases g4 : decide ((c.in1.length : Int) < e.frame)
      · have f4 := of_decide_eq_false g4
        simp (maxSteps:=2000000) (disch:=omega) only [go_sem,Nat.reduceAdd,Nat.reduceSub,Nat.reduceMul,Nat.reduceBEq,Nat.reduceEqDiff,Nat.reduceLT,Nat.reduceLeDiff,Nat.reduceDiv,reduceIte,reduceCtorEq, g4]
        refine c_dec (fun g5 => ?_) (fun g5 => ?_)
        · have e2 : winP c.cap c.in1 c.in0 e = 13 := by unfold winP; rw [if_neg n1, if_neg n2, if_neg f3, if_pos (.inr g5)]
          rw [e2]
          refine zs ?_;try exact trivial
        have e2 : winP c.cap c.in1 c.in0 e = 0 := by unfold winP; rw [if_neg n1, if_neg n2, if_neg f3, if_neg (by omega)]
        rw [e2]
        refine zs ?_;try exact trivial
      have f4 := of_decide_eq_true g4
      have e2 : winP c.cap c.in1 c.in0 e = 13 := by unfold winP; rw [if_neg n1, if_neg n2, if_neg f3, if_pos (.inl f4)]
      rw [e2]
      simp (maxSteps:=2000000) (disch:=omega) only [go_sem,Nat.reduceAdd,Nat.reduceSub,Nat.reduceMul,Nat.reduceBEq,Nat.reduceEqDiff,Nat.reduceLT,Nat.reduceLeDiff,Nat.reduceDiv,reduceIte,reduceCtorEq, g4]
    have f3 := of_decide_eq_true g3
    simp (maxSteps:=2000000) (disch:=omega) only [go_sem,Nat.reduceAdd,Nat.reduceSub,Nat.reduceMul,Nat.reduceBEq,Nat.reduceEqDiff,Nat.reduceLT,Nat.reduceLeDiff,Nat.reduceDiv,reduceIte,reduceCtorEq, g3]
    refine c_dec (fun g4 => ?_) (fun g4 => ?_)
    · have e2 : winP c.cap c.in1 c.in0 e = 8 := by unfold winP; rw [if_neg n1, if_pos ⟨f3, g4⟩]
      rw [e2]
      refine zs ?_;try exact trivial
    have e2 : winP c.cap c.in1 c.in0 e = 18 := by unfold winP; rw [if_neg n1, if_neg (fun h => g4 h.2), if_pos f3]
    rw [e2]
    simp (maxSteps:=2000000) (disch:=omega) only [go_sem,Nat.reduceAdd,Nat.reduceSub,Nat.reduceMul,Nat.reduceBEq,Nat.reduceEqDiff,Nat.reduceLT,Nat.reduceLeDiff,Nat.reduceDiv,reduceIte,reduceCtorEq, g3]
  have f1 := of_decide_eq_true g1
  have e2 : winP c.cap c.in1 c.in0 e = 1 := by unfold winP; rw [if_pos (.inl f1)]
  rw [e2]
  simp (maxSteps:=2000000) (disch:=omega) only [go_sem,Nat.reduceAdd,Nat.reduceSub,Nat.reduceMul,Nat.reduceBEq,Nat.reduceEqDiff,Nat.reduceLT,Nat.reduceLeDiff,Nat.reduceDiv,reduceIte,reduceCtorEq, g1]
end
section
@[go_sem 1200] theorem fU_app {l : List UInt16} {x : UInt16} : ls fU l ++ [.val (.int .u16 (U16 x))] = ls fU (l ++ [x]) := by simp [ls, fU]
@[go_sem ↓ 1200] theorem e_lenp {P : Program} {t : TypeId} {l : List (UInt16 × UInt16)} {o : Own} {nl : Option Bool} {V' : V → Prop} : aLen P t (.cell (.lst o nl 2 (prs l))) V' = (isSlcT P t = true ∧ V' (.int .i64 l.length)) := by
  simp only [aLen, prs_len, Nat.mul_div_cancel _ (show 0 < 2 by omega)]
@[go_sem ↓ 1200] theorem e_lenE {P : Program} {t : TypeId} {l : List Ev} {o : Own} {nl : Option Bool} {V' : V → Prop} : aLen P t (.cell (.lst o nl 6 (evs l))) V' = (isSlcT P t = true ∧ V' (.int .i64 l.length)) := by
  simp only [aLen, evs_len, Nat.mul_div_cancel _ (show 0 < 6 by omega)]
def inputP0 (c : Ct) (e : Ev) : Ct := if seatP c e.player = 0 then { c with in0 := c.in0 ++ [e.inp] } else { c with in1 := c.in1 ++ [e.inp] }
set_option maxRecDepth 20000 in
set_option maxHeartbeats 4000000 in
theorem input0_h (c : Ct) (e : Ev) (h0 : c.in0.length ≤ 1000000) (h1 : c.in1.length ≤ 1000000) (hs : 0 ≤ seatP c e.player) (hp : c.pairs = []) (ho : if seatP c e.player = 0 then c.in1 = [] else c.in0 = []) :
    Holds Tryz.prog 48 [.ptr (.arg 0) 0, .ev e] [(.arg 0, ctB (.arg 0) c)] (fun r h' => r = .tup [] ∧ h' = [(.arg 0, ctB (.arg 0) (inputP0 c e))]) := by
  refine holds_of_awp Tryz.func48 rfl (by decide +kernel) mixed Tryz.ntmps48 Tryz.results48 ?_
  refine zE ?_
  refine zs ?_;try exact trivial
  refine a_call [.arg 0] (seat_h c e.player) (ok1 rfl) ?_ ?_ ?_
  · refine zs ?_;try exact trivial
  · refine zs ?_;try exact trivial
  rintro _ _ ⟨rfl, rfl⟩
  rcases seat_cases c e.player hs with q | q
  · rw [if_pos q] at ho
    have ei : inputP0 c e = { c with in0 := c.in0 ++ [e.inp] } := by unfold inputP0; rw [if_pos q]
    obtain ⟨code, cap, fuel, p0, p1, seed, l0, l1, over, winner, why, opn, in0, in1, pairs, st, events⟩ := c
    simp only at hp ho h0 h1 ei
    subst hp ho
    rw [ei, q]
    refine zc ?_;try exact trivial
    refine a_drawC (⟨[V.cell (.ptr (.arg 0) 0), .undef, .undef, V.cell (.ptr (.loc [3]) 0), V.int .i64 0, U, U, U, U, U, U, U, U, U, U, U, U, U, U, U, U, U, U, U, U, U, U, U, U, U, U, U, U, U, U, U, U, U, U, U, U, U, U, U, U, U, U, U, U, U, U, U, U, U, U, U, U, U, U, U, U, U, U, U, U, U, U, U, U, U, U, U, U, U, U, U, U, U, U, U, U, U, U, U, U, U, U, U, U, U, U, U, U, U, U, U, U, U, U, U, U, U, U, U, U, U, U, U, U, U, .undef], [(.loc [3], evC e), (.arg 0, ctC (.lst .no none 2 (ins code)) cap fuel p0 p1 seed l0 l1 (in0.length : Int) 0 over winner why opn (.lst (.tag (.cell (.arg 0) 14)) none 1 (ls fU (in0 ++ [e.inp]))) (.lst (.tag (.cell (.arg 0) 15)) none 1 (ls fU [])) (.lst (.tag (.cell (.arg 0) 16)) none 2 (prs [])) st (.lst (.tag (.cell (.arg 0) 37)) none 6 (evs events)))]⟩) (.take 0 (.take 1 (.take 2 (.take 3 (.take 4 (.take 5 (.take 6 (.take 8 (.take 12 (.take 13 (.both [(7, .both [(9, .both [(10, .both [(11, .take 14 (.both [(15, .done)]))])])]), (9, .both [(7, .both [(10, .both [(11, .take 14 (.both [(15, .done)]))])]), (10, .both [(7, .both [(11, .take 14 (.both [(15, .done)]))])])])]))))))))))) (by kernel_rfl) (by kernel_rfl) ?_ ?_
    · refine zc ?_;try exact trivial
      omega
    refine zc ?_;try exact trivial
    refine a_drawC (⟨[V.cell (.ptr (.arg 0) 0), .undef, .undef, V.cell (.ptr (.loc [3]) 0), V.int .i64 0, U, U, U, U, U, U, U, U, U, U, U, U, U, U, U, U, U, U, U, U, U, U, U, U, U, U, U, U, U, U, U, U, U, U, U, U, U, U, U, U, U, U, U, U, U, U, U, U, U, U, U, U, U, U, U, U, U, U, U, U, U, U, U, U, U, U, U, U, U, U, U, U, U, U, U, U, U, U, U, U, U, U, U, U, U, U, U, U, U, U, U, U, U, U, U, U, U, U, U, U, U, U, U, U, U, .undef], [(.loc [3], evC e), (.arg 0, ctC (.lst .no none 2 (ins code)) cap fuel p0 p1 seed l0 l1 ((in0 ++ [e.inp]).length : Int) 0 over winner why opn (.lst (.tag (.cell (.arg 0) 14)) none 1 (ls fU (in0 ++ [e.inp]))) (.lst (.tag (.cell (.arg 0) 15)) none 1 (ls fU [])) (.lst (.tag (.cell (.arg 0) 16)) none 2 (prs [])) st (.lst (.tag (.cell (.arg 0) 37)) none 6 (evs events)))]⟩) (.take 0 (.take 1 (.take 2 (.take 3 (.take 4 (.take 5 (.take 8 (.take 9 (.take 10 (.both [(6, .take 7 (.take 11 (.both [(12, .done)])))])))))))))) (by kernel_rfl) (by kernel_rfl) ?_ ?_
    · refine zc ?_;try exact trivial
    refine zc ?_;try exact trivial
    refine a_loopk (fun _ : Unit => ⟨[V.cell (.ptr (.arg 0) 0), .undef, .undef, V.cell (.ptr (.loc [3]) 0), V.int .i64 0, V.int .i64 0, U, U, U, U, U, U, U, U, U, U, U, U, U, U, U, U, U, U, U, U, U, U, U, U, U, U, U, U, U, U, U, U, U, U, U, U, U, U, U, U, U, U, U, U, U, U, U, U, U, U, U, U, U, U, U, U, U, U, U, U, U, U, U, U, U, U, U, U, U, U, U, U, U, U, U, U, U, U, U, U, U, U, U, U, U, U, U, U, U, U, U, U, U, U, U, U, U, U, U, U, U, U, U, U, .undef], [(.loc [3], evC e), (.arg 0, ctC (.lst .no none 2 (ins code)) cap fuel p0 p1 seed l0 l1 ((in0 ++ [e.inp]).length : Int) 0 over winner why opn (.lst (.tag (.cell (.arg 0) 14)) none 1 (ls fU (in0 ++ [e.inp]))) (.lst (.tag (.cell (.arg 0) 15)) none 1 (ls fU [])) (.lst (.tag (.cell (.arg 0) 16)) none 2 (prs [])) st (.lst (.tag (.cell (.arg 0) 37)) none 6 (evs events)))]⟩) (fun _ => True) (fun _ => 0) () trivial ?_ ?_
    · try (refine zs ?_; try exact trivial)
    rintro _ _
    refine zs ?_;try exact trivial
    refine a_quiet (by kernel_rfl) (by kernel_rfl) (by kernel_rfl) ?_
    cases so : (!st.over)
    · simp (maxSteps:=2000000) (disch:=omega) only [go_sem,Nat.reduceAdd,Nat.reduceSub,Nat.reduceMul,Nat.reduceBEq,Nat.reduceEqDiff,Nat.reduceLT,Nat.reduceLeDiff,Nat.reduceDiv,reduceIte,reduceCtorEq, so]
      exact ct_le ⟨leC_refl _, rfl, rfl, rfl, rfl, rfl, rfl, rfl, (by simp), rfl, rfl, rfl, rfl, rfl, leC_refl _, leC_refl _, leC_refl _, rfl, leC_refl _⟩
    simp (maxSteps:=2000000) (disch:=omega) only [go_sem,Nat.reduceAdd,Nat.reduceSub,Nat.reduceMul,Nat.reduceBEq,Nat.reduceEqDiff,Nat.reduceLT,Nat.reduceLeDiff,Nat.reduceDiv,reduceIte,reduceCtorEq, so]
    refine c_dec (fun h => ?_) (fun h => ?_)
    · omega
    refine zs ?_;try exact trivial
    exact ct_le ⟨leC_refl _, rfl, rfl, rfl, rfl, rfl, rfl, rfl, (by simp), rfl, rfl, rfl, rfl, rfl, leC_refl _, leC_refl _, leC_refl _, rfl, leC_refl _⟩
  rw [if_neg (show ¬ seatP c e.player = 0 by omega)] at ho
  have ei : inputP0 c e = { c with in1 := c.in1 ++ [e.inp] } := by unfold inputP0; rw [if_neg (show ¬ seatP c e.player = 0 by omega)]
  obtain ⟨code, cap, fuel, p0, p1, seed, l0, l1, over, winner, why, opn, in0, in1, pairs, st, events⟩ := c
  simp only at hp ho h0 h1 ei
  subst hp ho
  rw [ei, q]
  refine zc ?_;try exact trivial
  refine a_drawC (⟨[V.cell (.ptr (.arg 0) 0), .undef, .undef, V.cell (.ptr (.loc [3]) 0), V.int .i64 1, U, U, U, U, U, U, U, U, U, U, U, U, U, U, U, U, U, U, U, U, U, U, U, U, U, U, U, U, U, U, U, U, U, U, U, U, U, U, U, U, U, U, U, U, U, U, U, U, U, U, U, U, U, U, U, U, U, U, U, U, U, U, U, U, U, U, U, U, U, U, U, U, U, U, U, U, U, U, U, U, U, U, U, U, U, U, U, U, U, U, U, U, U, U, U, U, U, U, U, U, U, U, U, U, U, .undef], [(.loc [3], evC e), (.arg 0, ctC (.lst .no none 2 (ins code)) cap fuel p0 p1 seed l0 l1 0 (in1.length : Int) over winner why opn (.lst (.tag (.cell (.arg 0) 14)) none 1 (ls fU [])) (.lst (.tag (.cell (.arg 0) 15)) none 1 (ls fU (in1 ++ [e.inp]))) (.lst (.tag (.cell (.arg 0) 16)) none 2 (prs [])) st (.lst (.tag (.cell (.arg 0) 37)) none 6 (evs events)))]⟩) (.take 0 (.take 1 (.take 2 (.take 3 (.take 4 (.take 5 (.take 6 (.take 8 (.take 12 (.take 13 (.both [(7, .both [(9, .both [(10, .both [(11, .take 14 (.both [(15, .done)]))])])]), (9, .both [(7, .both [(10, .both [(11, .take 14 (.both [(15, .done)]))])]), (10, .both [(7, .both [(11, .take 14 (.both [(15, .done)]))])])])]))))))))))) (by kernel_rfl) (by kernel_rfl) ?_ ?_
  · refine zc ?_;try exact trivial
    omega
  refine zc ?_;try exact trivial
  refine a_drawC (⟨[V.cell (.ptr (.arg 0) 0), .undef, .undef, V.cell (.ptr (.loc [3]) 0), V.int .i64 1, U, U, U, U, U, U, U, U, U, U, U, U, U, U, U, U, U, U, U, U, U, U, U, U, U, U, U, U, U, U, U, U, U, U, U, U, U, U, U, U, U, U, U, U, U, U, U, U, U, U, U, U, U, U, U, U, U, U, U, U, U, U, U, U, U, U, U, U, U, U, U, U, U, U, U, U, U, U, U, U, U, U, U, U, U, U, U, U, U, U, U, U, U, U, U, U, U, U, U, U, U, U, U, U, U, .undef], [(.loc [3], evC e), (.arg 0, ctC (.lst .no none 2 (ins code)) cap fuel p0 p1 seed l0 l1 0 ((in1 ++ [e.inp]).length : Int) over winner why opn (.lst (.tag (.cell (.arg 0) 14)) none 1 (ls fU [])) (.lst (.tag (.cell (.arg 0) 15)) none 1 (ls fU (in1 ++ [e.inp]))) (.lst (.tag (.cell (.arg 0) 16)) none 2 (prs [])) st (.lst (.tag (.cell (.arg 0) 37)) none 6 (evs events)))]⟩) (.take 0 (.take 1 (.take 2 (.take 3 (.take 4 (.take 5 (.take 8 (.take 9 (.take 10 (.both [(6, .take 7 (.take 11 (.both [(12, .done)])))])))))))))) (by kernel_rfl) (by kernel_rfl) ?_ ?_
  · refine zc ?_;try exact trivial
  refine zc ?_;try exact trivial
  refine a_loopk (fun _ : Unit => ⟨[V.cell (.ptr (.arg 0) 0), .undef, .undef, V.cell (.ptr (.loc [3]) 0), V.int .i64 1, V.int .i64 0, U, U, U, U, U, U, U, U, U, U, U, U, U, U, U, U, U, U, U, U, U, U, U, U, U, U, U, U, U, U, U, U, U, U, U, U, U, U, U, U, U, U, U, U, U, U, U, U, U, U, U, U, U, U, U, U, U, U, U, U, U, U, U, U, U, U, U, U, U, U, U, U, U, U, U, U, U, U, U, U, U, U, U, U, U, U, U, U, U, U, U, U, U, U, U, U, U, U, U, U, U, U, U, U, .undef], [(.loc [3], evC e), (.arg 0, ctC (.lst .no none 2 (ins code)) cap fuel p0 p1 seed l0 l1 0 ((in1 ++ [e.inp]).length : Int) over winner why opn (.lst (.tag (.cell (.arg 0) 14)) none 1 (ls fU [])) (.lst (.tag (.cell (.arg 0) 15)) none 1 (ls fU (in1 ++ [e.inp]))) (.lst (.tag (.cell (.arg 0) 16)) none 2 (prs [])) st (.lst (.tag (.cell (.arg 0) 37)) none 6 (evs events)))]⟩) (fun _ => True) (fun _ => 0) () trivial ?_ ?_
  · try (refine zs ?_; try exact trivial)
  rintro _ _
  refine zs ?_;try exact trivial
  refine a_quiet (by kernel_rfl) (by kernel_rfl) (by kernel_rfl) ?_
  cases so : (!st.over)
  · simp (maxSteps:=2000000) (disch:=omega) only [go_sem,Nat.reduceAdd,Nat.reduceSub,Nat.reduceMul,Nat.reduceBEq,Nat.reduceEqDiff,Nat.reduceLT,Nat.reduceLeDiff,Nat.reduceDiv,reduceIte,reduceCtorEq, so]
    exact ct_le ⟨leC_refl _, rfl, rfl, rfl, rfl, rfl, rfl, rfl, rfl, (by simp), rfl, rfl, rfl, rfl, leC_refl _, leC_refl _, leC_refl _, rfl, leC_refl _⟩
  simp (maxSteps:=2000000) (disch:=omega) only [go_sem,Nat.reduceAdd,Nat.reduceSub,Nat.reduceMul,Nat.reduceBEq,Nat.reduceEqDiff,Nat.reduceLT,Nat.reduceLeDiff,Nat.reduceDiv,reduceIte,reduceCtorEq, so]
  refine c_dec (fun h => ?_) (fun h => ?_)
  · omega
  refine zs ?_;try exact trivial
  exact ct_le ⟨leC_refl _, rfl, rfl, rfl, rfl, rfl, rfl, rfl, rfl, (by simp), rfl, rfl, rfl, rfl, leC_refl _, leC_refl _, leC_refl _, rfl, leC_refl _⟩
end
section
@[go_sem 1200] theorem prs_app {l : List (UInt16 × UInt16)} {a b : UInt16} : prs l ++ [.val (.int .u16 (U16 a)), .val (.int .u16 (U16 b))] = prs (l ++ [(a, b)]) := by
  simp [prs, prD, fU]
/-- the frames of which both did something -/
def cuP (code : List (Int × Int)) (cap fuel : Int) (a b : List UInt16) : Nat → List (UInt16 × UInt16) → Sta → List (UInt16 × UInt16) × Sta
  | 0, ps, st => (ps, st)
  | f + 1, ps, st => if st.over = false ∧ ps.length < min a.length b.length then
      cuP code cap fuel a b f (ps ++ [(a.getD ps.length 0, b.getD ps.length 0)]) (stepP code cap fuel st (a.getD ps.length 0) (b.getD ps.length 0)).1 else (ps, st)
def goP (c : Ct) : Ct := { c with pairs := (cuP c.code c.cap c.fuel c.in0 c.in1 (min c.in0.length c.in1.length - c.pairs.length) c.pairs c.st).1, st := (cuP c.code c.cap c.fuel c.in0 c.in1 (min c.in0.length c.in1.length - c.pairs.length) c.pairs c.st).2 }
def inputP (c : Ct) (e : Ev) : Ct := goP (inputP0 c e)
set_option maxRecDepth 20000 in
set_option maxHeartbeats 16000000 in
theorem input_h (c : Ct) (e : Ev) (h0 : c.in0.length ≤ 1000000) (h1 : c.in1.length ≤ 1000000) (hpl : c.pairs.length ≤ 1000000) (hs : 0 ≤ seatP c e.player) (hg : gameP c.code c.cap c.fuel = 0) (hB : ∀ x ∈ c.st.cells, B32 x) :
    Holds Tryz.prog 48 [.ptr (.arg 0) 0, .ev e] [(.arg 0, ctB (.arg 0) c)] (fun r h' => r = .tup [] ∧ h' = [(.arg 0, ctB (.arg 0) (inputP c e))]) := by
  have hcl := game_len hg
  refine holds_of_awp Tryz.func48 rfl (by decide +kernel) mixed Tryz.ntmps48 Tryz.results48 ?_
  refine zE ?_
  refine zs ?_;try exact trivial
  refine a_call [.arg 0] (seat_h c e.player) (ok1 rfl) ?_ ?_ ?_
  · refine zs ?_;try exact trivial
  · refine zs ?_;try exact trivial
  rintro _ _ ⟨rfl, rfl⟩
  rcases seat_cases c e.player hs with q | q
  · have ei : inputP0 c e = { c with in0 := c.in0 ++ [e.inp] } := by unfold inputP0; rw [if_pos q]
    have hF : inputP c e = goP { c with in0 := c.in0 ++ [e.inp] } := by unfold inputP; rw [ei]
    rw [hF]
    clear hF ei
    obtain ⟨code, cap, fuel, p0, p1, seed, l0, l1, over, winner, why, opn, in0, in1, pairs, st, events⟩ := c
    simp only at h0 h1 hpl hg hB hcl
    rw [q]
    obtain ⟨a, ha⟩ : ∃ a, a = in0 ++ [e.inp] := ⟨_, rfl⟩
    obtain ⟨b, hb⟩ : ∃ b, b = in1 := ⟨_, rfl⟩
    have la : a.length ≤ 1000001 := by rw [ha]; simp; omega
    have lb : b.length ≤ 1000001 := by rw [hb]; omega
    obtain ⟨ps', st', hcu⟩ : ∃ ps' st', cuP code cap fuel a b (min a.length b.length - pairs.length) pairs st = (ps', st') := ⟨_, _, rfl⟩
    have hgo : goP ⟨code, cap, fuel, p0, p1, seed, l0, l1, over, winner, why, opn, in0 ++ [e.inp], in1, pairs, st, events⟩ = ⟨code, cap, fuel, p0, p1, seed, l0, l1, over, winner, why, opn, a, b, ps', st', events⟩ := by
      unfold goP
      simp only [← ha, ← hb, hcu]
    rw [hgo]
    refine zc ?_;try exact trivial
    refine a_drawC (⟨[V.cell (.ptr (.arg 0) 0), .undef, .undef, V.cell (.ptr (.loc [3]) 0), V.int .i64 0, U, U, U, U, U, U, U, U, U, U, U, U, U, U, U, U, U, U, U, U, U, U, U, U, U, U, U, U, U, U, U, U, U, U, U, U, U, U, U, U, U, U, U, U, U, U, U, U, U, U, U, U, U, U, U, U, U, U, U, U, U, U, U, U, U, U, U, U, U, U, U, U, U, U, U, U, U, U, U, U, U, U, U, U, U, U, U, U, U, U, U, U, U, U, U, U, U, U, U, U, U, U, U, U, U, .undef], [(.loc [3], evC e), (.arg 0, ctC (.lst .no none 2 (ins code)) cap fuel p0 p1 seed l0 l1 (in0.length : Int) (in1.length : Int) over winner why opn (.lst (.tag (.cell (.arg 0) 14)) none 1 (ls fU (a))) (.lst (.tag (.cell (.arg 0) 15)) none 1 (ls fU (b))) (.lst (.tag (.cell (.arg 0) 16)) none 2 (prs (pairs))) (st) (.lst (.tag (.cell (.arg 0) 37)) none 6 (evs events)))]⟩) (.take 0 (.take 1 (.take 2 (.take 3 (.take 4 (.take 5 (.take 6 (.take 8 (.take 12 (.take 13 (.both [(7, .both [(9, .both [(10, .both [(11, .take 14 (.both [(15, .done)]))])])]), (9, .both [(7, .both [(10, .both [(11, .take 14 (.both [(15, .done)]))])]), (10, .both [(7, .both [(11, .take 14 (.both [(15, .done)]))])])])]))))))))))) (by kernel_rfl) (by kernel_rfl) ?_ ?_
    · refine zc ?_;try exact trivial
      all_goals (try rw [ha]); all_goals (try rw [hb]); all_goals (try (refine zc ?_; try exact trivial)); all_goals (try omega)
    refine zc ?_;try exact trivial
    refine a_drawC (⟨[V.cell (.ptr (.arg 0) 0), .undef, .undef, V.cell (.ptr (.loc [3]) 0), V.int .i64 0, U, U, U, U, U, U, U, U, U, U, U, U, U, U, U, U, U, U, U, U, U, U, U, U, U, U, U, U, U, U, U, U, U, U, U, U, U, U, U, U, U, U, U, U, U, U, U, U, U, U, U, U, U, U, U, U, U, U, U, U, U, U, U, U, U, U, U, U, U, U, U, U, U, U, U, U, U, U, U, U, U, U, U, U, U, U, U, U, U, U, U, U, U, U, U, U, U, U, U, U, U, U, U, U, U, .undef], [(.loc [3], evC e), (.arg 0, ctC (.lst .no none 2 (ins code)) cap fuel p0 p1 seed l0 l1 (a.length : Int) (b.length : Int) over winner why opn (.lst (.tag (.cell (.arg 0) 14)) none 1 (ls fU (a))) (.lst (.tag (.cell (.arg 0) 15)) none 1 (ls fU (b))) (.lst (.tag (.cell (.arg 0) 16)) none 2 (prs (pairs))) (st) (.lst (.tag (.cell (.arg 0) 37)) none 6 (evs events)))]⟩) (.take 0 (.take 1 (.take 2 (.take 3 (.take 4 (.take 5 (.take 8 (.take 9 (.take 10 (.both [(6, .take 7 (.take 11 (.both [(12, .done)])))])))))))))) (by kernel_rfl) (by kernel_rfl) ?_ ?_
    · refine zc ?_;try exact trivial
      all_goals (try rw [ha]); all_goals (try rw [hb]); all_goals (try (refine zc ?_; try exact trivial)); all_goals (try omega)
    refine zc ?_;try exact trivial
    refine a_loopk (fun x : List (UInt16 × UInt16) × Sta => ⟨[V.cell (.ptr (.arg 0) 0), .undef, .undef, V.cell (.ptr (.loc [3]) 0), V.int .i64 0, V.int .i64 (x.1.length : Int), U, U, U, U, U, U, U, U, U, U, U, U, U, U, U, U, U, U, U, U, U, U, U, U, U, U, U, U, U, U, U, U, U, U, U, U, U, U, U, U, U, U, U, U, U, U, U, U, U, U, U, U, U, U, U, U, U, U, U, U, U, U, U, U, U, U, U, U, U, U, U, U, U, U, U, U, U, U, U, U, U, U, U, U, U, U, U, U, U, U, U, U, U, U, U, U, U, U, U, U, U, U, U, U, .undef], [(.loc [3], evC e), (.arg 0, ctC (.lst .no none 2 (ins code)) cap fuel p0 p1 seed l0 l1 (a.length : Int) (b.length : Int) over winner why opn (.lst (.tag (.cell (.arg 0) 14)) none 1 (ls fU (a))) (.lst (.tag (.cell (.arg 0) 15)) none 1 (ls fU (b))) (.lst (.tag (.cell (.arg 0) 16)) none 2 (prs (x.1))) (x.2) (.lst (.tag (.cell (.arg 0) 37)) none 6 (evs events)))]⟩) (fun x => x.1.length ≤ 1000001 ∧ (∀ y ∈ x.2.cells, B32 y) ∧ cuP code cap fuel a b (min a.length b.length - x.1.length) x.1 x.2 = (ps', st')) (fun x => min a.length b.length - x.1.length) (pairs, st) ⟨by show pairs.length ≤ 1000001; omega, hB, hcu⟩ ?_ ?_
    · try (refine zs ?_; try exact trivial)
    rintro ⟨ps, sx⟩ ⟨hp1, hp2, hp3⟩
    simp only at hp1 hp2 hp3 ⊢
    refine zs ?_;try exact trivial
    refine a_quiet (by kernel_rfl) (by kernel_rfl) (by kernel_rfl) ?_
    cases so : (!sx.over)
    · have so' : sx.over = true := by cases hh : sx.over <;> simp_all
      have e0 : cuP code cap fuel a b (min a.length b.length - ps.length) ps sx = (ps, sx) := by
        cases hm : min a.length b.length - ps.length with
        | zero => rfl
        | succ n => unfold cuP; rw [if_neg (by rw [so']; simp)]
      rw [e0] at hp3
      cases hp3
      simp (maxSteps:=2000000) (disch:=omega) only [go_sem,Nat.reduceAdd,Nat.reduceSub,Nat.reduceMul,Nat.reduceBEq,Nat.reduceEqDiff,Nat.reduceLT,Nat.reduceLeDiff,Nat.reduceDiv,reduceIte,reduceCtorEq, so]
      all_goals exact ct_le ⟨leC_refl _, rfl, rfl, rfl, rfl, rfl, rfl, rfl, rfl, rfl, rfl, rfl, rfl, rfl, leC_refl _, leC_refl _, leC_refl _, rfl, leC_refl _⟩
    simp (maxSteps:=2000000) (disch:=omega) only [go_sem,Nat.reduceAdd,Nat.reduceSub,Nat.reduceMul,Nat.reduceBEq,Nat.reduceEqDiff,Nat.reduceLT,Nat.reduceLeDiff,Nat.reduceDiv,reduceIte,reduceCtorEq, so]
    have so' : sx.over = false := by cases hh : sx.over <;> simp_all
    refine c_dec (fun g => ?_) (fun g => ?_)
    · have hlt : ps.length < min a.length b.length := by omega
      have hpa : ps.length < a.length := by omega
      have hpb : ps.length < b.length := by omega
      obtain ⟨m, hm⟩ : ∃ m, min a.length b.length - ps.length = m + 1 := ⟨min a.length b.length - ps.length - 1, by omega⟩
      rw [hm] at hp3
      unfold cuP at hp3
      rw [if_pos ⟨so', hlt⟩] at hp3
      refine zc ?_;try exact trivial
      refine a_drawC (⟨[V.cell (.ptr (.arg 0) 0), .undef, .undef, V.cell (.ptr (.loc [3]) 0), V.int .i64 0, V.int .i64 (ps.length : Int), V.cell (.ptr (.loc [6]) 0), U, U, U, U, U, U, U, U, U, U, U, U, U, U, U, U, U, U, U, U, U, U, U, U, U, U, U, U, U, U, U, U, U, U, U, U, U, U, U, U, U, U, U, U, U, U, U, U, U, U, U, U, U, U, U, U, U, U, U, U, U, U, U, U, U, U, U, U, U, U, U, U, U, U, U, U, U, U, U, U, U, U, U, U, U, U, U, U, U, U, U, U, U, U, U, U, U, U, U, U, U, U, U, .undef], [(.loc [6], [.val (.int .u16 (U16 (a.getD ps.length 0))), .val (.int .u16 (U16 (b.getD ps.length 0)))]), (.loc [3], evC e), (.arg 0, ctC (.lst .no none 2 (ins code)) cap fuel p0 p1 seed l0 l1 (a.length : Int) (b.length : Int) over winner why opn (.lst (.tag (.cell (.arg 0) 14)) none 1 (ls fU (a))) (.lst (.tag (.cell (.arg 0) 15)) none 1 (ls fU (b))) (.lst (.tag (.cell (.arg 0) 16)) none 2 (prs (ps))) (sx) (.lst (.tag (.cell (.arg 0) 37)) none 6 (evs events)))]⟩) (.take 0 (.take 1 (.take 2 (.take 3 (.take 5 (.take 8 (.take 9 (.take 10 (.take 11 (.take 13 (.both [(4, .take 6 (.both [(7, .both [(12, .take 14 (.both [(15, .both [(16, .both [(17, .both [(18, .done)])]), (17, .both [(16, .both [(18, .done)])])]), (17, .both [(15, .both [(16, .both [(18, .done)])])])])), (17, .both [(12, .take 14 (.both [(15, .both [(16, .both [(18, .done)])])]))])]), (12, .take 14 (.both [(7, .both [(15, .both [(16, .both [(17, .both [(18, .done)])]), (17, .both [(16, .both [(18, .done)])])]), (17, .both [(15, .both [(16, .both [(18, .done)])])])]), (15, .both [(7, .both [(16, .both [(17, .both [(18, .done)])]), (17, .both [(16, .both [(18, .done)])])]), (17, .both [(7, .both [(16, .both [(18, .done)])])])]), (17, .both [(7, .both [(15, .both [(16, .both [(18, .done)])])]), (15, .both [(7, .both [(16, .both [(18, .done)])])])])])), (17, .both [(7, .both [(12, .take 14 (.both [(15, .both [(16, .both [(18, .done)])])]))]), (12, .take 14 (.both [(7, .both [(15, .both [(16, .both [(18, .done)])])]), (15, .both [(7, .both [(16, .both [(18, .done)])])])]))])])), (12, .take 14 (.both [(4, .take 6 (.both [(7, .both [(15, .both [(16, .both [(17, .both [(18, .done)])]), (17, .both [(16, .both [(18, .done)])])]), (17, .both [(15, .both [(16, .both [(18, .done)])])])]), (15, .both [(7, .both [(16, .both [(17, .both [(18, .done)])]), (17, .both [(16, .both [(18, .done)])])]), (17, .both [(7, .both [(16, .both [(18, .done)])])])]), (17, .both [(7, .both [(15, .both [(16, .both [(18, .done)])])]), (15, .both [(7, .both [(16, .both [(18, .done)])])])])])), (15, .both [(4, .take 6 (.both [(7, .both [(16, .both [(17, .both [(18, .done)])]), (17, .both [(16, .both [(18, .done)])])]), (17, .both [(7, .both [(16, .both [(18, .done)])])])])), (17, .both [(4, .take 6 (.both [(7, .both [(16, .both [(18, .done)])])]))])]), (17, .both [(4, .take 6 (.both [(7, .both [(15, .both [(16, .both [(18, .done)])])]), (15, .both [(7, .both [(16, .both [(18, .done)])])])])), (15, .both [(4, .take 6 (.both [(7, .both [(16, .both [(18, .done)])])]))])])])), (17, .both [(4, .take 6 (.both [(7, .both [(12, .take 14 (.both [(15, .both [(16, .both [(18, .done)])])]))]), (12, .take 14 (.both [(7, .both [(15, .both [(16, .both [(18, .done)])])]), (15, .both [(7, .both [(16, .both [(18, .done)])])])]))])), (12, .take 14 (.both [(4, .take 6 (.both [(7, .both [(15, .both [(16, .both [(18, .done)])])]), (15, .both [(7, .both [(16, .both [(18, .done)])])])])), (15, .both [(4, .take 6 (.both [(7, .both [(16, .both [(18, .done)])])]))])]))])]))))))))))) (by kernel_rfl) (by kernel_rfl) ?_ ?_
      · refine zc ?_;try exact trivial
      refine zc ?_;try exact trivial
      refine a_drawC (⟨[V.cell (.ptr (.arg 0) 0), .undef, .undef, V.cell (.ptr (.loc [3]) 0), V.int .i64 0, V.int .i64 (ps.length : Int), V.cell (.ptr (.loc [6]) 0), U, U, U, U, U, U, U, U, U, U, U, U, U, U, U, U, U, U, U, U, U, U, U, U, U, U, U, U, U, U, U, U, U, U, U, U, U, U, U, U, U, U, U, U, U, U, U, U, U, U, U, U, U, U, U, U, U, U, U, U, U, U, U, U, U, U, U, U, U, U, U, U, U, U, U, U, U, U, U, U, U, U, U, U, U, U, U, U, U, U, U, U, U, U, U, U, U, U, U, U, U, U, U, .undef], [(.loc [6], [.val (.int .u16 (U16 (a.getD ps.length 0))), .val (.int .u16 (U16 (b.getD ps.length 0)))]), (.loc [3], evC e), (.arg 0, ctC (.lst .no none 2 (ins code)) cap fuel p0 p1 seed l0 l1 (a.length : Int) (b.length : Int) over winner why opn (.lst (.tag (.cell (.arg 0) 14)) none 1 (ls fU (a))) (.lst (.tag (.cell (.arg 0) 15)) none 1 (ls fU (b))) (.lst (.tag (.cell (.arg 0) 16)) none 2 (prs (ps ++ [(a.getD ps.length 0, b.getD ps.length 0)]))) (sx) (.lst (.tag (.cell (.arg 0) 37)) none 6 (evs events)))]⟩) (.take 0 (.take 1 (.take 2 (.take 3 (.both [(4, .both [(5, .both [(6, .both [(7, .take 8 (.take 9 (.both [(10, .done)])))])])]), (5, .both [(4, .both [(6, .both [(7, .take 8 (.take 9 (.both [(10, .done)])))])]), (6, .both [(4, .both [(7, .take 8 (.take 9 (.both [(10, .done)])))])])])]))))) (by kernel_rfl) (by kernel_rfl) ?_ ?_
      · refine zc ?_;try exact trivial
        all_goals omega
      refine zc ?_;try exact trivial
      refine a_drawC (⟨[V.cell (.ptr (.arg 0) 0), .undef, .undef, V.cell (.ptr (.loc [3]) 0), V.int .i64 0, V.int .i64 (ps.length : Int), V.cell (.ptr (.loc [6]) 0), U, U, U, U, U, U, U, U, U, U, U, U, U, U, U, U, U, U, U, U, U, U, U, U, U, U, U, U, U, U, U, U, U, U, U, U, U, U, U, U, U, U, U, U, U, U, U, U, U, U, U, U, U, U, U, U, U, U, U, U, U, U, U, U, U, U, U, U, U, U, U, U, U, U, U, U, U, U, U, U, U, U, U, U, U, U, U, U, U, U, U, U, U, U, U, U, U, U, U, U, U, U, U, .undef], [(.loc [6], [.val (.int .u16 (U16 (a.getD ps.length 0))), .val (.int .u16 (U16 (b.getD ps.length 0)))]), (.loc [3], evC e), (.arg 0, ctC (.lst .no none 2 (ins code)) cap fuel p0 p1 seed l0 l1 (a.length : Int) (b.length : Int) over winner why opn (.lst (.tag (.cell (.arg 0) 14)) none 1 (ls fU (a))) (.lst (.tag (.cell (.arg 0) 15)) none 1 (ls fU (b))) (.lst (.tag (.cell (.arg 0) 16)) none 2 (prs (ps ++ [(a.getD ps.length 0, b.getD ps.length 0)]))) ((stepP code cap fuel sx (a.getD ps.length 0) (b.getD ps.length 0)).1) (.lst (.tag (.cell (.arg 0) 37)) none 6 (evs events)))]⟩) (.take 0 (.take 1 (.take 2 (.take 3 (.take 5 (.take 6 (.take 7 (.both [(4, .both [(8, .both [(9, .both [(10, .take 11 (.take 12 (.take 13 (.take 14 (.take 15 (.both [(16, .done)]))))))])]), (9, .both [(8, .both [(10, .take 11 (.take 12 (.take 13 (.take 14 (.take 15 (.both [(16, .done)]))))))])])]), (8, .both [(4, .both [(9, .both [(10, .take 11 (.take 12 (.take 13 (.take 14 (.take 15 (.both [(16, .done)]))))))])]), (9, .both [(4, .both [(10, .take 11 (.take 12 (.take 13 (.take 14 (.take 15 (.both [(16, .done)]))))))])])]), (9, .both [(4, .both [(8, .both [(10, .take 11 (.take 12 (.take 13 (.take 14 (.take 15 (.both [(16, .done)]))))))])]), (8, .both [(4, .both [(10, .take 11 (.take 12 (.take 13 (.take 14 (.take 15 (.both [(16, .done)]))))))])])])])))))))) (by kernel_rfl) (by kernel_rfl) ?_ ?_
      · refine zc ?_;try exact trivial
        have hst := step_h code cap fuel sx (a.getD ps.length 0) (b.getD ps.length 0) (by omega) hp2
        refine a_call [] hst ok0 ?_ ?_ ?_
        · refine zs ?_;try exact trivial
        · refine zs ?_;try exact trivial
        rintro _ _ ⟨rfl, rfl⟩
        refine zc ?_;try exact trivial
        all_goals exact leCs_refl _
      refine zc ?_;try exact trivial
      refine ⟨(ps ++ [(a.getD ps.length 0, b.getD ps.length 0)], (stepP code cap fuel sx (a.getD ps.length 0) (b.getD ps.length 0)).1), ?_, ⟨?_, ?_, ?_⟩, ?_⟩
      · simp; omega
      · simp; omega
      · exact step_B32 _ _ _ _ _ _ hp2
      · simp only [List.length_append, List.length_cons, List.length_nil]
        rw [show min a.length b.length - (ps.length + (0 + 1)) = m by omega]
        exact hp3
      try (refine zs ?_; try exact trivial)
    have e0 : cuP code cap fuel a b (min a.length b.length - ps.length) ps sx = (ps, sx) := by
      rw [show min a.length b.length - ps.length = 0 by omega]; rfl
    rw [e0] at hp3
    cases hp3
    refine zs ?_;try exact trivial
    all_goals exact ct_le ⟨leC_refl _, rfl, rfl, rfl, rfl, rfl, rfl, rfl, rfl, rfl, rfl, rfl, rfl, rfl, leC_refl _, leC_refl _, leC_refl _, rfl, leC_refl _⟩
  have ei : inputP0 c e = { c with in1 := c.in1 ++ [e.inp] } := by unfold inputP0; rw [if_neg (show ¬ seatP c e.player = 0 by omega)]
  have hF : inputP c e = goP { c with in1 := c.in1 ++ [e.inp] } := by unfold inputP; rw [ei]
  rw [hF]
  clear hF ei
  obtain ⟨code, cap, fuel, p0, p1, seed, l0, l1, over, winner, why, opn, in0, in1, pairs, st, events⟩ := c
  simp only at h0 h1 hpl hg hB hcl
  rw [q]
  obtain ⟨a, ha⟩ : ∃ a, a = in0 := ⟨_, rfl⟩
  obtain ⟨b, hb⟩ : ∃ b, b = in1 ++ [e.inp] := ⟨_, rfl⟩
  have la : a.length ≤ 1000001 := by rw [ha]; omega
  have lb : b.length ≤ 1000001 := by rw [hb]; simp; omega
  obtain ⟨ps', st', hcu⟩ : ∃ ps' st', cuP code cap fuel a b (min a.length b.length - pairs.length) pairs st = (ps', st') := ⟨_, _, rfl⟩
  have hgo : goP ⟨code, cap, fuel, p0, p1, seed, l0, l1, over, winner, why, opn, in0, in1 ++ [e.inp], pairs, st, events⟩ = ⟨code, cap, fuel, p0, p1, seed, l0, l1, over, winner, why, opn, a, b, ps', st', events⟩ := by
    unfold goP
    simp only [← ha, ← hb, hcu]
  rw [hgo]
  refine zc ?_;try exact trivial
  refine a_drawC (⟨[V.cell (.ptr (.arg 0) 0), .undef, .undef, V.cell (.ptr (.loc [3]) 0), V.int .i64 1, U, U, U, U, U, U, U, U, U, U, U, U, U, U, U, U, U, U, U, U, U, U, U, U, U, U, U, U, U, U, U, U, U, U, U, U, U, U, U, U, U, U, U, U, U, U, U, U, U, U, U, U, U, U, U, U, U, U, U, U, U, U, U, U, U, U, U, U, U, U, U, U, U, U, U, U, U, U, U, U, U, U, U, U, U, U, U, U, U, U, U, U, U, U, U, U, U, U, U, U, U, U, U, U, U, .undef], [(.loc [3], evC e), (.arg 0, ctC (.lst .no none 2 (ins code)) cap fuel p0 p1 seed l0 l1 (in0.length : Int) (in1.length : Int) over winner why opn (.lst (.tag (.cell (.arg 0) 14)) none 1 (ls fU (a))) (.lst (.tag (.cell (.arg 0) 15)) none 1 (ls fU (b))) (.lst (.tag (.cell (.arg 0) 16)) none 2 (prs (pairs))) (st) (.lst (.tag (.cell (.arg 0) 37)) none 6 (evs events)))]⟩) (.take 0 (.take 1 (.take 2 (.take 3 (.take 4 (.take 5 (.take 6 (.take 8 (.take 12 (.take 13 (.both [(7, .both [(9, .both [(10, .both [(11, .take 14 (.both [(15, .done)]))])])]), (9, .both [(7, .both [(10, .both [(11, .take 14 (.both [(15, .done)]))])]), (10, .both [(7, .both [(11, .take 14 (.both [(15, .done)]))])])])]))))))))))) (by kernel_rfl) (by kernel_rfl) ?_ ?_
  · refine zc ?_;try exact trivial
    all_goals (try rw [ha]); all_goals (try rw [hb]); all_goals (try (refine zc ?_; try exact trivial)); all_goals (try omega)
  refine zc ?_;try exact trivial
  refine a_drawC (⟨[V.cell (.ptr (.arg 0) 0), .undef, .undef, V.cell (.ptr (.loc [3]) 0), V.int .i64 1, U, U, U, U, U, U, U, U, U, U, U, U, U, U, U, U, U, U, U, U, U, U, U, U, U, U, U, U, U, U, U, U, U, U, U, U, U, U, U, U, U, U, U, U, U, U, U, U, U, U, U, U, U, U, U, U, U, U, U, U, U, U, U, U, U, U, U, U, U, U, U, U, U, U, U, U, U, U, U, U, U, U, U, U, U, U, U, U, U, U, U, U, U, U, U, U, U, U, U, U, U, U, U, U, U, .undef], [(.loc [3], evC e), (.arg 0, ctC (.lst .no none 2 (ins code)) cap fuel p0 p1 seed l0 l1 (a.length : Int) (b.length : Int) over winner why opn (.lst (.tag (.cell (.arg 0) 14)) none 1 (ls fU (a))) (.lst (.tag (.cell (.arg 0) 15)) none 1 (ls fU (b))) (.lst (.tag (.cell (.arg 0) 16)) none 2 (prs (pairs))) (st) (.lst (.tag (.cell (.arg 0) 37)) none 6 (evs events)))]⟩) (.take 0 (.take 1 (.take 2 (.take 3 (.take 4 (.take 5 (.take 8 (.take 9 (.take 10 (.both [(6, .take 7 (.take 11 (.both [(12, .done)])))])))))))))) (by kernel_rfl) (by kernel_rfl) ?_ ?_
  · refine zc ?_;try exact trivial
    all_goals (try rw [ha]); all_goals (try rw [hb]); all_goals (try (refine zc ?_; try exact trivial)); all_goals (try omega)
  refine zc ?_;try exact trivial
  refine a_loopk (fun x : List (UInt16 × UInt16) × Sta => ⟨[V.cell (.ptr (.arg 0) 0), .undef, .undef, V.cell (.ptr (.loc [3]) 0), V.int .i64 1, V.int .i64 (x.1.length : Int), U, U, U, U, U, U, U, U, U, U, U, U, U, U, U, U, U, U, U, U, U, U, U, U, U, U, U, U, U, U, U, U, U, U, U, U, U, U, U, U, U, U, U, U, U, U, U, U, U, U, U, U, U, U, U, U, U, U, U, U, U, U, U, U, U, U, U, U, U, U, U, U, U, U, U, U, U, U, U, U, U, U, U, U, U, U, U, U, U, U, U, U, U, U, U, U, U, U, U, U, U, U, U, U, .undef], [(.loc [3], evC e), (.arg 0, ctC (.lst .no none 2 (ins code)) cap fuel p0 p1 seed l0 l1 (a.length : Int) (b.length : Int) over winner why opn (.lst (.tag (.cell (.arg 0) 14)) none 1 (ls fU (a))) (.lst (.tag (.cell (.arg 0) 15)) none 1 (ls fU (b))) (.lst (.tag (.cell (.arg 0) 16)) none 2 (prs (x.1))) (x.2) (.lst (.tag (.cell (.arg 0) 37)) none 6 (evs events)))]⟩) (fun x => x.1.length ≤ 1000001 ∧ (∀ y ∈ x.2.cells, B32 y) ∧ cuP code cap fuel a b (min a.length b.length - x.1.length) x.1 x.2 = (ps', st')) (fun x => min a.length b.length - x.1.length) (pairs, st) ⟨by show pairs.length ≤ 1000001; omega, hB, hcu⟩ ?_ ?_
  · try (refine zs ?_; try exact trivial)
  rintro ⟨ps, sx⟩ ⟨hp1, hp2, hp3⟩
  simp only at hp1 hp2 hp3 ⊢
  refine zs ?_;try exact trivial
  refine a_quiet (by kernel_rfl) (by kernel_rfl) (by kernel_rfl) ?_
  cases so : (!sx.over)
  · have so' : sx.over = true := by cases hh : sx.over <;> simp_all
    have e0 : cuP code cap fuel a b (min a.length b.length - ps.length) ps sx = (ps, sx) := by
      cases hm : min a.length b.length - ps.length with
      | zero => rfl
      | succ n => unfold cuP; rw [if_neg (by rw [so']; simp)]
    rw [e0] at hp3
    cases hp3
    simp (maxSteps:=2000000) (disch:=omega) only [go_sem,Nat.reduceAdd,Nat.reduceSub,Nat.reduceMul,Nat.reduceBEq,Nat.reduceEqDiff,Nat.reduceLT,Nat.reduceLeDiff,Nat.reduceDiv,reduceIte,reduceCtorEq, so]
    all_goals exact ct_le ⟨leC_refl _, rfl, rfl, rfl, rfl, rfl, rfl, rfl, rfl, rfl, rfl, rfl, rfl, rfl, leC_refl _, leC_refl _, leC_refl _, rfl, leC_refl _⟩
  simp (maxSteps:=2000000) (disch:=omega) only [go_sem,Nat.reduceAdd,Nat.reduceSub,Nat.reduceMul,Nat.reduceBEq,Nat.reduceEqDiff,Nat.reduceLT,Nat.reduceLeDiff,Nat.reduceDiv,reduceIte,reduceCtorEq, so]
  have so' : sx.over = false := by cases hh : sx.over <;> simp_all
  refine c_dec (fun g => ?_) (fun g => ?_)
  · have hlt : ps.length < min a.length b.length := by omega
    have hpa : ps.length < a.length := by omega
    have hpb : ps.length < b.length := by omega
    obtain ⟨m, hm⟩ : ∃ m, min a.length b.length - ps.length = m + 1 := ⟨min a.length b.length - ps.length - 1, by omega⟩
    rw [hm] at hp3
    unfold cuP at hp3
    rw [if_pos ⟨so', hlt⟩] at hp3
    refine zc ?_;try exact trivial
    refine a_drawC (⟨[V.cell (.ptr (.arg 0) 0), .undef, .undef, V.cell (.ptr (.loc [3]) 0), V.int .i64 1, V.int .i64 (ps.length : Int), V.cell (.ptr (.loc [6]) 0), U, U, U, U, U, U, U, U, U, U, U, U, U, U, U, U, U, U, U, U, U, U, U, U, U, U, U, U, U, U, U, U, U, U, U, U, U, U, U, U, U, U, U, U, U, U, U, U, U, U, U, U, U, U, U, U, U, U, U, U, U, U, U, U, U, U, U, U, U, U, U, U, U, U, U, U, U, U, U, U, U, U, U, U, U, U, U, U, U, U, U, U, U, U, U, U, U, U, U, U, U, U, U, .undef], [(.loc [6], [.val (.int .u16 (U16 (a.getD ps.length 0))), .val (.int .u16 (U16 (b.getD ps.length 0)))]), (.loc [3], evC e), (.arg 0, ctC (.lst .no none 2 (ins code)) cap fuel p0 p1 seed l0 l1 (a.length : Int) (b.length : Int) over winner why opn (.lst (.tag (.cell (.arg 0) 14)) none 1 (ls fU (a))) (.lst (.tag (.cell (.arg 0) 15)) none 1 (ls fU (b))) (.lst (.tag (.cell (.arg 0) 16)) none 2 (prs (ps))) (sx) (.lst (.tag (.cell (.arg 0) 37)) none 6 (evs events)))]⟩) (.take 0 (.take 1 (.take 2 (.take 3 (.take 5 (.take 8 (.take 9 (.take 10 (.take 11 (.take 13 (.both [(4, .take 6 (.both [(7, .both [(12, .take 14 (.both [(15, .both [(16, .both [(17, .both [(18, .done)])]), (17, .both [(16, .both [(18, .done)])])]), (17, .both [(15, .both [(16, .both [(18, .done)])])])])), (17, .both [(12, .take 14 (.both [(15, .both [(16, .both [(18, .done)])])]))])]), (12, .take 14 (.both [(7, .both [(15, .both [(16, .both [(17, .both [(18, .done)])]), (17, .both [(16, .both [(18, .done)])])]), (17, .both [(15, .both [(16, .both [(18, .done)])])])]), (15, .both [(7, .both [(16, .both [(17, .both [(18, .done)])]), (17, .both [(16, .both [(18, .done)])])]), (17, .both [(7, .both [(16, .both [(18, .done)])])])]), (17, .both [(7, .both [(15, .both [(16, .both [(18, .done)])])]), (15, .both [(7, .both [(16, .both [(18, .done)])])])])])), (17, .both [(7, .both [(12, .take 14 (.both [(15, .both [(16, .both [(18, .done)])])]))]), (12, .take 14 (.both [(7, .both [(15, .both [(16, .both [(18, .done)])])]), (15, .both [(7, .both [(16, .both [(18, .done)])])])]))])])), (12, .take 14 (.both [(4, .take 6 (.both [(7, .both [(15, .both [(16, .both [(17, .both [(18, .done)])]), (17, .both [(16, .both [(18, .done)])])]), (17, .both [(15, .both [(16, .both [(18, .done)])])])]), (15, .both [(7, .both [(16, .both [(17, .both [(18, .done)])]), (17, .both [(16, .both [(18, .done)])])]), (17, .both [(7, .both [(16, .both [(18, .done)])])])]), (17, .both [(7, .both [(15, .both [(16, .both [(18, .done)])])]), (15, .both [(7, .both [(16, .both [(18, .done)])])])])])), (15, .both [(4, .take 6 (.both [(7, .both [(16, .both [(17, .both [(18, .done)])]), (17, .both [(16, .both [(18, .done)])])]), (17, .both [(7, .both [(16, .both [(18, .done)])])])])), (17, .both [(4, .take 6 (.both [(7, .both [(16, .both [(18, .done)])])]))])]), (17, .both [(4, .take 6 (.both [(7, .both [(15, .both [(16, .both [(18, .done)])])]), (15, .both [(7, .both [(16, .both [(18, .done)])])])])), (15, .both [(4, .take 6 (.both [(7, .both [(16, .both [(18, .done)])])]))])])])), (17, .both [(4, .take 6 (.both [(7, .both [(12, .take 14 (.both [(15, .both [(16, .both [(18, .done)])])]))]), (12, .take 14 (.both [(7, .both [(15, .both [(16, .both [(18, .done)])])]), (15, .both [(7, .both [(16, .both [(18, .done)])])])]))])), (12, .take 14 (.both [(4, .take 6 (.both [(7, .both [(15, .both [(16, .both [(18, .done)])])]), (15, .both [(7, .both [(16, .both [(18, .done)])])])])), (15, .both [(4, .take 6 (.both [(7, .both [(16, .both [(18, .done)])])]))])]))])]))))))))))) (by kernel_rfl) (by kernel_rfl) ?_ ?_
    · refine zc ?_;try exact trivial
    refine zc ?_;try exact trivial
    refine a_drawC (⟨[V.cell (.ptr (.arg 0) 0), .undef, .undef, V.cell (.ptr (.loc [3]) 0), V.int .i64 1, V.int .i64 (ps.length : Int), V.cell (.ptr (.loc [6]) 0), U, U, U, U, U, U, U, U, U, U, U, U, U, U, U, U, U, U, U, U, U, U, U, U, U, U, U, U, U, U, U, U, U, U, U, U, U, U, U, U, U, U, U, U, U, U, U, U, U, U, U, U, U, U, U, U, U, U, U, U, U, U, U, U, U, U, U, U, U, U, U, U, U, U, U, U, U, U, U, U, U, U, U, U, U, U, U, U, U, U, U, U, U, U, U, U, U, U, U, U, U, U, U, .undef], [(.loc [6], [.val (.int .u16 (U16 (a.getD ps.length 0))), .val (.int .u16 (U16 (b.getD ps.length 0)))]), (.loc [3], evC e), (.arg 0, ctC (.lst .no none 2 (ins code)) cap fuel p0 p1 seed l0 l1 (a.length : Int) (b.length : Int) over winner why opn (.lst (.tag (.cell (.arg 0) 14)) none 1 (ls fU (a))) (.lst (.tag (.cell (.arg 0) 15)) none 1 (ls fU (b))) (.lst (.tag (.cell (.arg 0) 16)) none 2 (prs (ps ++ [(a.getD ps.length 0, b.getD ps.length 0)]))) (sx) (.lst (.tag (.cell (.arg 0) 37)) none 6 (evs events)))]⟩) (.take 0 (.take 1 (.take 2 (.take 3 (.both [(4, .both [(5, .both [(6, .both [(7, .take 8 (.take 9 (.both [(10, .done)])))])])]), (5, .both [(4, .both [(6, .both [(7, .take 8 (.take 9 (.both [(10, .done)])))])]), (6, .both [(4, .both [(7, .take 8 (.take 9 (.both [(10, .done)])))])])])]))))) (by kernel_rfl) (by kernel_rfl) ?_ ?_
    · refine zc ?_;try exact trivial
      all_goals omega
    refine zc ?_;try exact trivial
    refine a_drawC (⟨[V.cell (.ptr (.arg 0) 0), .undef, .undef, V.cell (.ptr (.loc [3]) 0), V.int .i64 1, V.int .i64 (ps.length : Int), V.cell (.ptr (.loc [6]) 0), U, U, U, U, U, U, U, U, U, U, U, U, U, U, U, U, U, U, U, U, U, U, U, U, U, U, U, U, U, U, U, U, U, U, U, U, U, U, U, U, U, U, U, U, U, U, U, U, U, U, U, U, U, U, U, U, U, U, U, U, U, U, U, U, U, U, U, U, U, U, U, U, U, U, U, U, U, U, U, U, U, U, U, U, U, U, U, U, U, U, U, U, U, U, U, U, U, U, U, U, U, U, U, .undef], [(.loc [6], [.val (.int .u16 (U16 (a.getD ps.length 0))), .val (.int .u16 (U16 (b.getD ps.length 0)))]), (.loc [3], evC e), (.arg 0, ctC (.lst .no none 2 (ins code)) cap fuel p0 p1 seed l0 l1 (a.length : Int) (b.length : Int) over winner why opn (.lst (.tag (.cell (.arg 0) 14)) none 1 (ls fU (a))) (.lst (.tag (.cell (.arg 0) 15)) none 1 (ls fU (b))) (.lst (.tag (.cell (.arg 0) 16)) none 2 (prs (ps ++ [(a.getD ps.length 0, b.getD ps.length 0)]))) ((stepP code cap fuel sx (a.getD ps.length 0) (b.getD ps.length 0)).1) (.lst (.tag (.cell (.arg 0) 37)) none 6 (evs events)))]⟩) (.take 0 (.take 1 (.take 2 (.take 3 (.take 5 (.take 6 (.take 7 (.both [(4, .both [(8, .both [(9, .both [(10, .take 11 (.take 12 (.take 13 (.take 14 (.take 15 (.both [(16, .done)]))))))])]), (9, .both [(8, .both [(10, .take 11 (.take 12 (.take 13 (.take 14 (.take 15 (.both [(16, .done)]))))))])])]), (8, .both [(4, .both [(9, .both [(10, .take 11 (.take 12 (.take 13 (.take 14 (.take 15 (.both [(16, .done)]))))))])]), (9, .both [(4, .both [(10, .take 11 (.take 12 (.take 13 (.take 14 (.take 15 (.both [(16, .done)]))))))])])]), (9, .both [(4, .both [(8, .both [(10, .take 11 (.take 12 (.take 13 (.take 14 (.take 15 (.both [(16, .done)]))))))])]), (8, .both [(4, .both [(10, .take 11 (.take 12 (.take 13 (.take 14 (.take 15 (.both [(16, .done)]))))))])])])])))))))) (by kernel_rfl) (by kernel_rfl) ?_ ?_
    · refine zc ?_;try exact trivial
      have hst := step_h code cap fuel sx (a.getD ps.length 0) (b.getD ps.length 0) (by omega) hp2
      refine a_call [] hst ok0 ?_ ?_ ?_
      · refine zs ?_;try exact trivial
      · refine zs ?_;try exact trivial
      rintro _ _ ⟨rfl, rfl⟩
      refine zc ?_;try exact trivial
      all_goals exact leCs_refl _
    refine zc ?_;try exact trivial
    refine ⟨(ps ++ [(a.getD ps.length 0, b.getD ps.length 0)], (stepP code cap fuel sx (a.getD ps.length 0) (b.getD ps.length 0)).1), ?_, ⟨?_, ?_, ?_⟩, ?_⟩
    · simp; omega
    · simp; omega
    · exact step_B32 _ _ _ _ _ _ hp2
    · simp only [List.length_append, List.length_cons, List.length_nil]
      rw [show min a.length b.length - (ps.length + (0 + 1)) = m by omega]
      exact hp3
    try (refine zs ?_; try exact trivial)
  have e0 : cuP code cap fuel a b (min a.length b.length - ps.length) ps sx = (ps, sx) := by
    rw [show min a.length b.length - ps.length = 0 by omega]; rfl
  rw [e0] at hp3
  cases hp3
  refine zs ?_;try exact trivial
  all_goals exact ct_le ⟨leC_refl _, rfl, rfl, rfl, rfl, rfl, rfl, rfl, rfl, rfl, rfl, rfl, rfl, rfl, leC_refl _, leC_refl _, leC_refl _, rfl, leC_refl _⟩
end
section
def openP (c : Ct) (e : Ev) : Ct := { c with opn := true, p0 := e.player, p1 := e.other, seed := UInt32.ofNat e.n.toNat, st := startS (UInt32.ofNat e.n.toNat) }
attribute [-go_sem] e_both in
set_option maxHeartbeats 16000000 in
theorem open_h (c : Ct) (e : Ev) (hn : 0 ≤ e.n ∧ e.n ≤ 4294967295) : Holds Tryz.prog 42 [.ptr (.arg 0) 0, .ev e] [(.arg 0, ctB (.arg 0) c)] (fun r h' => r = .tup [] ∧ h' = [(.arg 0, ctB (.arg 0) (openP c e))]) := by
  have hU : ∀ z : Int, 0 ≤ z ∧ z ≤ 4294967295 → U32 (UInt32.ofNat z.toNat) = z := fun z hz => by unfold U32; rw [UInt32.toNat_ofNat']; omega
  have e0 := hU e.n hn
  refine holds_of_awp Tryz.func42 rfl (by decide +kernel) mixed Tryz.ntmps42 Tryz.results42 ?_
  refine zE ?_
  refine zs ?_;try exact trivial
  refine a_drawC (⟨[V.cell (.ptr (.arg 0) 0), U, U, U, U, U, U, U, U, U, U, U, U, U, U, U, U, U, U, U, U, U, U, U, U, U, U, U, U, U, U, U, .undef], [(.arg 0, ctB (.arg 0) { c with opn := true, p0 := e.player, p1 := e.other, seed := UInt32.ofNat e.n.toNat })]⟩) (.take 0 (.take 1 (.take 2 (.take 3 (.take 5 (.take 8 (.take 11 (.take 12 (.take 13 (.both [(4, .both [(6, .both [(7, .both [(9, .take 10 (.both [(14, .take 15 (.take 16 (.take 17 (.both [(18, .take 19 (.take 20 (.take 21 (.both [(22, .done)]))))]))))])), (14, .take 15 (.take 16 (.take 17 (.both [(9, .take 10 (.both [(18, .take 19 (.take 20 (.take 21 (.both [(22, .done)]))))])), (18, .both [(9, .take 10 (.take 19 (.take 20 (.take 21 (.both [(22, .done)])))))])]))))]), (9, .take 10 (.both [(7, .both [(14, .take 15 (.take 16 (.take 17 (.both [(18, .take 19 (.take 20 (.take 21 (.both [(22, .done)]))))]))))]), (14, .both [(7, .take 15 (.take 16 (.take 17 (.both [(18, .take 19 (.take 20 (.take 21 (.both [(22, .done)]))))]))))])])), (14, .both [(7, .take 15 (.take 16 (.take 17 (.both [(9, .take 10 (.both [(18, .take 19 (.take 20 (.take 21 (.both [(22, .done)]))))])), (18, .both [(9, .take 10 (.take 19 (.take 20 (.take 21 (.both [(22, .done)])))))])])))), (9, .take 10 (.both [(7, .take 15 (.take 16 (.take 17 (.both [(18, .take 19 (.take 20 (.take 21 (.both [(22, .done)]))))]))))]))])]), (9, .take 10 (.both [(6, .both [(7, .both [(14, .take 15 (.take 16 (.take 17 (.both [(18, .take 19 (.take 20 (.take 21 (.both [(22, .done)]))))]))))]), (14, .both [(7, .take 15 (.take 16 (.take 17 (.both [(18, .take 19 (.take 20 (.take 21 (.both [(22, .done)]))))]))))])]), (14, .both [(6, .both [(7, .take 15 (.take 16 (.take 17 (.both [(18, .take 19 (.take 20 (.take 21 (.both [(22, .done)]))))]))))])])])), (14, .both [(6, .both [(7, .take 15 (.take 16 (.take 17 (.both [(9, .take 10 (.both [(18, .take 19 (.take 20 (.take 21 (.both [(22, .done)]))))])), (18, .both [(9, .take 10 (.take 19 (.take 20 (.take 21 (.both [(22, .done)])))))])])))), (9, .take 10 (.both [(7, .take 15 (.take 16 (.take 17 (.both [(18, .take 19 (.take 20 (.take 21 (.both [(22, .done)]))))]))))]))]), (9, .take 10 (.both [(6, .both [(7, .take 15 (.take 16 (.take 17 (.both [(18, .take 19 (.take 20 (.take 21 (.both [(22, .done)]))))]))))])]))])]), (6, .both [(4, .both [(7, .both [(9, .take 10 (.both [(14, .take 15 (.take 16 (.take 17 (.both [(18, .take 19 (.take 20 (.take 21 (.both [(22, .done)]))))]))))])), (14, .take 15 (.take 16 (.take 17 (.both [(9, .take 10 (.both [(18, .take 19 (.take 20 (.take 21 (.both [(22, .done)]))))])), (18, .both [(9, .take 10 (.take 19 (.take 20 (.take 21 (.both [(22, .done)])))))])]))))]), (9, .take 10 (.both [(7, .both [(14, .take 15 (.take 16 (.take 17 (.both [(18, .take 19 (.take 20 (.take 21 (.both [(22, .done)]))))]))))]), (14, .both [(7, .take 15 (.take 16 (.take 17 (.both [(18, .take 19 (.take 20 (.take 21 (.both [(22, .done)]))))]))))])])), (14, .both [(7, .take 15 (.take 16 (.take 17 (.both [(9, .take 10 (.both [(18, .take 19 (.take 20 (.take 21 (.both [(22, .done)]))))])), (18, .both [(9, .take 10 (.take 19 (.take 20 (.take 21 (.both [(22, .done)])))))])])))), (9, .take 10 (.both [(7, .take 15 (.take 16 (.take 17 (.both [(18, .take 19 (.take 20 (.take 21 (.both [(22, .done)]))))]))))]))])]), (9, .take 10 (.both [(4, .both [(7, .both [(14, .take 15 (.take 16 (.take 17 (.both [(18, .take 19 (.take 20 (.take 21 (.both [(22, .done)]))))]))))]), (14, .both [(7, .take 15 (.take 16 (.take 17 (.both [(18, .take 19 (.take 20 (.take 21 (.both [(22, .done)]))))]))))])]), (14, .both [(4, .both [(7, .take 15 (.take 16 (.take 17 (.both [(18, .take 19 (.take 20 (.take 21 (.both [(22, .done)]))))]))))])])])), (14, .both [(4, .both [(7, .take 15 (.take 16 (.take 17 (.both [(9, .take 10 (.both [(18, .take 19 (.take 20 (.take 21 (.both [(22, .done)]))))])), (18, .both [(9, .take 10 (.take 19 (.take 20 (.take 21 (.both [(22, .done)])))))])])))), (9, .take 10 (.both [(7, .take 15 (.take 16 (.take 17 (.both [(18, .take 19 (.take 20 (.take 21 (.both [(22, .done)]))))]))))]))]), (9, .take 10 (.both [(4, .both [(7, .take 15 (.take 16 (.take 17 (.both [(18, .take 19 (.take 20 (.take 21 (.both [(22, .done)]))))]))))])]))])]), (9, .take 10 (.both [(4, .both [(6, .both [(7, .both [(14, .take 15 (.take 16 (.take 17 (.both [(18, .take 19 (.take 20 (.take 21 (.both [(22, .done)]))))]))))]), (14, .both [(7, .take 15 (.take 16 (.take 17 (.both [(18, .take 19 (.take 20 (.take 21 (.both [(22, .done)]))))]))))])]), (14, .both [(6, .both [(7, .take 15 (.take 16 (.take 17 (.both [(18, .take 19 (.take 20 (.take 21 (.both [(22, .done)]))))]))))])])]), (6, .both [(4, .both [(7, .both [(14, .take 15 (.take 16 (.take 17 (.both [(18, .take 19 (.take 20 (.take 21 (.both [(22, .done)]))))]))))]), (14, .both [(7, .take 15 (.take 16 (.take 17 (.both [(18, .take 19 (.take 20 (.take 21 (.both [(22, .done)]))))]))))])]), (14, .both [(4, .both [(7, .take 15 (.take 16 (.take 17 (.both [(18, .take 19 (.take 20 (.take 21 (.both [(22, .done)]))))]))))])])]), (14, .both [(4, .both [(6, .both [(7, .take 15 (.take 16 (.take 17 (.both [(18, .take 19 (.take 20 (.take 21 (.both [(22, .done)]))))]))))])]), (6, .both [(4, .both [(7, .take 15 (.take 16 (.take 17 (.both [(18, .take 19 (.take 20 (.take 21 (.both [(22, .done)]))))]))))])])])])), (14, .both [(4, .both [(6, .both [(7, .take 15 (.take 16 (.take 17 (.both [(9, .take 10 (.both [(18, .take 19 (.take 20 (.take 21 (.both [(22, .done)]))))])), (18, .both [(9, .take 10 (.take 19 (.take 20 (.take 21 (.both [(22, .done)])))))])])))), (9, .take 10 (.both [(7, .take 15 (.take 16 (.take 17 (.both [(18, .take 19 (.take 20 (.take 21 (.both [(22, .done)]))))]))))]))]), (9, .take 10 (.both [(6, .both [(7, .take 15 (.take 16 (.take 17 (.both [(18, .take 19 (.take 20 (.take 21 (.both [(22, .done)]))))]))))])]))]), (6, .both [(4, .both [(7, .take 15 (.take 16 (.take 17 (.both [(9, .take 10 (.both [(18, .take 19 (.take 20 (.take 21 (.both [(22, .done)]))))])), (18, .both [(9, .take 10 (.take 19 (.take 20 (.take 21 (.both [(22, .done)])))))])])))), (9, .take 10 (.both [(7, .take 15 (.take 16 (.take 17 (.both [(18, .take 19 (.take 20 (.take 21 (.both [(22, .done)]))))]))))]))]), (9, .take 10 (.both [(4, .both [(7, .take 15 (.take 16 (.take 17 (.both [(18, .take 19 (.take 20 (.take 21 (.both [(22, .done)]))))]))))])]))]), (9, .take 10 (.both [(4, .both [(6, .both [(7, .take 15 (.take 16 (.take 17 (.both [(18, .take 19 (.take 20 (.take 21 (.both [(22, .done)]))))]))))])]), (6, .both [(4, .both [(7, .take 15 (.take 16 (.take 17 (.both [(18, .take 19 (.take 20 (.take 21 (.both [(22, .done)]))))]))))])])]))])])))))))))) (by kernel_rfl) (by kernel_rfl) ?_ ?_
  · refine zs ?_;try exact trivial
    iterate 9
      all_goals first
        | done
        | (simp only [e_both]
           refine zs ?_;try exact trivial
           repeat' (with_reducible apply And.intro))
        | skip
  refine zc ?_;try exact trivial
  refine a_call [] (start_h (UInt32.ofNat e.n.toNat)) ok0 ?_ ?_ ?_
  · refine zs ?_;try exact trivial
  · refine zs ?_;try exact trivial
  rintro _ _ ⟨rfl, rfl⟩
  refine zc ?_;try exact trivial
  exact ct_le ⟨leC_refl _, rfl, rfl, rfl, rfl, rfl, rfl, rfl, rfl, rfl, rfl, rfl, rfl, rfl, leC_refl _, leC_refl _, leC_refl _, rfl, leC_refl _⟩
end
end Go.Proofs.YtamcjecgkfmjkaaGreat
