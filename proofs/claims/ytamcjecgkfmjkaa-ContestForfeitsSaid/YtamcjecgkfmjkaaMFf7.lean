/- Parts of a proof: Chapter 18: an event is taken. (written by gen18h.py), Chapter 18: who is waited for, Chapter 18: how a match goes on, input by input, Chapter 18: a match that has begun, The law ContestForfeits in the logic, The row of the law gauntletlaw18.ContestForfeits. -/
import Derived.Test.YtamcjecgkfmjkaaMFf6
import Derived.Test.YtamcjecgkfmjkaaMFf4
/- Chapter 18: an event is taken. (written by gen18h.py) -/
open Go Go.RowKit
namespace Go.Proofs.Ytamcjecgkfmjkaa
set_option linter.unusedSimpArgs false
set_option linter.unusedVariables false
@[go_sem 1200] theorem evs_app {l : List Ev} {a b c d f : Int} {x : UInt16} : evs l ++ [.val (.int .i64 a), .val (.int .i64 b), .val (.int .i64 c), .val (.int .i64 d), .val (.int .u16 (U16 x)), .val (.int .i64 f)] = evs (l ++ [⟨a, b, c, d, x, f⟩]) := by
  simp [evs, evD]
def Ct.add (c : Ct) (e : Ev) : Ct := { c with events := c.events ++ [e] }
theorem applyN1_h (c : Ct) (player other frame n : Int) (inp : UInt16) (hm : mayP18 c ⟨1, player, other, frame, inp, n⟩ ≠ 0) : Holds Try.prog 13 [.ptr (.arg 0) 0, .ev ⟨1, player, other, frame, inp, n⟩] [(.arg 0, ctB (.arg 0) c)] (fun r h' => r = .int .i64 (mayP18 c ⟨1, player, other, frame, inp, n⟩) ∧ h' = [(.arg 0, ctB (.arg 0) c)]) := by
  refine holds_of_awp Try.func13 rfl (by decide +kernel) mixed Try.ntmps13 Try.results13 ?_
  simp only [entrySt, List.map_cons, List.map_nil, List.length_cons, List.length_nil, Nat.reduceAdd, Nat.reduceSub, List.replicate_succ, List.replicate_zero, List.cons_append, List.nil_append]
  simp (maxSteps := 2000000) (disch := omega) only [go_sem, Nat.reduceAdd, Nat.reduceSub, Nat.reduceMul, Nat.reduceBEq, Nat.reduceEqDiff, Nat.reduceLT, Nat.reduceLeDiff, Nat.reduceDiv, reduceIte, reduceCtorEq]
  refine a_call [.arg 0] (may1_h c player other frame n inp) (ok1 rfl) ?_ ?_ ?_
  · simp (maxSteps := 2000000) (disch := omega) only [go_sem, Nat.reduceAdd, Nat.reduceSub, Nat.reduceMul, Nat.reduceBEq, Nat.reduceEqDiff, Nat.reduceLT, Nat.reduceLeDiff, Nat.reduceDiv, reduceIte, reduceCtorEq]
  · simp (maxSteps := 2000000) (disch := omega) only [go_sem, Nat.reduceAdd, Nat.reduceSub, Nat.reduceMul, Nat.reduceBEq, Nat.reduceEqDiff, Nat.reduceLT, Nat.reduceLeDiff, Nat.reduceDiv, reduceIte, reduceCtorEq]
  rintro _ _ ⟨rfl, rfl⟩
  simp (maxSteps := 2000000) (disch := omega) only [go_sem, Nat.reduceAdd, Nat.reduceSub, Nat.reduceMul, Nat.reduceBEq, Nat.reduceEqDiff, Nat.reduceLT, Nat.reduceLeDiff, Nat.reduceDiv, reduceIte, reduceCtorEq]
  refine c_dec (fun h => ?_) (fun h => ?_)
  · simp (maxSteps := 2000000) (disch := omega) only [go_sem, Nat.reduceAdd, Nat.reduceSub, Nat.reduceMul, Nat.reduceBEq, Nat.reduceEqDiff, Nat.reduceLT, Nat.reduceLeDiff, Nat.reduceDiv, reduceIte, reduceCtorEq]
  · exact (h hm).elim
set_option maxHeartbeats 4000000 in
theorem applyY1_h (c c' : Ct) (player other frame n : Int) (inp : UInt16) (hm : mayP18 c ⟨1, player, other, frame, inp, n⟩ = 0) (hl : c'.events.length ≤ 1000000)
    (hd : Holds Try.prog 37 [.ptr (.arg 0) 0, .ev ⟨1, player, other, frame, inp, n⟩] [(.arg 0, ctB (.arg 0) c)] (fun r h' => r = .tup [] ∧ h' = [(.arg 0, ctB (.arg 0) c')])) :
    Holds Try.prog 13 [.ptr (.arg 0) 0, .ev ⟨1, player, other, frame, inp, n⟩] [(.arg 0, ctB (.arg 0) c)] (fun r h' => r = .int .i64 0 ∧ h' = [(.arg 0, ctB (.arg 0) (c'.add ⟨1, player, other, frame, inp, n⟩))]) := by
  refine holds_of_awp Try.func13 rfl (by decide +kernel) mixed Try.ntmps13 Try.results13 ?_
  simp only [entrySt, List.map_cons, List.map_nil, List.length_cons, List.length_nil, Nat.reduceAdd, Nat.reduceSub, List.replicate_succ, List.replicate_zero, List.cons_append, List.nil_append]
  simp (maxSteps := 2000000) (disch := omega) only [go_sem, Nat.reduceAdd, Nat.reduceSub, Nat.reduceMul, Nat.reduceBEq, Nat.reduceEqDiff, Nat.reduceLT, Nat.reduceLeDiff, Nat.reduceDiv, reduceIte, reduceCtorEq]
  refine a_call [.arg 0] (may1_h c player other frame n inp) (ok1 rfl) ?_ ?_ ?_
  · simp (maxSteps := 2000000) (disch := omega) only [go_sem, Nat.reduceAdd, Nat.reduceSub, Nat.reduceMul, Nat.reduceBEq, Nat.reduceEqDiff, Nat.reduceLT, Nat.reduceLeDiff, Nat.reduceDiv, reduceIte, reduceCtorEq]
  · simp (maxSteps := 2000000) (disch := omega) only [go_sem, Nat.reduceAdd, Nat.reduceSub, Nat.reduceMul, Nat.reduceBEq, Nat.reduceEqDiff, Nat.reduceLT, Nat.reduceLeDiff, Nat.reduceDiv, reduceIte, reduceCtorEq]
  rintro _ _ ⟨rfl, rfl⟩
  rw [hm]
  simp (maxSteps := 2000000) (disch := omega) only [go_sem, Nat.reduceAdd, Nat.reduceSub, Nat.reduceMul, Nat.reduceBEq, Nat.reduceEqDiff, Nat.reduceLT, Nat.reduceLeDiff, Nat.reduceDiv, reduceIte, reduceCtorEq, Int.reduceLT, Int.reduceLE, Int.reduceEq, Int.reduceNe, Int.reduceAdd, Int.reduceSub, Int.reduceMul, Int.reduceNeg, Int.reduceDiv, Int.reduceMod, Int.reduceTMod, Int.reduceTDiv, Int.reduceFDiv, Int.reducePow, Int.reduceToNat, U64n, BitVec.reduceOfInt, BitVec.reduceAnd, BitVec.reduceToNat, bits_u64, bits_i64]
  refine a_drawC (⟨[V.cell (.ptr (.arg 0) 0), .undef, .undef, V.cell (.ptr (.loc [3]) 0), .undef, .undef, .undef, .undef, .undef, .undef, .undef, .undef, .undef, .undef, .undef, .undef, .undef, .undef, .undef, .undef, .undef, .undef, .undef, .undef, .undef, .undef, .undef, .undef, .undef, .undef], [(.loc [3], evC ⟨1, player, other, frame, inp, n⟩), (.arg 0, ctB (.arg 0) c')]⟩) (.take 1 (.take 5 (.both [(0, .both [(2, .take 3 (.take 4 (.both [(6, .both [(7, .done)])]))), (6, .both [(2, .take 3 (.take 4 (.both [(7, .done)])))])]), (2, .both [(0, .take 3 (.take 4 (.both [(6, .both [(7, .done)])]))), (6, .both [(0, .take 3 (.take 4 (.both [(7, .done)])))])]), (6, .both [(0, .both [(2, .take 3 (.take 4 (.both [(7, .done)])))]), (2, .both [(0, .take 3 (.take 4 (.both [(7, .done)])))])])]))) (by kernel_rfl) (by kernel_rfl) ?_ ?_
  · simp (maxSteps := 2000000) (disch := omega) only [go_sem, Nat.reduceAdd, Nat.reduceSub, Nat.reduceMul, Nat.reduceBEq, Nat.reduceEqDiff, Nat.reduceLT, Nat.reduceLeDiff, Nat.reduceDiv, reduceIte, reduceCtorEq, Int.reduceLT, Int.reduceLE, Int.reduceEq, Int.reduceNe, Int.reduceAdd, Int.reduceSub, Int.reduceMul, Int.reduceNeg, Int.reduceDiv, Int.reduceMod, Int.reduceTMod, Int.reduceTDiv, Int.reduceFDiv, Int.reducePow, Int.reduceToNat, U64n, BitVec.reduceOfInt, BitVec.reduceAnd, BitVec.reduceToNat, bits_u64, bits_i64]
    repeat' (with_reducible apply And.intro)
    all_goals (
      refine a_call [] (hows_h) ok0 ?_ ?_ ?_
      · simp (maxSteps := 2000000) (disch := omega) only [go_sem, Nat.reduceAdd, Nat.reduceSub, Nat.reduceMul, Nat.reduceBEq, Nat.reduceEqDiff, Nat.reduceLT, Nat.reduceLeDiff, Nat.reduceDiv, reduceIte, reduceCtorEq]
      · simp (maxSteps := 2000000) (disch := omega) only [go_sem, Nat.reduceAdd, Nat.reduceSub, Nat.reduceMul, Nat.reduceBEq, Nat.reduceEqDiff, Nat.reduceLT, Nat.reduceLeDiff, Nat.reduceDiv, reduceIte, reduceCtorEq]
      rintro _ _ ⟨rfl, rfl⟩
      simp (maxSteps := 2000000) (disch := omega) only [go_sem, Nat.reduceAdd, Nat.reduceSub, Nat.reduceMul, Nat.reduceBEq, Nat.reduceEqDiff, Nat.reduceLT, Nat.reduceLeDiff, Nat.reduceDiv, reduceIte, reduceCtorEq, Int.reduceLT, Int.reduceLE, Int.reduceEq, Int.reduceNe, Int.reduceAdd, Int.reduceSub, Int.reduceMul, Int.reduceNeg, Int.reduceDiv, Int.reduceMod, Int.reduceTMod, Int.reduceTDiv, Int.reduceFDiv, Int.reducePow, Int.reduceToNat, U64n, BitVec.reduceOfInt, BitVec.reduceAnd, BitVec.reduceToNat, bits_u64, bits_i64]
      refine a_call [.arg 0] (hd) (ok1 rfl) ?_ ?_ ?_
      · simp (maxSteps := 2000000) (disch := omega) only [go_sem, Nat.reduceAdd, Nat.reduceSub, Nat.reduceMul, Nat.reduceBEq, Nat.reduceEqDiff, Nat.reduceLT, Nat.reduceLeDiff, Nat.reduceDiv, reduceIte, reduceCtorEq]
      · simp (maxSteps := 2000000) (disch := omega) only [go_sem, Nat.reduceAdd, Nat.reduceSub, Nat.reduceMul, Nat.reduceBEq, Nat.reduceEqDiff, Nat.reduceLT, Nat.reduceLeDiff, Nat.reduceDiv, reduceIte, reduceCtorEq]
      rintro _ _ ⟨rfl, rfl⟩
      simp (maxSteps := 2000000) (disch := omega) only [go_sem, Nat.reduceAdd, Nat.reduceSub, Nat.reduceMul, Nat.reduceBEq, Nat.reduceEqDiff, Nat.reduceLT, Nat.reduceLeDiff, Nat.reduceDiv, reduceIte, reduceCtorEq, Int.reduceLT, Int.reduceLE, Int.reduceEq, Int.reduceNe, Int.reduceAdd, Int.reduceSub, Int.reduceMul, Int.reduceNeg, Int.reduceDiv, Int.reduceMod, Int.reduceTMod, Int.reduceTDiv, Int.reduceFDiv, Int.reducePow, Int.reduceToNat, U64n, BitVec.reduceOfInt, BitVec.reduceAnd, BitVec.reduceToNat, bits_u64, bits_i64])
  · simp (maxSteps := 2000000) (disch := omega) only [go_sem, Nat.reduceAdd, Nat.reduceSub, Nat.reduceMul, Nat.reduceBEq, Nat.reduceEqDiff, Nat.reduceLT, Nat.reduceLeDiff, Nat.reduceDiv, reduceIte, reduceCtorEq, Int.reduceLT, Int.reduceLE, Int.reduceEq, Int.reduceNe, Int.reduceAdd, Int.reduceSub, Int.reduceMul, Int.reduceNeg, Int.reduceDiv, Int.reduceMod, Int.reduceTMod, Int.reduceTDiv, Int.reduceFDiv, Int.reducePow, Int.reduceToNat, U64n, BitVec.reduceOfInt, BitVec.reduceAnd, BitVec.reduceToNat, bits_u64, bits_i64]
    refine a_drawC (⟨[.undef, .undef, .undef, .undef, .undef, .undef, .undef, .undef, .undef, .undef, .undef, .undef, .undef, .undef, .undef, .undef, .undef, .undef, .undef, .undef, .undef, .undef, .undef, .undef, .undef, .undef, .undef, .undef, .undef, .undef], [(.arg 0, ctB (.arg 0) (c'.add ⟨1, player, other, frame, inp, n⟩))]⟩) (.take 0 (.take 1 (.take 2 (.take 3 (.both [(4, .both [(5, .both [(6, .both [(7, .take 8 (.take 9 (.both [(10, .done)])))])])]), (5, .both [(4, .both [(6, .both [(7, .take 8 (.take 9 (.both [(10, .done)])))])]), (6, .both [(4, .both [(7, .take 8 (.take 9 (.both [(10, .done)])))])])])]))))) (by kernel_rfl) (by kernel_rfl) ?_ ?_
    · simp (maxSteps := 2000000) (disch := omega) only [go_sem, Nat.reduceAdd, Nat.reduceSub, Nat.reduceMul, Nat.reduceBEq, Nat.reduceEqDiff, Nat.reduceLT, Nat.reduceLeDiff, Nat.reduceDiv, reduceIte, reduceCtorEq, Int.reduceLT, Int.reduceLE, Int.reduceEq, Int.reduceNe, Int.reduceAdd, Int.reduceSub, Int.reduceMul, Int.reduceNeg, Int.reduceDiv, Int.reduceMod, Int.reduceTMod, Int.reduceTDiv, Int.reduceFDiv, Int.reducePow, Int.reduceToNat, U64n, BitVec.reduceOfInt, BitVec.reduceAnd, BitVec.reduceToNat, bits_u64, bits_i64]
      repeat' (with_reducible apply And.intro)
      all_goals first | omega | exact leCs_refl _
    · simp (maxSteps := 2000000) (disch := omega) only [go_sem, Nat.reduceAdd, Nat.reduceSub, Nat.reduceMul, Nat.reduceBEq, Nat.reduceEqDiff, Nat.reduceLT, Nat.reduceLeDiff, Nat.reduceDiv, reduceIte, reduceCtorEq, Int.reduceLT, Int.reduceLE, Int.reduceEq, Int.reduceNe, Int.reduceAdd, Int.reduceSub, Int.reduceMul, Int.reduceNeg, Int.reduceDiv, Int.reduceMod, Int.reduceTMod, Int.reduceTDiv, Int.reduceFDiv, Int.reducePow, Int.reduceToNat, U64n, BitVec.reduceOfInt, BitVec.reduceAnd, BitVec.reduceToNat, bits_u64, bits_i64]
theorem applyN2_h (c : Ct) (player other frame n : Int) (inp : UInt16) (hm : mayP18 c ⟨2, player, other, frame, inp, n⟩ ≠ 0) : Holds Try.prog 13 [.ptr (.arg 0) 0, .ev ⟨2, player, other, frame, inp, n⟩] [(.arg 0, ctB (.arg 0) c)] (fun r h' => r = .int .i64 (mayP18 c ⟨2, player, other, frame, inp, n⟩) ∧ h' = [(.arg 0, ctB (.arg 0) c)]) := by
  refine holds_of_awp Try.func13 rfl (by decide +kernel) mixed Try.ntmps13 Try.results13 ?_
  simp only [entrySt, List.map_cons, List.map_nil, List.length_cons, List.length_nil, Nat.reduceAdd, Nat.reduceSub, List.replicate_succ, List.replicate_zero, List.cons_append, List.nil_append]
  simp (maxSteps := 2000000) (disch := omega) only [go_sem, Nat.reduceAdd, Nat.reduceSub, Nat.reduceMul, Nat.reduceBEq, Nat.reduceEqDiff, Nat.reduceLT, Nat.reduceLeDiff, Nat.reduceDiv, reduceIte, reduceCtorEq]
  refine a_call [.arg 0] (may2_h c player other frame n inp) (ok1 rfl) ?_ ?_ ?_
  · simp (maxSteps := 2000000) (disch := omega) only [go_sem, Nat.reduceAdd, Nat.reduceSub, Nat.reduceMul, Nat.reduceBEq, Nat.reduceEqDiff, Nat.reduceLT, Nat.reduceLeDiff, Nat.reduceDiv, reduceIte, reduceCtorEq]
  · simp (maxSteps := 2000000) (disch := omega) only [go_sem, Nat.reduceAdd, Nat.reduceSub, Nat.reduceMul, Nat.reduceBEq, Nat.reduceEqDiff, Nat.reduceLT, Nat.reduceLeDiff, Nat.reduceDiv, reduceIte, reduceCtorEq]
  rintro _ _ ⟨rfl, rfl⟩
  simp (maxSteps := 2000000) (disch := omega) only [go_sem, Nat.reduceAdd, Nat.reduceSub, Nat.reduceMul, Nat.reduceBEq, Nat.reduceEqDiff, Nat.reduceLT, Nat.reduceLeDiff, Nat.reduceDiv, reduceIte, reduceCtorEq]
  refine c_dec (fun h => ?_) (fun h => ?_)
  · simp (maxSteps := 2000000) (disch := omega) only [go_sem, Nat.reduceAdd, Nat.reduceSub, Nat.reduceMul, Nat.reduceBEq, Nat.reduceEqDiff, Nat.reduceLT, Nat.reduceLeDiff, Nat.reduceDiv, reduceIte, reduceCtorEq]
  · exact (h hm).elim
set_option maxHeartbeats 4000000 in
theorem applyY2_h (c c' : Ct) (player other frame n : Int) (inp : UInt16) (hm : mayP18 c ⟨2, player, other, frame, inp, n⟩ = 0) (hl : c'.events.length ≤ 1000000)
    (hd : Holds Try.prog 40 [.ptr (.arg 0) 0, .ev ⟨2, player, other, frame, inp, n⟩] [(.arg 0, ctB (.arg 0) c)] (fun r h' => r = .tup [] ∧ h' = [(.arg 0, ctB (.arg 0) c')])) :
    Holds Try.prog 13 [.ptr (.arg 0) 0, .ev ⟨2, player, other, frame, inp, n⟩] [(.arg 0, ctB (.arg 0) c)] (fun r h' => r = .int .i64 0 ∧ h' = [(.arg 0, ctB (.arg 0) (c'.add ⟨2, player, other, frame, inp, n⟩))]) := by
  refine holds_of_awp Try.func13 rfl (by decide +kernel) mixed Try.ntmps13 Try.results13 ?_
  simp only [entrySt, List.map_cons, List.map_nil, List.length_cons, List.length_nil, Nat.reduceAdd, Nat.reduceSub, List.replicate_succ, List.replicate_zero, List.cons_append, List.nil_append]
  simp (maxSteps := 2000000) (disch := omega) only [go_sem, Nat.reduceAdd, Nat.reduceSub, Nat.reduceMul, Nat.reduceBEq, Nat.reduceEqDiff, Nat.reduceLT, Nat.reduceLeDiff, Nat.reduceDiv, reduceIte, reduceCtorEq]
  refine a_call [.arg 0] (may2_h c player other frame n inp) (ok1 rfl) ?_ ?_ ?_
  · simp (maxSteps := 2000000) (disch := omega) only [go_sem, Nat.reduceAdd, Nat.reduceSub, Nat.reduceMul, Nat.reduceBEq, Nat.reduceEqDiff, Nat.reduceLT, Nat.reduceLeDiff, Nat.reduceDiv, reduceIte, reduceCtorEq]
  · simp (maxSteps := 2000000) (disch := omega) only [go_sem, Nat.reduceAdd, Nat.reduceSub, Nat.reduceMul, Nat.reduceBEq, Nat.reduceEqDiff, Nat.reduceLT, Nat.reduceLeDiff, Nat.reduceDiv, reduceIte, reduceCtorEq]
  rintro _ _ ⟨rfl, rfl⟩
  rw [hm]
  simp (maxSteps := 2000000) (disch := omega) only [go_sem, Nat.reduceAdd, Nat.reduceSub, Nat.reduceMul, Nat.reduceBEq, Nat.reduceEqDiff, Nat.reduceLT, Nat.reduceLeDiff, Nat.reduceDiv, reduceIte, reduceCtorEq, Int.reduceLT, Int.reduceLE, Int.reduceEq, Int.reduceNe, Int.reduceAdd, Int.reduceSub, Int.reduceMul, Int.reduceNeg, Int.reduceDiv, Int.reduceMod, Int.reduceTMod, Int.reduceTDiv, Int.reduceFDiv, Int.reducePow, Int.reduceToNat, U64n, BitVec.reduceOfInt, BitVec.reduceAnd, BitVec.reduceToNat, bits_u64, bits_i64]
  refine a_drawC (⟨[V.cell (.ptr (.arg 0) 0), .undef, .undef, V.cell (.ptr (.loc [3]) 0), .undef, .undef, .undef, .undef, .undef, .undef, .undef, .undef, .undef, .undef, .undef, .undef, .undef, .undef, .undef, .undef, .undef, .undef, .undef, .undef, .undef, .undef, .undef, .undef, .undef, .undef], [(.loc [3], evC ⟨2, player, other, frame, inp, n⟩), (.arg 0, ctB (.arg 0) c')]⟩) (.take 1 (.take 5 (.both [(0, .both [(2, .take 3 (.take 4 (.both [(6, .both [(7, .done)])]))), (6, .both [(2, .take 3 (.take 4 (.both [(7, .done)])))])]), (2, .both [(0, .take 3 (.take 4 (.both [(6, .both [(7, .done)])]))), (6, .both [(0, .take 3 (.take 4 (.both [(7, .done)])))])]), (6, .both [(0, .both [(2, .take 3 (.take 4 (.both [(7, .done)])))]), (2, .both [(0, .take 3 (.take 4 (.both [(7, .done)])))])])]))) (by kernel_rfl) (by kernel_rfl) ?_ ?_
  · simp (maxSteps := 2000000) (disch := omega) only [go_sem, Nat.reduceAdd, Nat.reduceSub, Nat.reduceMul, Nat.reduceBEq, Nat.reduceEqDiff, Nat.reduceLT, Nat.reduceLeDiff, Nat.reduceDiv, reduceIte, reduceCtorEq, Int.reduceLT, Int.reduceLE, Int.reduceEq, Int.reduceNe, Int.reduceAdd, Int.reduceSub, Int.reduceMul, Int.reduceNeg, Int.reduceDiv, Int.reduceMod, Int.reduceTMod, Int.reduceTDiv, Int.reduceFDiv, Int.reducePow, Int.reduceToNat, U64n, BitVec.reduceOfInt, BitVec.reduceAnd, BitVec.reduceToNat, bits_u64, bits_i64]
    repeat' (with_reducible apply And.intro)
    all_goals (
      refine a_call [] (hows_h) ok0 ?_ ?_ ?_
      · simp (maxSteps := 2000000) (disch := omega) only [go_sem, Nat.reduceAdd, Nat.reduceSub, Nat.reduceMul, Nat.reduceBEq, Nat.reduceEqDiff, Nat.reduceLT, Nat.reduceLeDiff, Nat.reduceDiv, reduceIte, reduceCtorEq]
      · simp (maxSteps := 2000000) (disch := omega) only [go_sem, Nat.reduceAdd, Nat.reduceSub, Nat.reduceMul, Nat.reduceBEq, Nat.reduceEqDiff, Nat.reduceLT, Nat.reduceLeDiff, Nat.reduceDiv, reduceIte, reduceCtorEq]
      rintro _ _ ⟨rfl, rfl⟩
      simp (maxSteps := 2000000) (disch := omega) only [go_sem, Nat.reduceAdd, Nat.reduceSub, Nat.reduceMul, Nat.reduceBEq, Nat.reduceEqDiff, Nat.reduceLT, Nat.reduceLeDiff, Nat.reduceDiv, reduceIte, reduceCtorEq, Int.reduceLT, Int.reduceLE, Int.reduceEq, Int.reduceNe, Int.reduceAdd, Int.reduceSub, Int.reduceMul, Int.reduceNeg, Int.reduceDiv, Int.reduceMod, Int.reduceTMod, Int.reduceTDiv, Int.reduceFDiv, Int.reducePow, Int.reduceToNat, U64n, BitVec.reduceOfInt, BitVec.reduceAnd, BitVec.reduceToNat, bits_u64, bits_i64]
      refine a_call [.arg 0] (hd) (ok1 rfl) ?_ ?_ ?_
      · simp (maxSteps := 2000000) (disch := omega) only [go_sem, Nat.reduceAdd, Nat.reduceSub, Nat.reduceMul, Nat.reduceBEq, Nat.reduceEqDiff, Nat.reduceLT, Nat.reduceLeDiff, Nat.reduceDiv, reduceIte, reduceCtorEq]
      · simp (maxSteps := 2000000) (disch := omega) only [go_sem, Nat.reduceAdd, Nat.reduceSub, Nat.reduceMul, Nat.reduceBEq, Nat.reduceEqDiff, Nat.reduceLT, Nat.reduceLeDiff, Nat.reduceDiv, reduceIte, reduceCtorEq]
      rintro _ _ ⟨rfl, rfl⟩
      simp (maxSteps := 2000000) (disch := omega) only [go_sem, Nat.reduceAdd, Nat.reduceSub, Nat.reduceMul, Nat.reduceBEq, Nat.reduceEqDiff, Nat.reduceLT, Nat.reduceLeDiff, Nat.reduceDiv, reduceIte, reduceCtorEq, Int.reduceLT, Int.reduceLE, Int.reduceEq, Int.reduceNe, Int.reduceAdd, Int.reduceSub, Int.reduceMul, Int.reduceNeg, Int.reduceDiv, Int.reduceMod, Int.reduceTMod, Int.reduceTDiv, Int.reduceFDiv, Int.reducePow, Int.reduceToNat, U64n, BitVec.reduceOfInt, BitVec.reduceAnd, BitVec.reduceToNat, bits_u64, bits_i64])
  · simp (maxSteps := 2000000) (disch := omega) only [go_sem, Nat.reduceAdd, Nat.reduceSub, Nat.reduceMul, Nat.reduceBEq, Nat.reduceEqDiff, Nat.reduceLT, Nat.reduceLeDiff, Nat.reduceDiv, reduceIte, reduceCtorEq, Int.reduceLT, Int.reduceLE, Int.reduceEq, Int.reduceNe, Int.reduceAdd, Int.reduceSub, Int.reduceMul, Int.reduceNeg, Int.reduceDiv, Int.reduceMod, Int.reduceTMod, Int.reduceTDiv, Int.reduceFDiv, Int.reducePow, Int.reduceToNat, U64n, BitVec.reduceOfInt, BitVec.reduceAnd, BitVec.reduceToNat, bits_u64, bits_i64]
    refine a_drawC (⟨[.undef, .undef, .undef, .undef, .undef, .undef, .undef, .undef, .undef, .undef, .undef, .undef, .undef, .undef, .undef, .undef, .undef, .undef, .undef, .undef, .undef, .undef, .undef, .undef, .undef, .undef, .undef, .undef, .undef, .undef], [(.arg 0, ctB (.arg 0) (c'.add ⟨2, player, other, frame, inp, n⟩))]⟩) (.take 0 (.take 1 (.take 2 (.take 3 (.both [(4, .both [(5, .both [(6, .both [(7, .take 8 (.take 9 (.both [(10, .done)])))])])]), (5, .both [(4, .both [(6, .both [(7, .take 8 (.take 9 (.both [(10, .done)])))])]), (6, .both [(4, .both [(7, .take 8 (.take 9 (.both [(10, .done)])))])])])]))))) (by kernel_rfl) (by kernel_rfl) ?_ ?_
    · simp (maxSteps := 2000000) (disch := omega) only [go_sem, Nat.reduceAdd, Nat.reduceSub, Nat.reduceMul, Nat.reduceBEq, Nat.reduceEqDiff, Nat.reduceLT, Nat.reduceLeDiff, Nat.reduceDiv, reduceIte, reduceCtorEq, Int.reduceLT, Int.reduceLE, Int.reduceEq, Int.reduceNe, Int.reduceAdd, Int.reduceSub, Int.reduceMul, Int.reduceNeg, Int.reduceDiv, Int.reduceMod, Int.reduceTMod, Int.reduceTDiv, Int.reduceFDiv, Int.reducePow, Int.reduceToNat, U64n, BitVec.reduceOfInt, BitVec.reduceAnd, BitVec.reduceToNat, bits_u64, bits_i64]
      repeat' (with_reducible apply And.intro)
      all_goals first | omega | exact leCs_refl _
    · simp (maxSteps := 2000000) (disch := omega) only [go_sem, Nat.reduceAdd, Nat.reduceSub, Nat.reduceMul, Nat.reduceBEq, Nat.reduceEqDiff, Nat.reduceLT, Nat.reduceLeDiff, Nat.reduceDiv, reduceIte, reduceCtorEq, Int.reduceLT, Int.reduceLE, Int.reduceEq, Int.reduceNe, Int.reduceAdd, Int.reduceSub, Int.reduceMul, Int.reduceNeg, Int.reduceDiv, Int.reduceMod, Int.reduceTMod, Int.reduceTDiv, Int.reduceFDiv, Int.reducePow, Int.reduceToNat, U64n, BitVec.reduceOfInt, BitVec.reduceAnd, BitVec.reduceToNat, bits_u64, bits_i64]
theorem applyN3_h (c : Ct) (player other frame n : Int) (inp : UInt16) (h0 : c.in0.length ≤ 1000000) (h1 : c.in1.length ≤ 1000000) (hm : mayP18 c ⟨3, player, other, frame, inp, n⟩ ≠ 0) : Holds Try.prog 13 [.ptr (.arg 0) 0, .ev ⟨3, player, other, frame, inp, n⟩] [(.arg 0, ctB (.arg 0) c)] (fun r h' => r = .int .i64 (mayP18 c ⟨3, player, other, frame, inp, n⟩) ∧ h' = [(.arg 0, ctB (.arg 0) c)]) := by
  refine holds_of_awp Try.func13 rfl (by decide +kernel) mixed Try.ntmps13 Try.results13 ?_
  simp only [entrySt, List.map_cons, List.map_nil, List.length_cons, List.length_nil, Nat.reduceAdd, Nat.reduceSub, List.replicate_succ, List.replicate_zero, List.cons_append, List.nil_append]
  simp (maxSteps := 2000000) (disch := omega) only [go_sem, Nat.reduceAdd, Nat.reduceSub, Nat.reduceMul, Nat.reduceBEq, Nat.reduceEqDiff, Nat.reduceLT, Nat.reduceLeDiff, Nat.reduceDiv, reduceIte, reduceCtorEq]
  refine a_call [.arg 0] (may3_h c player other frame n inp h0 h1) (ok1 rfl) ?_ ?_ ?_
  · simp (maxSteps := 2000000) (disch := omega) only [go_sem, Nat.reduceAdd, Nat.reduceSub, Nat.reduceMul, Nat.reduceBEq, Nat.reduceEqDiff, Nat.reduceLT, Nat.reduceLeDiff, Nat.reduceDiv, reduceIte, reduceCtorEq]
  · simp (maxSteps := 2000000) (disch := omega) only [go_sem, Nat.reduceAdd, Nat.reduceSub, Nat.reduceMul, Nat.reduceBEq, Nat.reduceEqDiff, Nat.reduceLT, Nat.reduceLeDiff, Nat.reduceDiv, reduceIte, reduceCtorEq]
  rintro _ _ ⟨rfl, rfl⟩
  simp (maxSteps := 2000000) (disch := omega) only [go_sem, Nat.reduceAdd, Nat.reduceSub, Nat.reduceMul, Nat.reduceBEq, Nat.reduceEqDiff, Nat.reduceLT, Nat.reduceLeDiff, Nat.reduceDiv, reduceIte, reduceCtorEq]
  refine c_dec (fun h => ?_) (fun h => ?_)
  · simp (maxSteps := 2000000) (disch := omega) only [go_sem, Nat.reduceAdd, Nat.reduceSub, Nat.reduceMul, Nat.reduceBEq, Nat.reduceEqDiff, Nat.reduceLT, Nat.reduceLeDiff, Nat.reduceDiv, reduceIte, reduceCtorEq]
  · exact (h hm).elim
set_option maxHeartbeats 4000000 in
theorem applyY3_h (c c' : Ct) (player other frame n : Int) (inp : UInt16) (h0 : c.in0.length ≤ 1000000) (h1 : c.in1.length ≤ 1000000) (hm : mayP18 c ⟨3, player, other, frame, inp, n⟩ = 0) (hl : c'.events.length ≤ 1000000)
    (hd : Holds Try.prog 43 [.ptr (.arg 0) 0, .ev ⟨3, player, other, frame, inp, n⟩] [(.arg 0, ctB (.arg 0) c)] (fun r h' => r = .tup [] ∧ h' = [(.arg 0, ctB (.arg 0) c')])) :
    Holds Try.prog 13 [.ptr (.arg 0) 0, .ev ⟨3, player, other, frame, inp, n⟩] [(.arg 0, ctB (.arg 0) c)] (fun r h' => r = .int .i64 0 ∧ h' = [(.arg 0, ctB (.arg 0) (c'.add ⟨3, player, other, frame, inp, n⟩))]) := by
  refine holds_of_awp Try.func13 rfl (by decide +kernel) mixed Try.ntmps13 Try.results13 ?_
  simp only [entrySt, List.map_cons, List.map_nil, List.length_cons, List.length_nil, Nat.reduceAdd, Nat.reduceSub, List.replicate_succ, List.replicate_zero, List.cons_append, List.nil_append]
  simp (maxSteps := 2000000) (disch := omega) only [go_sem, Nat.reduceAdd, Nat.reduceSub, Nat.reduceMul, Nat.reduceBEq, Nat.reduceEqDiff, Nat.reduceLT, Nat.reduceLeDiff, Nat.reduceDiv, reduceIte, reduceCtorEq]
  refine a_call [.arg 0] (may3_h c player other frame n inp h0 h1) (ok1 rfl) ?_ ?_ ?_
  · simp (maxSteps := 2000000) (disch := omega) only [go_sem, Nat.reduceAdd, Nat.reduceSub, Nat.reduceMul, Nat.reduceBEq, Nat.reduceEqDiff, Nat.reduceLT, Nat.reduceLeDiff, Nat.reduceDiv, reduceIte, reduceCtorEq]
  · simp (maxSteps := 2000000) (disch := omega) only [go_sem, Nat.reduceAdd, Nat.reduceSub, Nat.reduceMul, Nat.reduceBEq, Nat.reduceEqDiff, Nat.reduceLT, Nat.reduceLeDiff, Nat.reduceDiv, reduceIte, reduceCtorEq]
  rintro _ _ ⟨rfl, rfl⟩
  rw [hm]
  simp (maxSteps := 2000000) (disch := omega) only [go_sem, Nat.reduceAdd, Nat.reduceSub, Nat.reduceMul, Nat.reduceBEq, Nat.reduceEqDiff, Nat.reduceLT, Nat.reduceLeDiff, Nat.reduceDiv, reduceIte, reduceCtorEq, Int.reduceLT, Int.reduceLE, Int.reduceEq, Int.reduceNe, Int.reduceAdd, Int.reduceSub, Int.reduceMul, Int.reduceNeg, Int.reduceDiv, Int.reduceMod, Int.reduceTMod, Int.reduceTDiv, Int.reduceFDiv, Int.reducePow, Int.reduceToNat, U64n, BitVec.reduceOfInt, BitVec.reduceAnd, BitVec.reduceToNat, bits_u64, bits_i64]
  refine a_drawC (⟨[V.cell (.ptr (.arg 0) 0), .undef, .undef, V.cell (.ptr (.loc [3]) 0), .undef, .undef, .undef, .undef, .undef, .undef, .undef, .undef, .undef, .undef, .undef, .undef, .undef, .undef, .undef, .undef, .undef, .undef, .undef, .undef, .undef, .undef, .undef, .undef, .undef, .undef], [(.loc [3], evC ⟨3, player, other, frame, inp, n⟩), (.arg 0, ctB (.arg 0) c')]⟩) (.take 1 (.take 5 (.both [(0, .both [(2, .take 3 (.take 4 (.both [(6, .both [(7, .done)])]))), (6, .both [(2, .take 3 (.take 4 (.both [(7, .done)])))])]), (2, .both [(0, .take 3 (.take 4 (.both [(6, .both [(7, .done)])]))), (6, .both [(0, .take 3 (.take 4 (.both [(7, .done)])))])]), (6, .both [(0, .both [(2, .take 3 (.take 4 (.both [(7, .done)])))]), (2, .both [(0, .take 3 (.take 4 (.both [(7, .done)])))])])]))) (by kernel_rfl) (by kernel_rfl) ?_ ?_
  · simp (maxSteps := 2000000) (disch := omega) only [go_sem, Nat.reduceAdd, Nat.reduceSub, Nat.reduceMul, Nat.reduceBEq, Nat.reduceEqDiff, Nat.reduceLT, Nat.reduceLeDiff, Nat.reduceDiv, reduceIte, reduceCtorEq, Int.reduceLT, Int.reduceLE, Int.reduceEq, Int.reduceNe, Int.reduceAdd, Int.reduceSub, Int.reduceMul, Int.reduceNeg, Int.reduceDiv, Int.reduceMod, Int.reduceTMod, Int.reduceTDiv, Int.reduceFDiv, Int.reducePow, Int.reduceToNat, U64n, BitVec.reduceOfInt, BitVec.reduceAnd, BitVec.reduceToNat, bits_u64, bits_i64]
    repeat' (with_reducible apply And.intro)
    all_goals (
      refine a_call [] (hows_h) ok0 ?_ ?_ ?_
      · simp (maxSteps := 2000000) (disch := omega) only [go_sem, Nat.reduceAdd, Nat.reduceSub, Nat.reduceMul, Nat.reduceBEq, Nat.reduceEqDiff, Nat.reduceLT, Nat.reduceLeDiff, Nat.reduceDiv, reduceIte, reduceCtorEq]
      · simp (maxSteps := 2000000) (disch := omega) only [go_sem, Nat.reduceAdd, Nat.reduceSub, Nat.reduceMul, Nat.reduceBEq, Nat.reduceEqDiff, Nat.reduceLT, Nat.reduceLeDiff, Nat.reduceDiv, reduceIte, reduceCtorEq]
      rintro _ _ ⟨rfl, rfl⟩
      simp (maxSteps := 2000000) (disch := omega) only [go_sem, Nat.reduceAdd, Nat.reduceSub, Nat.reduceMul, Nat.reduceBEq, Nat.reduceEqDiff, Nat.reduceLT, Nat.reduceLeDiff, Nat.reduceDiv, reduceIte, reduceCtorEq, Int.reduceLT, Int.reduceLE, Int.reduceEq, Int.reduceNe, Int.reduceAdd, Int.reduceSub, Int.reduceMul, Int.reduceNeg, Int.reduceDiv, Int.reduceMod, Int.reduceTMod, Int.reduceTDiv, Int.reduceFDiv, Int.reducePow, Int.reduceToNat, U64n, BitVec.reduceOfInt, BitVec.reduceAnd, BitVec.reduceToNat, bits_u64, bits_i64]
      refine a_call [.arg 0] (hd) (ok1 rfl) ?_ ?_ ?_
      · simp (maxSteps := 2000000) (disch := omega) only [go_sem, Nat.reduceAdd, Nat.reduceSub, Nat.reduceMul, Nat.reduceBEq, Nat.reduceEqDiff, Nat.reduceLT, Nat.reduceLeDiff, Nat.reduceDiv, reduceIte, reduceCtorEq]
      · simp (maxSteps := 2000000) (disch := omega) only [go_sem, Nat.reduceAdd, Nat.reduceSub, Nat.reduceMul, Nat.reduceBEq, Nat.reduceEqDiff, Nat.reduceLT, Nat.reduceLeDiff, Nat.reduceDiv, reduceIte, reduceCtorEq]
      rintro _ _ ⟨rfl, rfl⟩
      simp (maxSteps := 2000000) (disch := omega) only [go_sem, Nat.reduceAdd, Nat.reduceSub, Nat.reduceMul, Nat.reduceBEq, Nat.reduceEqDiff, Nat.reduceLT, Nat.reduceLeDiff, Nat.reduceDiv, reduceIte, reduceCtorEq, Int.reduceLT, Int.reduceLE, Int.reduceEq, Int.reduceNe, Int.reduceAdd, Int.reduceSub, Int.reduceMul, Int.reduceNeg, Int.reduceDiv, Int.reduceMod, Int.reduceTMod, Int.reduceTDiv, Int.reduceFDiv, Int.reducePow, Int.reduceToNat, U64n, BitVec.reduceOfInt, BitVec.reduceAnd, BitVec.reduceToNat, bits_u64, bits_i64])
  · simp (maxSteps := 2000000) (disch := omega) only [go_sem, Nat.reduceAdd, Nat.reduceSub, Nat.reduceMul, Nat.reduceBEq, Nat.reduceEqDiff, Nat.reduceLT, Nat.reduceLeDiff, Nat.reduceDiv, reduceIte, reduceCtorEq, Int.reduceLT, Int.reduceLE, Int.reduceEq, Int.reduceNe, Int.reduceAdd, Int.reduceSub, Int.reduceMul, Int.reduceNeg, Int.reduceDiv, Int.reduceMod, Int.reduceTMod, Int.reduceTDiv, Int.reduceFDiv, Int.reducePow, Int.reduceToNat, U64n, BitVec.reduceOfInt, BitVec.reduceAnd, BitVec.reduceToNat, bits_u64, bits_i64]
    refine a_drawC (⟨[.undef, .undef, .undef, .undef, .undef, .undef, .undef, .undef, .undef, .undef, .undef, .undef, .undef, .undef, .undef, .undef, .undef, .undef, .undef, .undef, .undef, .undef, .undef, .undef, .undef, .undef, .undef, .undef, .undef, .undef], [(.arg 0, ctB (.arg 0) (c'.add ⟨3, player, other, frame, inp, n⟩))]⟩) (.take 0 (.take 1 (.take 2 (.take 3 (.both [(4, .both [(5, .both [(6, .both [(7, .take 8 (.take 9 (.both [(10, .done)])))])])]), (5, .both [(4, .both [(6, .both [(7, .take 8 (.take 9 (.both [(10, .done)])))])]), (6, .both [(4, .both [(7, .take 8 (.take 9 (.both [(10, .done)])))])])])]))))) (by kernel_rfl) (by kernel_rfl) ?_ ?_
    · simp (maxSteps := 2000000) (disch := omega) only [go_sem, Nat.reduceAdd, Nat.reduceSub, Nat.reduceMul, Nat.reduceBEq, Nat.reduceEqDiff, Nat.reduceLT, Nat.reduceLeDiff, Nat.reduceDiv, reduceIte, reduceCtorEq, Int.reduceLT, Int.reduceLE, Int.reduceEq, Int.reduceNe, Int.reduceAdd, Int.reduceSub, Int.reduceMul, Int.reduceNeg, Int.reduceDiv, Int.reduceMod, Int.reduceTMod, Int.reduceTDiv, Int.reduceFDiv, Int.reducePow, Int.reduceToNat, U64n, BitVec.reduceOfInt, BitVec.reduceAnd, BitVec.reduceToNat, bits_u64, bits_i64]
      repeat' (with_reducible apply And.intro)
      all_goals first | omega | exact leCs_refl _
    · simp (maxSteps := 2000000) (disch := omega) only [go_sem, Nat.reduceAdd, Nat.reduceSub, Nat.reduceMul, Nat.reduceBEq, Nat.reduceEqDiff, Nat.reduceLT, Nat.reduceLeDiff, Nat.reduceDiv, reduceIte, reduceCtorEq, Int.reduceLT, Int.reduceLE, Int.reduceEq, Int.reduceNe, Int.reduceAdd, Int.reduceSub, Int.reduceMul, Int.reduceNeg, Int.reduceDiv, Int.reduceMod, Int.reduceTMod, Int.reduceTDiv, Int.reduceFDiv, Int.reducePow, Int.reduceToNat, U64n, BitVec.reduceOfInt, BitVec.reduceAnd, BitVec.reduceToNat, bits_u64, bits_i64]
theorem applyN4_h (c : Ct) (player other frame n : Int) (inp : UInt16) (hm : mayP18 c ⟨4, player, other, frame, inp, n⟩ ≠ 0) : Holds Try.prog 13 [.ptr (.arg 0) 0, .ev ⟨4, player, other, frame, inp, n⟩] [(.arg 0, ctB (.arg 0) c)] (fun r h' => r = .int .i64 (mayP18 c ⟨4, player, other, frame, inp, n⟩) ∧ h' = [(.arg 0, ctB (.arg 0) c)]) := by
  refine holds_of_awp Try.func13 rfl (by decide +kernel) mixed Try.ntmps13 Try.results13 ?_
  simp only [entrySt, List.map_cons, List.map_nil, List.length_cons, List.length_nil, Nat.reduceAdd, Nat.reduceSub, List.replicate_succ, List.replicate_zero, List.cons_append, List.nil_append]
  simp (maxSteps := 2000000) (disch := omega) only [go_sem, Nat.reduceAdd, Nat.reduceSub, Nat.reduceMul, Nat.reduceBEq, Nat.reduceEqDiff, Nat.reduceLT, Nat.reduceLeDiff, Nat.reduceDiv, reduceIte, reduceCtorEq]
  refine a_call [.arg 0] (may4_h c player other frame n inp) (ok1 rfl) ?_ ?_ ?_
  · simp (maxSteps := 2000000) (disch := omega) only [go_sem, Nat.reduceAdd, Nat.reduceSub, Nat.reduceMul, Nat.reduceBEq, Nat.reduceEqDiff, Nat.reduceLT, Nat.reduceLeDiff, Nat.reduceDiv, reduceIte, reduceCtorEq]
  · simp (maxSteps := 2000000) (disch := omega) only [go_sem, Nat.reduceAdd, Nat.reduceSub, Nat.reduceMul, Nat.reduceBEq, Nat.reduceEqDiff, Nat.reduceLT, Nat.reduceLeDiff, Nat.reduceDiv, reduceIte, reduceCtorEq]
  rintro _ _ ⟨rfl, rfl⟩
  simp (maxSteps := 2000000) (disch := omega) only [go_sem, Nat.reduceAdd, Nat.reduceSub, Nat.reduceMul, Nat.reduceBEq, Nat.reduceEqDiff, Nat.reduceLT, Nat.reduceLeDiff, Nat.reduceDiv, reduceIte, reduceCtorEq]
  refine c_dec (fun h => ?_) (fun h => ?_)
  · simp (maxSteps := 2000000) (disch := omega) only [go_sem, Nat.reduceAdd, Nat.reduceSub, Nat.reduceMul, Nat.reduceBEq, Nat.reduceEqDiff, Nat.reduceLT, Nat.reduceLeDiff, Nat.reduceDiv, reduceIte, reduceCtorEq]
  · exact (h hm).elim
set_option maxHeartbeats 4000000 in
theorem applyY4_h (c c' : Ct) (player other frame n : Int) (inp : UInt16) (hm : mayP18 c ⟨4, player, other, frame, inp, n⟩ = 0) (hl : c'.events.length ≤ 1000000)
    (hd : Holds Try.prog 46 [.ptr (.arg 0) 0, .ev ⟨4, player, other, frame, inp, n⟩] [(.arg 0, ctB (.arg 0) c)] (fun r h' => r = .tup [] ∧ h' = [(.arg 0, ctB (.arg 0) c')])) :
    Holds Try.prog 13 [.ptr (.arg 0) 0, .ev ⟨4, player, other, frame, inp, n⟩] [(.arg 0, ctB (.arg 0) c)] (fun r h' => r = .int .i64 0 ∧ h' = [(.arg 0, ctB (.arg 0) (c'.add ⟨4, player, other, frame, inp, n⟩))]) := by
  refine holds_of_awp Try.func13 rfl (by decide +kernel) mixed Try.ntmps13 Try.results13 ?_
  simp only [entrySt, List.map_cons, List.map_nil, List.length_cons, List.length_nil, Nat.reduceAdd, Nat.reduceSub, List.replicate_succ, List.replicate_zero, List.cons_append, List.nil_append]
  simp (maxSteps := 2000000) (disch := omega) only [go_sem, Nat.reduceAdd, Nat.reduceSub, Nat.reduceMul, Nat.reduceBEq, Nat.reduceEqDiff, Nat.reduceLT, Nat.reduceLeDiff, Nat.reduceDiv, reduceIte, reduceCtorEq]
  refine a_call [.arg 0] (may4_h c player other frame n inp) (ok1 rfl) ?_ ?_ ?_
  · simp (maxSteps := 2000000) (disch := omega) only [go_sem, Nat.reduceAdd, Nat.reduceSub, Nat.reduceMul, Nat.reduceBEq, Nat.reduceEqDiff, Nat.reduceLT, Nat.reduceLeDiff, Nat.reduceDiv, reduceIte, reduceCtorEq]
  · simp (maxSteps := 2000000) (disch := omega) only [go_sem, Nat.reduceAdd, Nat.reduceSub, Nat.reduceMul, Nat.reduceBEq, Nat.reduceEqDiff, Nat.reduceLT, Nat.reduceLeDiff, Nat.reduceDiv, reduceIte, reduceCtorEq]
  rintro _ _ ⟨rfl, rfl⟩
  rw [hm]
  simp (maxSteps := 2000000) (disch := omega) only [go_sem, Nat.reduceAdd, Nat.reduceSub, Nat.reduceMul, Nat.reduceBEq, Nat.reduceEqDiff, Nat.reduceLT, Nat.reduceLeDiff, Nat.reduceDiv, reduceIte, reduceCtorEq, Int.reduceLT, Int.reduceLE, Int.reduceEq, Int.reduceNe, Int.reduceAdd, Int.reduceSub, Int.reduceMul, Int.reduceNeg, Int.reduceDiv, Int.reduceMod, Int.reduceTMod, Int.reduceTDiv, Int.reduceFDiv, Int.reducePow, Int.reduceToNat, U64n, BitVec.reduceOfInt, BitVec.reduceAnd, BitVec.reduceToNat, bits_u64, bits_i64]
  refine a_drawC (⟨[V.cell (.ptr (.arg 0) 0), .undef, .undef, V.cell (.ptr (.loc [3]) 0), .undef, .undef, .undef, .undef, .undef, .undef, .undef, .undef, .undef, .undef, .undef, .undef, .undef, .undef, .undef, .undef, .undef, .undef, .undef, .undef, .undef, .undef, .undef, .undef, .undef, .undef], [(.loc [3], evC ⟨4, player, other, frame, inp, n⟩), (.arg 0, ctB (.arg 0) c')]⟩) (.take 1 (.take 5 (.both [(0, .both [(2, .take 3 (.take 4 (.both [(6, .both [(7, .done)])]))), (6, .both [(2, .take 3 (.take 4 (.both [(7, .done)])))])]), (2, .both [(0, .take 3 (.take 4 (.both [(6, .both [(7, .done)])]))), (6, .both [(0, .take 3 (.take 4 (.both [(7, .done)])))])]), (6, .both [(0, .both [(2, .take 3 (.take 4 (.both [(7, .done)])))]), (2, .both [(0, .take 3 (.take 4 (.both [(7, .done)])))])])]))) (by kernel_rfl) (by kernel_rfl) ?_ ?_
  · simp (maxSteps := 2000000) (disch := omega) only [go_sem, Nat.reduceAdd, Nat.reduceSub, Nat.reduceMul, Nat.reduceBEq, Nat.reduceEqDiff, Nat.reduceLT, Nat.reduceLeDiff, Nat.reduceDiv, reduceIte, reduceCtorEq, Int.reduceLT, Int.reduceLE, Int.reduceEq, Int.reduceNe, Int.reduceAdd, Int.reduceSub, Int.reduceMul, Int.reduceNeg, Int.reduceDiv, Int.reduceMod, Int.reduceTMod, Int.reduceTDiv, Int.reduceFDiv, Int.reducePow, Int.reduceToNat, U64n, BitVec.reduceOfInt, BitVec.reduceAnd, BitVec.reduceToNat, bits_u64, bits_i64]
    repeat' (with_reducible apply And.intro)
    all_goals (
      refine a_call [] (hows_h) ok0 ?_ ?_ ?_
      · simp (maxSteps := 2000000) (disch := omega) only [go_sem, Nat.reduceAdd, Nat.reduceSub, Nat.reduceMul, Nat.reduceBEq, Nat.reduceEqDiff, Nat.reduceLT, Nat.reduceLeDiff, Nat.reduceDiv, reduceIte, reduceCtorEq]
      · simp (maxSteps := 2000000) (disch := omega) only [go_sem, Nat.reduceAdd, Nat.reduceSub, Nat.reduceMul, Nat.reduceBEq, Nat.reduceEqDiff, Nat.reduceLT, Nat.reduceLeDiff, Nat.reduceDiv, reduceIte, reduceCtorEq]
      rintro _ _ ⟨rfl, rfl⟩
      simp (maxSteps := 2000000) (disch := omega) only [go_sem, Nat.reduceAdd, Nat.reduceSub, Nat.reduceMul, Nat.reduceBEq, Nat.reduceEqDiff, Nat.reduceLT, Nat.reduceLeDiff, Nat.reduceDiv, reduceIte, reduceCtorEq, Int.reduceLT, Int.reduceLE, Int.reduceEq, Int.reduceNe, Int.reduceAdd, Int.reduceSub, Int.reduceMul, Int.reduceNeg, Int.reduceDiv, Int.reduceMod, Int.reduceTMod, Int.reduceTDiv, Int.reduceFDiv, Int.reducePow, Int.reduceToNat, U64n, BitVec.reduceOfInt, BitVec.reduceAnd, BitVec.reduceToNat, bits_u64, bits_i64]
      refine a_call [.arg 0] (hd) (ok1 rfl) ?_ ?_ ?_
      · simp (maxSteps := 2000000) (disch := omega) only [go_sem, Nat.reduceAdd, Nat.reduceSub, Nat.reduceMul, Nat.reduceBEq, Nat.reduceEqDiff, Nat.reduceLT, Nat.reduceLeDiff, Nat.reduceDiv, reduceIte, reduceCtorEq]
      · simp (maxSteps := 2000000) (disch := omega) only [go_sem, Nat.reduceAdd, Nat.reduceSub, Nat.reduceMul, Nat.reduceBEq, Nat.reduceEqDiff, Nat.reduceLT, Nat.reduceLeDiff, Nat.reduceDiv, reduceIte, reduceCtorEq]
      rintro _ _ ⟨rfl, rfl⟩
      simp (maxSteps := 2000000) (disch := omega) only [go_sem, Nat.reduceAdd, Nat.reduceSub, Nat.reduceMul, Nat.reduceBEq, Nat.reduceEqDiff, Nat.reduceLT, Nat.reduceLeDiff, Nat.reduceDiv, reduceIte, reduceCtorEq, Int.reduceLT, Int.reduceLE, Int.reduceEq, Int.reduceNe, Int.reduceAdd, Int.reduceSub, Int.reduceMul, Int.reduceNeg, Int.reduceDiv, Int.reduceMod, Int.reduceTMod, Int.reduceTDiv, Int.reduceFDiv, Int.reducePow, Int.reduceToNat, U64n, BitVec.reduceOfInt, BitVec.reduceAnd, BitVec.reduceToNat, bits_u64, bits_i64])
  · simp (maxSteps := 2000000) (disch := omega) only [go_sem, Nat.reduceAdd, Nat.reduceSub, Nat.reduceMul, Nat.reduceBEq, Nat.reduceEqDiff, Nat.reduceLT, Nat.reduceLeDiff, Nat.reduceDiv, reduceIte, reduceCtorEq, Int.reduceLT, Int.reduceLE, Int.reduceEq, Int.reduceNe, Int.reduceAdd, Int.reduceSub, Int.reduceMul, Int.reduceNeg, Int.reduceDiv, Int.reduceMod, Int.reduceTMod, Int.reduceTDiv, Int.reduceFDiv, Int.reducePow, Int.reduceToNat, U64n, BitVec.reduceOfInt, BitVec.reduceAnd, BitVec.reduceToNat, bits_u64, bits_i64]
    refine a_drawC (⟨[.undef, .undef, .undef, .undef, .undef, .undef, .undef, .undef, .undef, .undef, .undef, .undef, .undef, .undef, .undef, .undef, .undef, .undef, .undef, .undef, .undef, .undef, .undef, .undef, .undef, .undef, .undef, .undef, .undef, .undef], [(.arg 0, ctB (.arg 0) (c'.add ⟨4, player, other, frame, inp, n⟩))]⟩) (.take 0 (.take 1 (.take 2 (.take 3 (.both [(4, .both [(5, .both [(6, .both [(7, .take 8 (.take 9 (.both [(10, .done)])))])])]), (5, .both [(4, .both [(6, .both [(7, .take 8 (.take 9 (.both [(10, .done)])))])]), (6, .both [(4, .both [(7, .take 8 (.take 9 (.both [(10, .done)])))])])])]))))) (by kernel_rfl) (by kernel_rfl) ?_ ?_
    · simp (maxSteps := 2000000) (disch := omega) only [go_sem, Nat.reduceAdd, Nat.reduceSub, Nat.reduceMul, Nat.reduceBEq, Nat.reduceEqDiff, Nat.reduceLT, Nat.reduceLeDiff, Nat.reduceDiv, reduceIte, reduceCtorEq, Int.reduceLT, Int.reduceLE, Int.reduceEq, Int.reduceNe, Int.reduceAdd, Int.reduceSub, Int.reduceMul, Int.reduceNeg, Int.reduceDiv, Int.reduceMod, Int.reduceTMod, Int.reduceTDiv, Int.reduceFDiv, Int.reducePow, Int.reduceToNat, U64n, BitVec.reduceOfInt, BitVec.reduceAnd, BitVec.reduceToNat, bits_u64, bits_i64]
      repeat' (with_reducible apply And.intro)
      all_goals first | omega | exact leCs_refl _
    · simp (maxSteps := 2000000) (disch := omega) only [go_sem, Nat.reduceAdd, Nat.reduceSub, Nat.reduceMul, Nat.reduceBEq, Nat.reduceEqDiff, Nat.reduceLT, Nat.reduceLeDiff, Nat.reduceDiv, reduceIte, reduceCtorEq, Int.reduceLT, Int.reduceLE, Int.reduceEq, Int.reduceNe, Int.reduceAdd, Int.reduceSub, Int.reduceMul, Int.reduceNeg, Int.reduceDiv, Int.reduceMod, Int.reduceTMod, Int.reduceTDiv, Int.reduceFDiv, Int.reducePow, Int.reduceToNat, U64n, BitVec.reduceOfInt, BitVec.reduceAnd, BitVec.reduceToNat, bits_u64, bits_i64]
theorem applyN5_h (c : Ct) (player other frame n : Int) (inp : UInt16) (hw : 0 ≤ c.st.win ∧ c.st.win ≤ 2) (hm : mayP18 c ⟨5, player, other, frame, inp, n⟩ ≠ 0) : Holds Try.prog 13 [.ptr (.arg 0) 0, .ev ⟨5, player, other, frame, inp, n⟩] [(.arg 0, ctB (.arg 0) c)] (fun r h' => r = .int .i64 (mayP18 c ⟨5, player, other, frame, inp, n⟩) ∧ h' = [(.arg 0, ctB (.arg 0) c)]) := by
  refine holds_of_awp Try.func13 rfl (by decide +kernel) mixed Try.ntmps13 Try.results13 ?_
  simp only [entrySt, List.map_cons, List.map_nil, List.length_cons, List.length_nil, Nat.reduceAdd, Nat.reduceSub, List.replicate_succ, List.replicate_zero, List.cons_append, List.nil_append]
  simp (maxSteps := 2000000) (disch := omega) only [go_sem, Nat.reduceAdd, Nat.reduceSub, Nat.reduceMul, Nat.reduceBEq, Nat.reduceEqDiff, Nat.reduceLT, Nat.reduceLeDiff, Nat.reduceDiv, reduceIte, reduceCtorEq]
  refine a_call [.arg 0] (may5_h c player other frame n inp hw) (ok1 rfl) ?_ ?_ ?_
  · simp (maxSteps := 2000000) (disch := omega) only [go_sem, Nat.reduceAdd, Nat.reduceSub, Nat.reduceMul, Nat.reduceBEq, Nat.reduceEqDiff, Nat.reduceLT, Nat.reduceLeDiff, Nat.reduceDiv, reduceIte, reduceCtorEq]
  · simp (maxSteps := 2000000) (disch := omega) only [go_sem, Nat.reduceAdd, Nat.reduceSub, Nat.reduceMul, Nat.reduceBEq, Nat.reduceEqDiff, Nat.reduceLT, Nat.reduceLeDiff, Nat.reduceDiv, reduceIte, reduceCtorEq]
  rintro _ _ ⟨rfl, rfl⟩
  simp (maxSteps := 2000000) (disch := omega) only [go_sem, Nat.reduceAdd, Nat.reduceSub, Nat.reduceMul, Nat.reduceBEq, Nat.reduceEqDiff, Nat.reduceLT, Nat.reduceLeDiff, Nat.reduceDiv, reduceIte, reduceCtorEq]
  refine c_dec (fun h => ?_) (fun h => ?_)
  · simp (maxSteps := 2000000) (disch := omega) only [go_sem, Nat.reduceAdd, Nat.reduceSub, Nat.reduceMul, Nat.reduceBEq, Nat.reduceEqDiff, Nat.reduceLT, Nat.reduceLeDiff, Nat.reduceDiv, reduceIte, reduceCtorEq]
  · exact (h hm).elim
set_option maxHeartbeats 4000000 in
theorem applyY5_h (c c' : Ct) (player other frame n : Int) (inp : UInt16) (hw : 0 ≤ c.st.win ∧ c.st.win ≤ 2) (hm : mayP18 c ⟨5, player, other, frame, inp, n⟩ = 0) (hl : c'.events.length ≤ 1000000)
    (hd : Holds Try.prog 49 [.ptr (.arg 0) 0, .ev ⟨5, player, other, frame, inp, n⟩] [(.arg 0, ctB (.arg 0) c)] (fun r h' => r = .tup [] ∧ h' = [(.arg 0, ctB (.arg 0) c')])) :
    Holds Try.prog 13 [.ptr (.arg 0) 0, .ev ⟨5, player, other, frame, inp, n⟩] [(.arg 0, ctB (.arg 0) c)] (fun r h' => r = .int .i64 0 ∧ h' = [(.arg 0, ctB (.arg 0) (c'.add ⟨5, player, other, frame, inp, n⟩))]) := by
  refine holds_of_awp Try.func13 rfl (by decide +kernel) mixed Try.ntmps13 Try.results13 ?_
  simp only [entrySt, List.map_cons, List.map_nil, List.length_cons, List.length_nil, Nat.reduceAdd, Nat.reduceSub, List.replicate_succ, List.replicate_zero, List.cons_append, List.nil_append]
  simp (maxSteps := 2000000) (disch := omega) only [go_sem, Nat.reduceAdd, Nat.reduceSub, Nat.reduceMul, Nat.reduceBEq, Nat.reduceEqDiff, Nat.reduceLT, Nat.reduceLeDiff, Nat.reduceDiv, reduceIte, reduceCtorEq]
  refine a_call [.arg 0] (may5_h c player other frame n inp hw) (ok1 rfl) ?_ ?_ ?_
  · simp (maxSteps := 2000000) (disch := omega) only [go_sem, Nat.reduceAdd, Nat.reduceSub, Nat.reduceMul, Nat.reduceBEq, Nat.reduceEqDiff, Nat.reduceLT, Nat.reduceLeDiff, Nat.reduceDiv, reduceIte, reduceCtorEq]
  · simp (maxSteps := 2000000) (disch := omega) only [go_sem, Nat.reduceAdd, Nat.reduceSub, Nat.reduceMul, Nat.reduceBEq, Nat.reduceEqDiff, Nat.reduceLT, Nat.reduceLeDiff, Nat.reduceDiv, reduceIte, reduceCtorEq]
  rintro _ _ ⟨rfl, rfl⟩
  rw [hm]
  simp (maxSteps := 2000000) (disch := omega) only [go_sem, Nat.reduceAdd, Nat.reduceSub, Nat.reduceMul, Nat.reduceBEq, Nat.reduceEqDiff, Nat.reduceLT, Nat.reduceLeDiff, Nat.reduceDiv, reduceIte, reduceCtorEq, Int.reduceLT, Int.reduceLE, Int.reduceEq, Int.reduceNe, Int.reduceAdd, Int.reduceSub, Int.reduceMul, Int.reduceNeg, Int.reduceDiv, Int.reduceMod, Int.reduceTMod, Int.reduceTDiv, Int.reduceFDiv, Int.reducePow, Int.reduceToNat, U64n, BitVec.reduceOfInt, BitVec.reduceAnd, BitVec.reduceToNat, bits_u64, bits_i64]
  refine a_drawC (⟨[V.cell (.ptr (.arg 0) 0), .undef, .undef, V.cell (.ptr (.loc [3]) 0), .undef, .undef, .undef, .undef, .undef, .undef, .undef, .undef, .undef, .undef, .undef, .undef, .undef, .undef, .undef, .undef, .undef, .undef, .undef, .undef, .undef, .undef, .undef, .undef, .undef, .undef], [(.loc [3], evC ⟨5, player, other, frame, inp, n⟩), (.arg 0, ctB (.arg 0) c')]⟩) (.take 1 (.take 5 (.both [(0, .both [(2, .take 3 (.take 4 (.both [(6, .both [(7, .done)])]))), (6, .both [(2, .take 3 (.take 4 (.both [(7, .done)])))])]), (2, .both [(0, .take 3 (.take 4 (.both [(6, .both [(7, .done)])]))), (6, .both [(0, .take 3 (.take 4 (.both [(7, .done)])))])]), (6, .both [(0, .both [(2, .take 3 (.take 4 (.both [(7, .done)])))]), (2, .both [(0, .take 3 (.take 4 (.both [(7, .done)])))])])]))) (by kernel_rfl) (by kernel_rfl) ?_ ?_
  · simp (maxSteps := 2000000) (disch := omega) only [go_sem, Nat.reduceAdd, Nat.reduceSub, Nat.reduceMul, Nat.reduceBEq, Nat.reduceEqDiff, Nat.reduceLT, Nat.reduceLeDiff, Nat.reduceDiv, reduceIte, reduceCtorEq, Int.reduceLT, Int.reduceLE, Int.reduceEq, Int.reduceNe, Int.reduceAdd, Int.reduceSub, Int.reduceMul, Int.reduceNeg, Int.reduceDiv, Int.reduceMod, Int.reduceTMod, Int.reduceTDiv, Int.reduceFDiv, Int.reducePow, Int.reduceToNat, U64n, BitVec.reduceOfInt, BitVec.reduceAnd, BitVec.reduceToNat, bits_u64, bits_i64]
    repeat' (with_reducible apply And.intro)
    all_goals (
      refine a_call [] (hows_h) ok0 ?_ ?_ ?_
      · simp (maxSteps := 2000000) (disch := omega) only [go_sem, Nat.reduceAdd, Nat.reduceSub, Nat.reduceMul, Nat.reduceBEq, Nat.reduceEqDiff, Nat.reduceLT, Nat.reduceLeDiff, Nat.reduceDiv, reduceIte, reduceCtorEq]
      · simp (maxSteps := 2000000) (disch := omega) only [go_sem, Nat.reduceAdd, Nat.reduceSub, Nat.reduceMul, Nat.reduceBEq, Nat.reduceEqDiff, Nat.reduceLT, Nat.reduceLeDiff, Nat.reduceDiv, reduceIte, reduceCtorEq]
      rintro _ _ ⟨rfl, rfl⟩
      simp (maxSteps := 2000000) (disch := omega) only [go_sem, Nat.reduceAdd, Nat.reduceSub, Nat.reduceMul, Nat.reduceBEq, Nat.reduceEqDiff, Nat.reduceLT, Nat.reduceLeDiff, Nat.reduceDiv, reduceIte, reduceCtorEq, Int.reduceLT, Int.reduceLE, Int.reduceEq, Int.reduceNe, Int.reduceAdd, Int.reduceSub, Int.reduceMul, Int.reduceNeg, Int.reduceDiv, Int.reduceMod, Int.reduceTMod, Int.reduceTDiv, Int.reduceFDiv, Int.reducePow, Int.reduceToNat, U64n, BitVec.reduceOfInt, BitVec.reduceAnd, BitVec.reduceToNat, bits_u64, bits_i64]
      refine a_call [.arg 0] (hd) (ok1 rfl) ?_ ?_ ?_
      · simp (maxSteps := 2000000) (disch := omega) only [go_sem, Nat.reduceAdd, Nat.reduceSub, Nat.reduceMul, Nat.reduceBEq, Nat.reduceEqDiff, Nat.reduceLT, Nat.reduceLeDiff, Nat.reduceDiv, reduceIte, reduceCtorEq]
      · simp (maxSteps := 2000000) (disch := omega) only [go_sem, Nat.reduceAdd, Nat.reduceSub, Nat.reduceMul, Nat.reduceBEq, Nat.reduceEqDiff, Nat.reduceLT, Nat.reduceLeDiff, Nat.reduceDiv, reduceIte, reduceCtorEq]
      rintro _ _ ⟨rfl, rfl⟩
      simp (maxSteps := 2000000) (disch := omega) only [go_sem, Nat.reduceAdd, Nat.reduceSub, Nat.reduceMul, Nat.reduceBEq, Nat.reduceEqDiff, Nat.reduceLT, Nat.reduceLeDiff, Nat.reduceDiv, reduceIte, reduceCtorEq, Int.reduceLT, Int.reduceLE, Int.reduceEq, Int.reduceNe, Int.reduceAdd, Int.reduceSub, Int.reduceMul, Int.reduceNeg, Int.reduceDiv, Int.reduceMod, Int.reduceTMod, Int.reduceTDiv, Int.reduceFDiv, Int.reducePow, Int.reduceToNat, U64n, BitVec.reduceOfInt, BitVec.reduceAnd, BitVec.reduceToNat, bits_u64, bits_i64])
  · simp (maxSteps := 2000000) (disch := omega) only [go_sem, Nat.reduceAdd, Nat.reduceSub, Nat.reduceMul, Nat.reduceBEq, Nat.reduceEqDiff, Nat.reduceLT, Nat.reduceLeDiff, Nat.reduceDiv, reduceIte, reduceCtorEq, Int.reduceLT, Int.reduceLE, Int.reduceEq, Int.reduceNe, Int.reduceAdd, Int.reduceSub, Int.reduceMul, Int.reduceNeg, Int.reduceDiv, Int.reduceMod, Int.reduceTMod, Int.reduceTDiv, Int.reduceFDiv, Int.reducePow, Int.reduceToNat, U64n, BitVec.reduceOfInt, BitVec.reduceAnd, BitVec.reduceToNat, bits_u64, bits_i64]
    refine a_drawC (⟨[.undef, .undef, .undef, .undef, .undef, .undef, .undef, .undef, .undef, .undef, .undef, .undef, .undef, .undef, .undef, .undef, .undef, .undef, .undef, .undef, .undef, .undef, .undef, .undef, .undef, .undef, .undef, .undef, .undef, .undef], [(.arg 0, ctB (.arg 0) (c'.add ⟨5, player, other, frame, inp, n⟩))]⟩) (.take 0 (.take 1 (.take 2 (.take 3 (.both [(4, .both [(5, .both [(6, .both [(7, .take 8 (.take 9 (.both [(10, .done)])))])])]), (5, .both [(4, .both [(6, .both [(7, .take 8 (.take 9 (.both [(10, .done)])))])]), (6, .both [(4, .both [(7, .take 8 (.take 9 (.both [(10, .done)])))])])])]))))) (by kernel_rfl) (by kernel_rfl) ?_ ?_
    · simp (maxSteps := 2000000) (disch := omega) only [go_sem, Nat.reduceAdd, Nat.reduceSub, Nat.reduceMul, Nat.reduceBEq, Nat.reduceEqDiff, Nat.reduceLT, Nat.reduceLeDiff, Nat.reduceDiv, reduceIte, reduceCtorEq, Int.reduceLT, Int.reduceLE, Int.reduceEq, Int.reduceNe, Int.reduceAdd, Int.reduceSub, Int.reduceMul, Int.reduceNeg, Int.reduceDiv, Int.reduceMod, Int.reduceTMod, Int.reduceTDiv, Int.reduceFDiv, Int.reducePow, Int.reduceToNat, U64n, BitVec.reduceOfInt, BitVec.reduceAnd, BitVec.reduceToNat, bits_u64, bits_i64]
      repeat' (with_reducible apply And.intro)
      all_goals first | omega | exact leCs_refl _
    · simp (maxSteps := 2000000) (disch := omega) only [go_sem, Nat.reduceAdd, Nat.reduceSub, Nat.reduceMul, Nat.reduceBEq, Nat.reduceEqDiff, Nat.reduceLT, Nat.reduceLeDiff, Nat.reduceDiv, reduceIte, reduceCtorEq, Int.reduceLT, Int.reduceLE, Int.reduceEq, Int.reduceNe, Int.reduceAdd, Int.reduceSub, Int.reduceMul, Int.reduceNeg, Int.reduceDiv, Int.reduceMod, Int.reduceTMod, Int.reduceTDiv, Int.reduceFDiv, Int.reducePow, Int.reduceToNat, U64n, BitVec.reduceOfInt, BitVec.reduceAnd, BitVec.reduceToNat, bits_u64, bits_i64]
end Go.Proofs.Ytamcjecgkfmjkaa

/- Chapter 18: who is waited for. -/
open Go Go.RowKit
namespace Go.Proofs.Ytamcjecgkfmjkaa
set_option linter.unusedSimpArgs false
set_option linter.unusedVariables false
@[go_sem] theorem l_no1 {sz : Nat} (h : 0 < sz) : leC (.lst .no none sz []) (.lst .full (some true) 1 []) = True := eq_true (by simp [leC, h])
def k18e1 : Ev := ⟨1, 7, 9, 0, 0, 0⟩
def k18e2 : Ev := ⟨3, 7, 0, 0, 0, 0⟩
def k18a : Ct := (openP (ctNew [] 5 5) k18e1).add k18e1
def k18b : Ct := (inputP0 k18a k18e2).add k18e2
theorem k18_g : gameP [] 5 5 = 0 := by decide
theorem k18_1 : mayP18 (ctNew [] 5 5) ⟨1, 7, 9, 0, 0, 0⟩ = 0 := by decide
theorem k18_2 : mayP18 k18a ⟨3, 7, 0, 0, 0, 0⟩ = 0 := by decide
theorem k18_3 : owesP k18b 7 = false := by decide
theorem k18_4 : owesP k18b 9 = true := by decide
theorem k18_5 : k18b.events.length = 2 := rfl
set_option maxRecDepth 20000 in
set_option maxHeartbeats 4000000 in
theorem known_h18 : Holds Try.prog 11 [] [] (fun r h' => r = V.bool true ∧ h' = []) := by
  have hA := applyY1_h (ctNew [] 5 5) (openP (ctNew [] 5 5) k18e1) 7 9 0 0 0 k18_1 (by decide) (open_h (ctNew [] 5 5) k18e1 (by decide))
  have hB := applyY3_h k18a (inputP0 k18a k18e2) 7 0 0 0 0 (by decide) (by decide) k18_2 (by decide) (input0_h k18a k18e2 (by decide) (by decide) (by decide) rfl rfl)
  have e1 : (openP (ctNew [] 5 5) k18e1).add ⟨1, 7, 9, 0, 0, 0⟩ = k18a := rfl
  have e2 : (inputP0 k18a k18e2).add ⟨3, 7, 0, 0, 0, 0⟩ = k18b := rfl
  have eO7 := k18_3
  have eO9 := k18_4
  have eL := k18_5
  rw [e1] at hA
  rw [e2] at hB
  have hn := new_ok18 [] 5 5 (by decide) k18_g
  generalize ctNew [] 5 5 = c0 at hA hn
  generalize k18a = c1 at hA hB
  generalize k18b = c2 at hB eO7 eO9 eL
  refine holds_of_awp Try.func11 rfl (by decide +kernel) mixed Try.ntmps11 Try.results11 ?_
  simp only [entrySt, List.map_cons, List.map_nil, List.length_cons, List.length_nil, Nat.reduceAdd, Nat.reduceSub, List.replicate_succ, List.replicate_zero, List.cons_append, List.nil_append]
  simp (maxSteps := 2000000) (disch := omega) only [go_sem, Nat.reduceAdd, Nat.reduceSub, Nat.reduceMul, Nat.reduceBEq, Nat.reduceEqDiff, Nat.reduceLT, Nat.reduceLeDiff, Nat.reduceDiv, reduceIte, reduceCtorEq]
  refine a_call [] (hn) ok0 ?_ ?_ ?_
  · simp (maxSteps := 2000000) (disch := omega) only [go_sem, Nat.reduceAdd, Nat.reduceSub, Nat.reduceMul, Nat.reduceBEq, Nat.reduceEqDiff, Nat.reduceLT, Nat.reduceLeDiff, Nat.reduceDiv, reduceIte, reduceCtorEq]
  · simp (maxSteps := 2000000) (disch := omega) only [go_sem, Nat.reduceAdd, Nat.reduceSub, Nat.reduceMul, Nat.reduceBEq, Nat.reduceEqDiff, Nat.reduceLT, Nat.reduceLeDiff, Nat.reduceDiv, reduceIte, reduceCtorEq]
  rintro _ _ ⟨rfl, rfl⟩
  simp (maxSteps := 2000000) (disch := omega) only [go_sem, Nat.reduceAdd, Nat.reduceSub, Nat.reduceMul, Nat.reduceBEq, Nat.reduceEqDiff, Nat.reduceLT, Nat.reduceLeDiff, Nat.reduceDiv, reduceIte, reduceCtorEq, Int.reduceLT, Int.reduceLE, Int.reduceEq, Int.reduceNe, Int.reduceAdd, Int.reduceSub, Int.reduceMul, Int.reduceNeg, Int.reduceDiv, Int.reduceMod, Int.reduceTMod, Int.reduceTDiv, Int.reduceFDiv, Int.reducePow, Int.reduceToNat, U64n, BitVec.reduceOfInt, BitVec.reduceAnd, BitVec.reduceToNat, bits_u64, bits_i64]
  refine a_call [.loc [5, 0, 14]] (hA) (ok1 rfl) ?_ ?_ ?_
  · simp (maxSteps := 2000000) (disch := omega) only [go_sem, Nat.reduceAdd, Nat.reduceSub, Nat.reduceMul, Nat.reduceBEq, Nat.reduceEqDiff, Nat.reduceLT, Nat.reduceLeDiff, Nat.reduceDiv, reduceIte, reduceCtorEq]
  · simp (maxSteps := 2000000) (disch := omega) only [go_sem, Nat.reduceAdd, Nat.reduceSub, Nat.reduceMul, Nat.reduceBEq, Nat.reduceEqDiff, Nat.reduceLT, Nat.reduceLeDiff, Nat.reduceDiv, reduceIte, reduceCtorEq]
  rintro _ _ ⟨rfl, rfl⟩
  simp (maxSteps := 2000000) (disch := omega) only [go_sem, Nat.reduceAdd, Nat.reduceSub, Nat.reduceMul, Nat.reduceBEq, Nat.reduceEqDiff, Nat.reduceLT, Nat.reduceLeDiff, Nat.reduceDiv, reduceIte, reduceCtorEq, Int.reduceLT, Int.reduceLE, Int.reduceEq, Int.reduceNe, Int.reduceAdd, Int.reduceSub, Int.reduceMul, Int.reduceNeg, Int.reduceDiv, Int.reduceMod, Int.reduceTMod, Int.reduceTDiv, Int.reduceFDiv, Int.reducePow, Int.reduceToNat, U64n, BitVec.reduceOfInt, BitVec.reduceAnd, BitVec.reduceToNat, bits_u64, bits_i64]
  refine a_call [.loc [5, 0, 14]] (hB) (ok1 rfl) ?_ ?_ ?_
  · simp (maxSteps := 2000000) (disch := omega) only [go_sem, Nat.reduceAdd, Nat.reduceSub, Nat.reduceMul, Nat.reduceBEq, Nat.reduceEqDiff, Nat.reduceLT, Nat.reduceLeDiff, Nat.reduceDiv, reduceIte, reduceCtorEq]
  · simp (maxSteps := 2000000) (disch := omega) only [go_sem, Nat.reduceAdd, Nat.reduceSub, Nat.reduceMul, Nat.reduceBEq, Nat.reduceEqDiff, Nat.reduceLT, Nat.reduceLeDiff, Nat.reduceDiv, reduceIte, reduceCtorEq]
  rintro _ _ ⟨rfl, rfl⟩
  simp (maxSteps := 2000000) (disch := omega) only [go_sem, Nat.reduceAdd, Nat.reduceSub, Nat.reduceMul, Nat.reduceBEq, Nat.reduceEqDiff, Nat.reduceLT, Nat.reduceLeDiff, Nat.reduceDiv, reduceIte, reduceCtorEq, Int.reduceLT, Int.reduceLE, Int.reduceEq, Int.reduceNe, Int.reduceAdd, Int.reduceSub, Int.reduceMul, Int.reduceNeg, Int.reduceDiv, Int.reduceMod, Int.reduceTMod, Int.reduceTDiv, Int.reduceFDiv, Int.reducePow, Int.reduceToNat, U64n, BitVec.reduceOfInt, BitVec.reduceAnd, BitVec.reduceToNat, bits_u64, bits_i64]
  refine a_call [.loc [5, 0, 14]] (owes_h c2 7) (ok1 rfl) ?_ ?_ ?_
  · simp (maxSteps := 2000000) (disch := omega) only [go_sem, Nat.reduceAdd, Nat.reduceSub, Nat.reduceMul, Nat.reduceBEq, Nat.reduceEqDiff, Nat.reduceLT, Nat.reduceLeDiff, Nat.reduceDiv, reduceIte, reduceCtorEq]
  · simp (maxSteps := 2000000) (disch := omega) only [go_sem, Nat.reduceAdd, Nat.reduceSub, Nat.reduceMul, Nat.reduceBEq, Nat.reduceEqDiff, Nat.reduceLT, Nat.reduceLeDiff, Nat.reduceDiv, reduceIte, reduceCtorEq]
  rintro _ _ ⟨rfl, rfl⟩
  simp (maxSteps := 2000000) (disch := omega) only [go_sem, Nat.reduceAdd, Nat.reduceSub, Nat.reduceMul, Nat.reduceBEq, Nat.reduceEqDiff, Nat.reduceLT, Nat.reduceLeDiff, Nat.reduceDiv, reduceIte, reduceCtorEq, eO7]
  refine a_call [.loc [5, 0, 14]] (owes_h c2 9) (ok1 rfl) ?_ ?_ ?_
  · simp (maxSteps := 2000000) (disch := omega) only [go_sem, Nat.reduceAdd, Nat.reduceSub, Nat.reduceMul, Nat.reduceBEq, Nat.reduceEqDiff, Nat.reduceLT, Nat.reduceLeDiff, Nat.reduceDiv, reduceIte, reduceCtorEq]
  · simp (maxSteps := 2000000) (disch := omega) only [go_sem, Nat.reduceAdd, Nat.reduceSub, Nat.reduceMul, Nat.reduceBEq, Nat.reduceEqDiff, Nat.reduceLT, Nat.reduceLeDiff, Nat.reduceDiv, reduceIte, reduceCtorEq]
  rintro _ _ ⟨rfl, rfl⟩
  simp (maxSteps := 2000000) (disch := omega) only [go_sem, Nat.reduceAdd, Nat.reduceSub, Nat.reduceMul, Nat.reduceBEq, Nat.reduceEqDiff, Nat.reduceLT, Nat.reduceLeDiff, Nat.reduceDiv, reduceIte, reduceCtorEq, eO9]
  refine a_call [.loc [5, 0, 14]] (events_h c2 (by omega)) (ok1 rfl) ?_ ?_ ?_
  · simp (maxSteps := 2000000) (disch := omega) only [go_sem, Nat.reduceAdd, Nat.reduceSub, Nat.reduceMul, Nat.reduceBEq, Nat.reduceEqDiff, Nat.reduceLT, Nat.reduceLeDiff, Nat.reduceDiv, reduceIte, reduceCtorEq]
  · simp (maxSteps := 2000000) (disch := omega) only [go_sem, Nat.reduceAdd, Nat.reduceSub, Nat.reduceMul, Nat.reduceBEq, Nat.reduceEqDiff, Nat.reduceLT, Nat.reduceLeDiff, Nat.reduceDiv, reduceIte, reduceCtorEq]
  rintro _ _ ⟨rfl, rfl⟩
  simp (maxSteps := 2000000) (disch := omega) only [go_sem, Nat.reduceAdd, Nat.reduceSub, Nat.reduceMul, Nat.reduceBEq, Nat.reduceEqDiff, Nat.reduceLT, Nat.reduceLeDiff, Nat.reduceDiv, reduceIte, reduceCtorEq, eL]
end Go.Proofs.Ytamcjecgkfmjkaa

/- Chapter 18: how a match goes on, input by input. -/
open Go Go.RowKit
namespace Go.Proofs.Ytamcjecgkfmjkaa
set_option linter.unusedSimpArgs false
set_option linter.unusedVariables false
/-- two players in a match that goes on, frame by frame -/
structure Go18 (code : List (Int × Int)) (cap fuel p0 p1 : Int) (i0 i1 : List UInt16) (ps : List (UInt16 × UInt16)) (st : Sta) (k : Nat) (c : Ct) : Prop where
  code : c.code = code
  cap : c.cap = cap
  fuel : c.fuel = fuel
  p0 : c.p0 = p0
  p1 : c.p1 = p1
  opn : c.opn = true
  over : c.over = false
  in0 : c.in0 = i0
  in1 : c.in1 = i1
  pairs : c.pairs = ps
  st : c.st = st
  ev : c.events.length = k
  l0 : c.l0 = 0
  l1 : c.l1 = 0
section
variable {code : List (Int × Int)} {cap fuel p0 p1 : Int} {i0 i1 : List UInt16} {ps : List (UInt16 × UInt16)} {st : Sta} {k : Nat} {c : Ct}
theorem Go18.seat0 (h : Go18 code cap fuel p0 p1 i0 i1 ps st k c) : seatP c p0 = 0 := by unfold seatP; rw [if_pos h.p0]
theorem Go18.seat1 (h : Go18 code cap fuel p0 p1 i0 i1 ps st k c) (hne : p0 ≠ p1) : seatP c p1 = 1 := by unfold seatP; rw [if_neg (by rw [h.p0]; exact hne), if_pos h.p1]
theorem Go18.act0 (h : Go18 code cap fuel p0 p1 i0 i1 ps st k c) (ho : st.over = false) : actP c p0 = 0 := by
  unfold actP; rw [h.opn, h.over, h.st, ho, h.seat0, if_neg (by simp), if_neg (by simp), if_neg (by omega)]
theorem Go18.act1 (h : Go18 code cap fuel p0 p1 i0 i1 ps st k c) (hne : p0 ≠ p1) (ho : st.over = false) : actP c p1 = 0 := by
  unfold actP; rw [h.opn, h.over, h.st, ho, h.seat1 hne, if_neg (by simp), if_neg (by simp), if_neg (by omega)]
theorem may_in (c : Ct) (p f : Int) (x : UInt16) : mayP18 c ⟨3, p, 0, f, x, 0⟩ = mayInputP c ⟨3, p, 0, f, x, 0⟩ := by
  unfold mayP18 may1P bareB; simp
theorem win_ok {cap : Int} {mine other : List UInt16} {p f : Int} {x : UInt16} (h0 : f = mine.length) (h1 : (mine.length : Int) < cap) (h2 : (mine.length : Int) - other.length < 8) : winP cap mine other ⟨3, p, 0, f, x, 0⟩ = 0 := by
  subst h0
  unfold winP
  rw [if_neg (by simp only; omega), if_neg (by simp only; omega), if_neg (by simp only; omega), if_neg (by simp only; omega)]
theorem win_far {cap : Int} {mine other : List UInt16} {p f : Int} {x : UInt16} (h0 : f = mine.length) (h1 : (mine.length : Int) < cap) (h2 : 8 ≤ (mine.length : Int) - other.length) : winP cap mine other ⟨3, p, 0, f, x, 0⟩ = 13 := by
  subst h0
  unfold winP
  rw [if_neg (by simp only; omega), if_neg (by simp only; omega), if_neg (by simp only; omega), if_pos (by simp only; omega)]
/-- the first player does something -/
theorem Go18.in_0 (h : Go18 code cap fuel p0 p1 i0 i1 ps st k c) (x : UInt16) (ev : Ev) (he : ev.player = p0) (hx : ev.inp = x) :
    Go18 code cap fuel p0 p1 (i0 ++ [x]) i1 (cuP code cap fuel (i0 ++ [x]) i1 (min (i0 ++ [x]).length i1.length - ps.length) ps st).1 (cuP code cap fuel (i0 ++ [x]) i1 (min (i0 ++ [x]).length i1.length - ps.length) ps st).2 (k + 1) ((inputP c ev).add ev) := by
  have hs : seatP c ev.player = 0 := by rw [he]; exact h.seat0
  have e0 : inputP0 c ev = { c with in0 := c.in0 ++ [ev.inp] } := by unfold inputP0; rw [if_pos hs]
  have e1 : inputP c ev = goP { c with in0 := c.in0 ++ [ev.inp] } := by unfold inputP; rw [e0]
  rw [e1]
  obtain ⟨h1, h2, h3, h4, h5, h6, h7, h8, h9, h10, h11, h12, h13, h14⟩ := h
  subst hx
  refine ⟨h1, h2, h3, h4, h5, h6, h7, ?_, h9, ?_, ?_, ?_, h13, h14⟩
  · show c.in0 ++ [ev.inp] = _; rw [h8]
  · unfold goP Ct.add; simp only [h1, h2, h3, h8, h9, h10, h11]
  · unfold goP Ct.add; simp only [h1, h2, h3, h8, h9, h10, h11]
  · show (c.events ++ [ev]).length = _; rw [List.length_append, h12]; rfl
theorem Go18.in_1 (h : Go18 code cap fuel p0 p1 i0 i1 ps st k c) (hne : p0 ≠ p1) (x : UInt16) (ev : Ev) (he : ev.player = p1) (hx : ev.inp = x) :
    Go18 code cap fuel p0 p1 i0 (i1 ++ [x]) (cuP code cap fuel i0 (i1 ++ [x]) (min i0.length (i1 ++ [x]).length - ps.length) ps st).1 (cuP code cap fuel i0 (i1 ++ [x]) (min i0.length (i1 ++ [x]).length - ps.length) ps st).2 (k + 1) ((inputP c ev).add ev) := by
  have hs : seatP c ev.player = 1 := by rw [he]; exact h.seat1 hne
  have e0 : inputP0 c ev = { c with in1 := c.in1 ++ [ev.inp] } := by unfold inputP0; rw [if_neg (by omega)]
  have e1 : inputP c ev = goP { c with in1 := c.in1 ++ [ev.inp] } := by unfold inputP; rw [e0]
  rw [e1]
  obtain ⟨h1, h2, h3, h4, h5, h6, h7, h8, h9, h10, h11, h12, h13, h14⟩ := h
  subst hx
  refine ⟨h1, h2, h3, h4, h5, h6, h7, h8, ?_, ?_, ?_, ?_, h13, h14⟩
  · show c.in1 ++ [ev.inp] = _; rw [h9]
  · unfold goP Ct.add; simp only [h1, h2, h3, h8, h9, h10, h11]
  · unfold goP Ct.add; simp only [h1, h2, h3, h8, h9, h10, h11]
  · show (c.events ++ [ev]).length = _; rw [List.length_append, h12]; rfl
/-- .. taken by Apply -/
theorem Go18.apply_in (h : Go18 code cap fuel p0 p1 i0 i1 ps st k c) (hg : gameP code cap fuel = 0) (hB : ∀ x ∈ st.cells, B32 x) (l0 : i0.length ≤ 1000) (l1 : i1.length ≤ 1000) (lp : ps.length ≤ 1000) (lk : k ≤ 100000) (p f : Int) (x : UInt16) (hm : mayP18 c ⟨3, p, 0, f, x, 0⟩ = 0) (hs : 0 ≤ seatP c p) :
    Holds Try.prog 13 [.ptr (.arg 0) 0, .ev ⟨3, p, 0, f, x, 0⟩] [(.arg 0, ctB (.arg 0) c)] (fun r h' => r = .int .i64 0 ∧ h' = [(.arg 0, ctB (.arg 0) ((inputP c ⟨3, p, 0, f, x, 0⟩).add ⟨3, p, 0, f, x, 0⟩))]) := by
  have m0 : c.in0.length ≤ 1000000 := by rw [h.in0]; omega
  have m1 : c.in1.length ≤ 1000000 := by rw [h.in1]; omega
  refine applyY3_h c (inputP c ⟨3, p, 0, f, x, 0⟩) p 0 f 0 x m0 m1 hm ?_ (input_h c ⟨3, p, 0, f, x, 0⟩ m0 m1 (by rw [h.pairs]; omega) hs (by rw [h.code, h.cap, h.fuel]; exact hg) (by rw [h.st]; exact hB))
  have e : (inputP c ⟨3, p, 0, f, x, 0⟩).events = c.events := by unfold inputP goP inputP0; split <;> rfl
  rw [e, h.ev]; omega
theorem cu0 {a b : List UInt16} : cuP code cap fuel a b 0 ps st = (ps, st) := rfl
theorem cu1 {a b : List UInt16} (ho : st.over = false) (hl : ps.length < min a.length b.length) : cuP code cap fuel a b 1 ps st = (ps ++ [(a.getD ps.length 0, b.getD ps.length 0)], (stepP code cap fuel st (a.getD ps.length 0) (b.getD ps.length 0)).1) := by
  unfold cuP; rw [if_pos ⟨ho, hl⟩]; rfl
/-- both did their frame -/
theorem Go18.both (h : Go18 code cap fuel p0 p1 i0 i1 ps st k c) (hne : p0 ≠ p1) (hl : i0.length = ps.length) (hl1 : i1.length = ps.length) (ho : st.over = false) (x y : UInt16) (f : Int) :
    Go18 code cap fuel p0 p1 (i0 ++ [x]) i1 ps st (k + 1) ((inputP c ⟨3, p0, 0, f, x, 0⟩).add ⟨3, p0, 0, f, x, 0⟩) ∧
    Go18 code cap fuel p0 p1 (i0 ++ [x]) (i1 ++ [y]) (ps ++ [(x, y)]) (stepP code cap fuel st x y).1 (k + 2) ((inputP ((inputP c ⟨3, p0, 0, f, x, 0⟩).add ⟨3, p0, 0, f, x, 0⟩) ⟨3, p1, 0, f, y, 0⟩).add ⟨3, p1, 0, f, y, 0⟩) := by
  have a := h.in_0 x ⟨3, p0, 0, f, x, 0⟩ rfl rfl
  rw [show min (i0 ++ [x]).length i1.length - ps.length = 0 by simp; omega, cu0] at a
  have b := a.in_1 hne y ⟨3, p1, 0, f, y, 0⟩ rfl rfl
  rw [show min (i0 ++ [x]).length (i1 ++ [y]).length - ps.length = 1 by simp; omega, cu1 ho (by simp; omega)] at b
  have e1 : (i0 ++ [x]).getD ps.length 0 = x := by rw [← hl]; simp
  have e2 : (i1 ++ [y]).getD ps.length 0 = y := by rw [← hl1]; simp
  rw [e1, e2] at b
  exact ⟨a, b⟩
end
/-- a game without instructions -/
theorem step_nil {cap fuel : Int} {s : Sta} {x y : UInt16} (hg : gameP [] cap fuel = 0) (hi : isP s = true) (hz : ¬ U32 s.seed = 0) (ho : s.over = false) (hf : s.frame + 1 < cap) : (stepP [] cap fuel s x y).1 = s.wFrame (s.frame + 1) := by
  unfold stepP
  rw [if_neg (by rw [hg]; simp), if_neg (by rintro (h | h); rw [hi] at h; cases h; exact hz h), if_neg (by rintro (h | h); rw [ho] at h; cases h; omega)]
  show stepM [] cap fuel.toNat s x y = _
  unfold stepM
  have e : ∀ f, runM [] f (mac0 s x y) = (0, mac0 s x y) := fun f => by cases f <;> exact if_neg (by rintro ⟨h, _⟩; exact absurd h (by show ¬ (0 : Int) < 0; omega))
  rw [e, if_pos rfl]
  unfold endS
  have h2 : ((0, mac0 s x y) : Int × Mac).2.st = s := rfl
  rw [h2, if_neg (fun h => by have := h.1; omega)]
end Go.Proofs.Ytamcjecgkfmjkaa

/- Chapter 18: a match that has begun. -/
open Go Go.RowKit
namespace Go.Proofs.Ytamcjecgkfmjkaa
set_option linter.unusedSimpArgs false
set_option linter.unusedVariables false
def begE : Ev := ⟨1, 3, 8, 0, 0, 1⟩
def begL : List (Int × Int) := [(2, 0), (16, 0), (4, 0), (3, 0)]
def begC (lim : Int) : Ct := (openP (ctNew begL lim 9) begE).add begE
theorem beg_g {lim : Int} (h1 : 1 ≤ lim) (h2 : lim ≤ 600) : gameP begL lim 9 = 0 := by
  have e : chkP begL = (0, 0) := by decide
  unfold gameP
  rw [e, if_neg (by simp), if_neg (by omega)]
@[go_sem] theorem ins_beg : ins begL = [.val (.int .i64 2), .val (.int .i64 0), .val (.int .i64 16), .val (.int .i64 0), .val (.int .i64 4), .val (.int .i64 0), .val (.int .i64 3), .val (.int .i64 0)] := nr rfl
theorem beg_1 {lim : Int} : mayP18 (ctNew begL lim 9) ⟨1, 3, 8, 0, 0, 1⟩ = 0 := rfl
set_option maxRecDepth 20000 in
set_option maxHeartbeats 4000000 in
theorem begun_h (lim : Int) (h1 : 1 ≤ lim) (h2 : lim ≤ 600) : Holds Try.prog 18 [.int .i64 lim] [] (fun r h' => r = .tup [.c (.ptr (.loc [14, 0, 14]) 0), .c (.val (.bool true))] ∧ h' = [(.loc [14, 0, 14], ctB (.loc [14, 0, 14]) (begC lim))]) := by
  have hA := applyY1_h (ctNew begL lim 9) (openP (ctNew begL lim 9) begE) 3 8 0 1 0 beg_1 (by show (0 : Nat) ≤ 1000000; omega) (open_h (ctNew begL lim 9) begE (by decide))
  have e1 : (openP (ctNew begL lim 9) begE).add ⟨1, 3, 8, 0, 0, 1⟩ = begC lim := rfl
  rw [e1] at hA
  have hn := new_ok18 begL lim 9 (by decide) (beg_g h1 h2)
  generalize ctNew begL lim 9 = c0 at hA hn
  generalize begC lim = c1 at hA ⊢
  refine holds_of_awp Try.func18 rfl (by decide +kernel) mixed Try.ntmps18 Try.results18 ?_
  simp only [entrySt, List.map_cons, List.map_nil, List.length_cons, List.length_nil, Nat.reduceAdd, Nat.reduceSub, List.replicate_succ, List.replicate_zero, List.cons_append, List.nil_append]
  simp (maxSteps := 2000000) (disch := omega) only [go_sem, Nat.reduceAdd, Nat.reduceSub, Nat.reduceMul, Nat.reduceBEq, Nat.reduceEqDiff, Nat.reduceLT, Nat.reduceLeDiff, Nat.reduceDiv, reduceIte, reduceCtorEq]
  refine a_call [] (hn) ok0 ?_ ?_ ?_
  · simp (maxSteps := 2000000) (disch := omega) only [go_sem, Nat.reduceAdd, Nat.reduceSub, Nat.reduceMul, Nat.reduceBEq, Nat.reduceEqDiff, Nat.reduceLT, Nat.reduceLeDiff, Nat.reduceDiv, reduceIte, reduceCtorEq]
  · simp (maxSteps := 2000000) (disch := omega) only [go_sem, Nat.reduceAdd, Nat.reduceSub, Nat.reduceMul, Nat.reduceBEq, Nat.reduceEqDiff, Nat.reduceLT, Nat.reduceLeDiff, Nat.reduceDiv, reduceIte, reduceCtorEq]
  rintro _ _ ⟨rfl, rfl⟩
  simp (maxSteps := 2000000) (disch := omega) only [go_sem, Nat.reduceAdd, Nat.reduceSub, Nat.reduceMul, Nat.reduceBEq, Nat.reduceEqDiff, Nat.reduceLT, Nat.reduceLeDiff, Nat.reduceDiv, reduceIte, reduceCtorEq, Int.reduceLT, Int.reduceLE, Int.reduceEq, Int.reduceNe, Int.reduceAdd, Int.reduceSub, Int.reduceMul, Int.reduceNeg, Int.reduceDiv, Int.reduceMod, Int.reduceTMod, Int.reduceTDiv, Int.reduceFDiv, Int.reducePow, Int.reduceToNat, U64n, BitVec.reduceOfInt, BitVec.reduceAnd, BitVec.reduceToNat, bits_u64, bits_i64]
  refine a_call [.loc [14, 0, 14]] (hA) (ok1 rfl) ?_ ?_ ?_
  · simp (maxSteps := 2000000) (disch := omega) only [go_sem, Nat.reduceAdd, Nat.reduceSub, Nat.reduceMul, Nat.reduceBEq, Nat.reduceEqDiff, Nat.reduceLT, Nat.reduceLeDiff, Nat.reduceDiv, reduceIte, reduceCtorEq]
  · simp (maxSteps := 2000000) (disch := omega) only [go_sem, Nat.reduceAdd, Nat.reduceSub, Nat.reduceMul, Nat.reduceBEq, Nat.reduceEqDiff, Nat.reduceLT, Nat.reduceLeDiff, Nat.reduceDiv, reduceIte, reduceCtorEq]
  rintro _ _ ⟨rfl, rfl⟩
  simp (maxSteps := 2000000) (disch := omega) only [go_sem, Nat.reduceAdd, Nat.reduceSub, Nat.reduceMul, Nat.reduceBEq, Nat.reduceEqDiff, Nat.reduceLT, Nat.reduceLeDiff, Nat.reduceDiv, reduceIte, reduceCtorEq, Int.reduceLT, Int.reduceLE, Int.reduceEq, Int.reduceNe, Int.reduceAdd, Int.reduceSub, Int.reduceMul, Int.reduceNeg, Int.reduceDiv, Int.reduceMod, Int.reduceTMod, Int.reduceTDiv, Int.reduceFDiv, Int.reducePow, Int.reduceToNat, U64n, BitVec.reduceOfInt, BitVec.reduceAnd, BitVec.reduceToNat, bits_u64, bits_i64]
@[go_sem ↓ 1200] theorem i64_and1 {a : Int} {V' : V → Prop} : aInt .and .i64 a .i64 1 V' = V' (.int .i64 (a % 2)) := by
  rw [e_and]
  have h : (BitVec.ofInt IntKind.i64.bits a &&& BitVec.ofInt IntKind.i64.bits 1).toNat = (a % 2).toNat := by
    show (BitVec.ofInt 64 a &&& BitVec.ofInt 64 1).toNat = _
    rw [BitVec.toNat_and, BitVec.toNat_ofInt, BitVec.toNat_ofInt]
    show ((a % ((2 ^ 64 : Nat) : Int)).toNat &&& 1) = _
    rw [Nat.and_one_is_mod]
    omega
  rw [h]
  have : a % 2 = 0 ∨ a % 2 = 1 := by omega
  rcases this with e | e <;> rw [e] <;> rfl
end Go.Proofs.Ytamcjecgkfmjkaa

/- The law ContestForfeits in the logic. -/
open Go Go.RowKit
namespace Go.Proofs.Ytamcjecgkfmjkaa
set_option linter.unusedSimpArgs false
set_option linter.unusedVariables false
def ffE : Ev := ⟨1, 3, 8, 0, 0, 0⟩
/-- after so many frames -/
def ff (x : UInt16) : Nat → Ct
  | 0 => (openP (ctNew [] 100 5) ffE).add ffE
  | n + 1 => (inputP ((inputP (ff x n) ⟨3, 3, 0, n, x, 0⟩).add ⟨3, 3, 0, n, x, 0⟩) ⟨3, 8, 0, n, x, 0⟩).add ⟨3, 8, 0, n, x, 0⟩
def ffM (x : UInt16) (n : Nat) : Ct := (inputP (ff x n) ⟨3, 3, 0, n, x, 0⟩).add ⟨3, 3, 0, n, x, 0⟩
def ffS (n : Nat) : Sta := (startS 0).wFrame n
theorem ff_g : gameP [] 100 5 = 0 := by decide
theorem ff_go (x : UInt16) : ∀ n, n ≤ 20 → Go18 [] 100 5 3 8 (List.replicate n x) (List.replicate n x) (List.replicate n (x, x)) (ffS n) (2 * n + 1) (ff x n)
  | 0, _ => ⟨rfl, rfl, rfl, rfl, rfl, rfl, rfl, rfl, rfl, rfl, rfl, rfl, rfl, rfl⟩
  | n + 1, h => by
    have ih := ff_go x n (by omega)
    have hb := (ih.both (by omega) (by simp) (by simp) rfl x x (n : Int)).2
    have hs : (stepP [] 100 5 (ffS n) x x).1 = ffS (n + 1) := by
      rw [step_nil ff_g (by
        show isP ((startS 0).wFrame (n : Int)) = true
        have e1 : decide ((0 : Int) ≤ n) = true := decide_eq_true (by omega)
        have e2 : decide ((n : Int) ≤ 600) = true := decide_eq_true (by omega)
        unfold isP
        show (decide ((0 : Int) ≤ n) && decide ((n : Int) ≤ 600) && _ && _ && _) = true
        rw [e1, e2]; rfl) (by show ¬ (1 : Int) = 0; omega) rfl (by show (n : Int) + 1 < 100; omega)]
      show (startS 0).wFrame ((n : Int) + 1) = (startS 0).wFrame ((n + 1 : Nat) : Int)
      rw [Int.natCast_add]; rfl
    rw [hs] at hb
    rw [List.replicate_succ', List.replicate_succ']
    exact hb
theorem ff_mid (x : UInt16) (n : Nat) (h : n ≤ 20) : Go18 [] 100 5 3 8 (List.replicate n x ++ [x]) (List.replicate n x) (List.replicate n (x, x)) (ffS n) (2 * n + 2) (ffM x n) :=
  ((ff_go x n h).both (by omega) (by simp) (by simp) rfl x x (n : Int)).1
theorem ffS_B (n : Nat) : ∀ x ∈ (ffS n).cells, B32 x := fun x hx => by
  have : x = 0 := List.eq_of_mem_replicate hx
  rw [this]; exact B32_0
theorem ff_1 (x : UInt16) (n : Nat) (h : n ≤ 20) : Holds Try.prog 13 [.ptr (.arg 0) 0, .ev ⟨3, 3, 0, n, x, 0⟩] [(.arg 0, ctB (.arg 0) (ff x n))] (fun r h' => r = .int .i64 0 ∧ h' = [(.arg 0, ctB (.arg 0) (ffM x n))]) := by
  have hg := ff_go x n h
  refine hg.apply_in ff_g (ffS_B n) (by simp; omega) (by simp; omega) (by simp; omega) (by omega) 3 n x ?_ (by rw [hg.seat0]; omega)
  rw [may_in]
  unfold mayInputP
  simp only
  rw [hg.act0 rfl, hg.seat0, if_neg (by simp), if_pos rfl, hg.cap, hg.in0, hg.in1]
  exact win_ok (by simp) (by simp; omega) (by simp)
theorem ff_2 (x : UInt16) (n : Nat) (h : n ≤ 20) : Holds Try.prog 13 [.ptr (.arg 0) 0, .ev ⟨3, 8, 0, n, x, 0⟩] [(.arg 0, ctB (.arg 0) (ffM x n))] (fun r h' => r = .int .i64 0 ∧ h' = [(.arg 0, ctB (.arg 0) (ff x (n + 1)))]) := by
  have hg := ff_mid x n h
  refine hg.apply_in ff_g (ffS_B n) (by simp; omega) (by simp; omega) (by simp; omega) (by omega) 8 n x ?_ (by rw [hg.seat1 (by omega)]; omega)
  rw [may_in]
  unfold mayInputP
  simp only
  rw [hg.act1 (by omega) rfl, hg.seat1 (by omega), if_neg (by simp), if_neg (by omega), hg.cap, hg.in0, hg.in1]
  exact win_ok (by simp) (by simp; omega) (by simp; omega)
/-- who gives up -/
def ffP (k : Int) : Int := if k = 0 then 3 else 8
def ffG (x : UInt16) (n : Nat) (k : Int) : Ct := (forfeitP (ff x n) ⟨4, ffP k, 0, 0, 0, 0⟩).add ⟨4, ffP k, 0, 0, 0, 0⟩
theorem ff_no (x : UInt16) (n : Nat) (h : n ≤ 20) : Holds Try.prog 13 [.ptr (.arg 0) 0, .ev ⟨4, 4, 0, 0, 0, 0⟩] [(.arg 0, ctB (.arg 0) (ff x n))] (fun r h' => r = .int .i64 14 ∧ h' = [(.arg 0, ctB (.arg 0) (ff x n))]) := by
  have hg := ff_go x n h
  have e : mayP18 (ff x n) ⟨4, 4, 0, 0, 0, 0⟩ = 14 := by
    show actP (ff x n) 4 = 14
    unfold actP seatP
    rw [hg.opn, hg.over, hg.st, hg.p0, hg.p1]
    rfl
  have := applyN4_h (ff x n) 4 0 0 0 0 (by rw [e]; omega)
  rw [e] at this
  exact this
theorem ff_seat (x : UInt16) (n : Nat) (h : n ≤ 20) {k : Int} (hk : k = 0 ∨ k = 1) : seatP (ff x n) (ffP k) = k := by
  have hg := ff_go x n h
  rcases hk with rfl | rfl
  · exact hg.seat0
  · exact hg.seat1 (by omega)
theorem ff_yes (x : UInt16) (n : Nat) (h : n ≤ 20) {k : Int} (hk : k = 0 ∨ k = 1) : Holds Try.prog 13 [.ptr (.arg 0) 0, .ev ⟨4, ffP k, 0, 0, 0, 0⟩] [(.arg 0, ctB (.arg 0) (ff x n))] (fun r h' => r = .int .i64 0 ∧ h' = [(.arg 0, ctB (.arg 0) (ffG x n k))]) := by
  have hg := ff_go x n h
  have hs := ff_seat x n h hk
  refine applyY4_h (ff x n) _ (ffP k) 0 0 0 0 ?_ ?_ (forfeit_h (ff x n) ⟨4, ffP k, 0, 0, 0, 0⟩ (by show 0 ≤ seatP (ff x n) (ffP k); rw [hs]; omega))
  · show actP (ff x n) (ffP k) = 0
    rcases hk with rfl | rfl
    · exact hg.act0 rfl
    · exact hg.act1 (by omega) rfl
  · show (ff x n).events.length ≤ 1000000
    rw [hg.ev]; omega
theorem ffG_over (x : UInt16) (n : Nat) (k : Int) : (ffG x n k).over = true := rfl
theorem ffG_why (x : UInt16) (n : Nat) (k : Int) : (ffG x n k).why = 3 := rfl
theorem ffG_win (x : UInt16) (n : Nat) (h : n ≤ 20) {k : Int} (hk : k = 0 ∨ k = 1) : (ffG x n k).winner = 1 - k := by
  show 1 - seatP (ff x n) (ffP k) = 1 - k
  rw [ff_seat x n h hk]
theorem ffG_act (x : UInt16) (n : Nat) (h : n ≤ 20) (k p : Int) : actP (ffG x n k) p = 12 := by
  have hg := ff_go x n h
  have ho : (ffG x n k).opn = true := hg.opn
  unfold actP
  rw [ho, ffG_over, if_neg (by simp), if_pos (by simp)]
theorem ff_12 (x : UInt16) (n : Nat) (h : n ≤ 20) (k : Int) (z : UInt16) : Holds Try.prog 13 [.ptr (.arg 0) 0, .ev ⟨3, 3, 0, n, z, 0⟩] [(.arg 0, ctB (.arg 0) (ffG x n k))] (fun r h' => r = .int .i64 12 ∧ h' = [(.arg 0, ctB (.arg 0) (ffG x n k))]) := by
  have hg := ff_go x n h
  have e : mayP18 (ffG x n k) ⟨3, 3, 0, n, z, 0⟩ = 12 := by
    rw [may_in]
    unfold mayInputP
    simp only
    rw [ffG_act x n h, if_pos (by omega)]
  have := applyN3_h (ffG x n k) 3 0 n 0 z (by show (ff x n).in0.length ≤ 1000000; rw [hg.in0]; simp; omega) (by show (ff x n).in1.length ≤ 1000000; rw [hg.in1]; simp; omega) (by rw [e]; omega)
  rw [e] at this
  exact this
theorem ff_12b (x : UInt16) (n : Nat) (h : n ≤ 20) (k p : Int) : Holds Try.prog 13 [.ptr (.arg 0) 0, .ev ⟨4, p, 0, 0, 0, 0⟩] [(.arg 0, ctB (.arg 0) (ffG x n k))] (fun r h' => r = .int .i64 12 ∧ h' = [(.arg 0, ctB (.arg 0) (ffG x n k))]) := by
  have e : mayP18 (ffG x n k) ⟨4, p, 0, 0, 0, 0⟩ = 12 := ffG_act x n h k p
  have := applyN4_h (ffG x n k) p 0 0 0 0 (by rw [e]; omega)
  rw [e] at this
  exact this
theorem ff_12c (x : UInt16) (n : Nat) (h : n ≤ 20) (k : Int) : Holds Try.prog 13 [.ptr (.arg 0) 0, .ev ⟨2, 3, 0, 0, 0, 0⟩] [(.arg 0, ctB (.arg 0) (ffG x n k))] (fun r h' => r = .int .i64 12 ∧ h' = [(.arg 0, ctB (.arg 0) (ffG x n k))]) := by
  have e : mayP18 (ffG x n k) ⟨2, 3, 0, 0, 0, 0⟩ = 12 := by
    show mayJoinP (ffG x n k) ⟨2, 3, 0, 0, 0, 0⟩ = 12
    unfold mayJoinP
    simp only
    rw [ffG_act x n h, if_pos (by omega)]
  have := applyN2_h (ffG x n k) 3 0 0 0 0 (by rw [e]; omega)
  rw [e] at this
  exact this
theorem ffG_owes (x : UInt16) (n : Nat) (k p : Int) : owesP (ffG x n k) p = false := by
  unfold owesP
  rw [ffG_over]
  simp
theorem ff_1m : mayP18 (ctNew [] 100 5) ⟨1, 3, 8, 0, 0, 0⟩ = 0 := by decide
set_option maxRecDepth 20000 in
set_option maxHeartbeats 16000000 in
theorem contestForfeits_h (n seat : Int) (x : UInt16) : Holds Try.prog 4 [.int .i64 n, .int .i64 seat, .c (.val (.int .u16 (U16 x)))] [] (fun r h' => r = V.bool true ∧ h' = []) := by
  have hA := applyY1_h (ctNew [] 100 5) (openP (ctNew [] 100 5) ffE) 3 8 0 0 0 ff_1m (by decide) (open_h (ctNew [] 100 5) ffE (by decide))
  have e1 : (openP (ctNew [] 100 5) ffE).add ⟨1, 3, 8, 0, 0, 0⟩ = ff x 0 := rfl
  rw [e1] at hA
  have hn := new_ok18 [] 100 5 (by decide) ff_g
  generalize ctNew [] 100 5 = c0 at hA hn
  refine holds_of_awp Try.func4 rfl (by decide +kernel) mixed Try.ntmps4 Try.results4 ?_
  simp only [entrySt, List.map_cons, List.map_nil, List.length_cons, List.length_nil, Nat.reduceAdd, Nat.reduceSub, List.replicate_succ, List.replicate_zero, List.cons_append, List.nil_append]
  cases d1 : decide (n < 0)
  · simp (maxSteps := 2000000) (disch := omega) only [go_sem, Nat.reduceAdd, Nat.reduceSub, Nat.reduceMul, Nat.reduceBEq, Nat.reduceEqDiff, Nat.reduceLT, Nat.reduceLeDiff, Nat.reduceDiv, reduceIte, reduceCtorEq, d1]
    refine c_dec (fun d2 => ?_) (fun d2 => ?_)
    · simp (maxSteps := 2000000) (disch := omega) only [go_sem, Nat.reduceAdd, Nat.reduceSub, Nat.reduceMul, Nat.reduceBEq, Nat.reduceEqDiff, Nat.reduceLT, Nat.reduceLeDiff, Nat.reduceDiv, reduceIte, reduceCtorEq]
      refine a_call [] (known_h18) ok0 ?_ ?_ ?_
      · simp (maxSteps := 2000000) (disch := omega) only [go_sem, Nat.reduceAdd, Nat.reduceSub, Nat.reduceMul, Nat.reduceBEq, Nat.reduceEqDiff, Nat.reduceLT, Nat.reduceLeDiff, Nat.reduceDiv, reduceIte, reduceCtorEq]
      · simp (maxSteps := 2000000) (disch := omega) only [go_sem, Nat.reduceAdd, Nat.reduceSub, Nat.reduceMul, Nat.reduceBEq, Nat.reduceEqDiff, Nat.reduceLT, Nat.reduceLeDiff, Nat.reduceDiv, reduceIte, reduceCtorEq]
      rintro _ _ ⟨rfl, rfl⟩
      simp (maxSteps := 2000000) (disch := omega) only [go_sem, Nat.reduceAdd, Nat.reduceSub, Nat.reduceMul, Nat.reduceBEq, Nat.reduceEqDiff, Nat.reduceLT, Nat.reduceLeDiff, Nat.reduceDiv, reduceIte, reduceCtorEq]
    · have f1 := of_decide_eq_false d1
      obtain ⟨n, rfl⟩ := Int.eq_ofNat_of_zero_le (show 0 ≤ n by omega)
      have n2 : n ≤ 20 := by omega
      simp (maxSteps := 2000000) (disch := omega) only [go_sem, Nat.reduceAdd, Nat.reduceSub, Nat.reduceMul, Nat.reduceBEq, Nat.reduceEqDiff, Nat.reduceLT, Nat.reduceLeDiff, Nat.reduceDiv, reduceIte, reduceCtorEq]
      refine a_call [] (hn) ok0 ?_ ?_ ?_
      · simp (maxSteps := 2000000) (disch := omega) only [go_sem, Nat.reduceAdd, Nat.reduceSub, Nat.reduceMul, Nat.reduceBEq, Nat.reduceEqDiff, Nat.reduceLT, Nat.reduceLeDiff, Nat.reduceDiv, reduceIte, reduceCtorEq]
      · simp (maxSteps := 2000000) (disch := omega) only [go_sem, Nat.reduceAdd, Nat.reduceSub, Nat.reduceMul, Nat.reduceBEq, Nat.reduceEqDiff, Nat.reduceLT, Nat.reduceLeDiff, Nat.reduceDiv, reduceIte, reduceCtorEq]
      rintro _ _ ⟨rfl, rfl⟩
      simp (maxSteps := 2000000) (disch := omega) only [go_sem, Nat.reduceAdd, Nat.reduceSub, Nat.reduceMul, Nat.reduceBEq, Nat.reduceEqDiff, Nat.reduceLT, Nat.reduceLeDiff, Nat.reduceDiv, reduceIte, reduceCtorEq, Int.reduceLT, Int.reduceLE, Int.reduceEq, Int.reduceNe, Int.reduceAdd, Int.reduceSub, Int.reduceMul, Int.reduceNeg, Int.reduceDiv, Int.reduceMod, Int.reduceTMod, Int.reduceTDiv, Int.reduceFDiv, Int.reducePow, Int.reduceToNat, U64n, BitVec.reduceOfInt, BitVec.reduceAnd, BitVec.reduceToNat, bits_u64, bits_i64]
      refine a_call [.loc [21, 0, 14]] (hA) (ok1 rfl) ?_ ?_ ?_
      · simp (maxSteps := 2000000) (disch := omega) only [go_sem, Nat.reduceAdd, Nat.reduceSub, Nat.reduceMul, Nat.reduceBEq, Nat.reduceEqDiff, Nat.reduceLT, Nat.reduceLeDiff, Nat.reduceDiv, reduceIte, reduceCtorEq]
      · simp (maxSteps := 2000000) (disch := omega) only [go_sem, Nat.reduceAdd, Nat.reduceSub, Nat.reduceMul, Nat.reduceBEq, Nat.reduceEqDiff, Nat.reduceLT, Nat.reduceLeDiff, Nat.reduceDiv, reduceIte, reduceCtorEq]
      rintro _ _ ⟨rfl, rfl⟩
      simp (maxSteps := 2000000) (disch := omega) only [go_sem, Nat.reduceAdd, Nat.reduceSub, Nat.reduceMul, Nat.reduceBEq, Nat.reduceEqDiff, Nat.reduceLT, Nat.reduceLeDiff, Nat.reduceDiv, reduceIte, reduceCtorEq, Int.reduceLT, Int.reduceLE, Int.reduceEq, Int.reduceNe, Int.reduceAdd, Int.reduceSub, Int.reduceMul, Int.reduceNeg, Int.reduceDiv, Int.reduceMod, Int.reduceTMod, Int.reduceTDiv, Int.reduceFDiv, Int.reducePow, Int.reduceToNat, U64n, BitVec.reduceOfInt, BitVec.reduceAnd, BitVec.reduceToNat, bits_u64, bits_i64]
      refine a_loopk (fun i : Nat => ⟨[V.int .i64 n, V.int .i64 seat, V.w (.c (.val (.int .u16 (U16 x)))), .undef, .undef, .undef, .undef, V.cell (.ptr (.loc [21, 0, 14]) 0), .undef, V.int .i64 i, .undef, .undef, .undef, .undef, .undef, .undef, .undef, .undef, .undef, .undef, .undef, .undef, .undef, .undef, .undef, .undef, .undef, .undef, .undef, .undef, .undef, .undef, .undef, .undef, .undef, .undef, .undef, .undef, .undef, .undef, .undef, .undef, .undef, .undef, .undef, .undef, .undef, .undef, .undef, .undef, .undef, .undef, .undef, .undef, .undef, .undef, .undef, .undef, .undef, .undef, .undef, .undef, .undef, .undef, .undef, .undef, .undef, .undef, .undef, .undef, .undef, .undef, .undef, .undef, .undef, .undef, .undef, .undef, .undef, .undef, .undef, .undef, .undef, .undef, .undef, .undef, .undef, .undef, .undef, .undef, .undef, .undef, .undef, .undef, .undef, .undef, .undef, .undef, .undef, .undef, .undef, .undef, .undef, .undef, .undef, .undef, .undef, .undef, .undef, .undef, .undef, .undef, .undef, .undef, .undef, .undef, .undef, .undef, .undef, .undef, .undef], [(.loc [21, 0, 14], ctB (.loc [21, 0, 14]) (ff x i))]⟩) (fun i => i ≤ n) (n - ·) 0 (by omega) ?_ ?_
      · try simp (maxSteps := 2000000) (disch := omega) only [go_sem, Nat.reduceAdd, Nat.reduceSub, Nat.reduceMul, Nat.reduceBEq, Nat.reduceEqDiff, Nat.reduceLT, Nat.reduceLeDiff, Nat.reduceDiv, reduceIte, reduceCtorEq]
        all_goals trace_state
      · intro i hi
        simp (maxSteps := 2000000) (disch := omega) only [go_sem, Nat.reduceAdd, Nat.reduceSub, Nat.reduceMul, Nat.reduceBEq, Nat.reduceEqDiff, Nat.reduceLT, Nat.reduceLeDiff, Nat.reduceDiv, reduceIte, reduceCtorEq]
        refine c_dec (fun g => ?_) (fun g => ?_)
        · simp (maxSteps := 2000000) (disch := omega) only [go_sem, Nat.reduceAdd, Nat.reduceSub, Nat.reduceMul, Nat.reduceBEq, Nat.reduceEqDiff, Nat.reduceLT, Nat.reduceLeDiff, Nat.reduceDiv, reduceIte, reduceCtorEq]
          refine a_call [.loc [21, 0, 14]] (ff_1 x i (by omega)) (ok1 rfl) ?_ ?_ ?_
          · simp (maxSteps := 2000000) (disch := omega) only [go_sem, Nat.reduceAdd, Nat.reduceSub, Nat.reduceMul, Nat.reduceBEq, Nat.reduceEqDiff, Nat.reduceLT, Nat.reduceLeDiff, Nat.reduceDiv, reduceIte, reduceCtorEq]
          · simp (maxSteps := 2000000) (disch := omega) only [go_sem, Nat.reduceAdd, Nat.reduceSub, Nat.reduceMul, Nat.reduceBEq, Nat.reduceEqDiff, Nat.reduceLT, Nat.reduceLeDiff, Nat.reduceDiv, reduceIte, reduceCtorEq]
          rintro _ _ ⟨rfl, rfl⟩
          simp (maxSteps := 2000000) (disch := omega) only [go_sem, Nat.reduceAdd, Nat.reduceSub, Nat.reduceMul, Nat.reduceBEq, Nat.reduceEqDiff, Nat.reduceLT, Nat.reduceLeDiff, Nat.reduceDiv, reduceIte, reduceCtorEq, Int.reduceLT, Int.reduceLE, Int.reduceEq, Int.reduceNe, Int.reduceAdd, Int.reduceSub, Int.reduceMul, Int.reduceNeg, Int.reduceDiv, Int.reduceMod, Int.reduceTMod, Int.reduceTDiv, Int.reduceFDiv, Int.reducePow, Int.reduceToNat, U64n, BitVec.reduceOfInt, BitVec.reduceAnd, BitVec.reduceToNat, bits_u64, bits_i64]
          refine a_call [.loc [21, 0, 14]] (ff_2 x i (by omega)) (ok1 rfl) ?_ ?_ ?_
          · simp (maxSteps := 2000000) (disch := omega) only [go_sem, Nat.reduceAdd, Nat.reduceSub, Nat.reduceMul, Nat.reduceBEq, Nat.reduceEqDiff, Nat.reduceLT, Nat.reduceLeDiff, Nat.reduceDiv, reduceIte, reduceCtorEq]
          · simp (maxSteps := 2000000) (disch := omega) only [go_sem, Nat.reduceAdd, Nat.reduceSub, Nat.reduceMul, Nat.reduceBEq, Nat.reduceEqDiff, Nat.reduceLT, Nat.reduceLeDiff, Nat.reduceDiv, reduceIte, reduceCtorEq]
          rintro _ _ ⟨rfl, rfl⟩
          simp (maxSteps := 2000000) (disch := omega) only [go_sem, Nat.reduceAdd, Nat.reduceSub, Nat.reduceMul, Nat.reduceBEq, Nat.reduceEqDiff, Nat.reduceLT, Nat.reduceLeDiff, Nat.reduceDiv, reduceIte, reduceCtorEq, Int.reduceLT, Int.reduceLE, Int.reduceEq, Int.reduceNe, Int.reduceAdd, Int.reduceSub, Int.reduceMul, Int.reduceNeg, Int.reduceDiv, Int.reduceMod, Int.reduceTMod, Int.reduceTDiv, Int.reduceFDiv, Int.reducePow, Int.reduceToNat, U64n, BitVec.reduceOfInt, BitVec.reduceAnd, BitVec.reduceToNat, bits_u64, bits_i64]
          refine ⟨i + 1, by omega, by omega, ?_⟩
          try simp (maxSteps := 2000000) (disch := omega) only [go_sem, Nat.reduceAdd, Nat.reduceSub, Nat.reduceMul, Nat.reduceBEq, Nat.reduceEqDiff, Nat.reduceLT, Nat.reduceLeDiff, Nat.reduceDiv, reduceIte, reduceCtorEq]
          all_goals trace_state
        · have e : i = n := by omega
          subst e
          simp (maxSteps := 2000000) (disch := omega) only [go_sem, Nat.reduceAdd, Nat.reduceSub, Nat.reduceMul, Nat.reduceBEq, Nat.reduceEqDiff, Nat.reduceLT, Nat.reduceLeDiff, Nat.reduceDiv, reduceIte, reduceCtorEq]
          clear hA hn hi g
          rcases (by omega : seat % 2 = 0 ∨ seat % 2 = 1) with q | q
          · have hy : Holds Try.prog 13 [.ptr (.arg 0) 0, .ev ⟨4, 3, 0, 0, 0, 0⟩] [(.arg 0, ctB (.arg 0) (ff x i))] (fun r h' => r = .int .i64 0 ∧ h' = [(.arg 0, ctB (.arg 0) (ffG x i 0))]) := ff_yes x i n2 (k := 0) (.inl rfl)
            have w1 := ffG_over x i 0
            have w2 := ffG_win x i n2 (k := 0) (.inl rfl)
            have w3 := ffG_why x i 0
            have a1 := ff_12 x i n2 0 0
            have a2 := ff_12b x i n2 0 3
            have a3 := ff_12c x i n2 0
            have o3 := ffG_owes x i 0 3
            have o8 := ffG_owes x i 0 8
            generalize ffG x i 0 = c2 at hy w1 w2 w3 a1 a2 a3 o3 o8
            rw [q, e_IA1 (by omega) (by simp)]
            simp (maxSteps := 2000000) (disch := omega) only [go_sem, Nat.reduceAdd, Nat.reduceSub, Nat.reduceMul, Nat.reduceBEq, Nat.reduceEqDiff, Nat.reduceLT, Nat.reduceLeDiff, Nat.reduceDiv, reduceIte, reduceCtorEq, Int.reduceLT, Int.reduceLE, Int.reduceEq, Int.reduceNe, Int.reduceAdd, Int.reduceSub, Int.reduceMul, Int.reduceNeg, Int.reduceDiv, Int.reduceMod, Int.reduceTMod, Int.reduceTDiv, Int.reduceFDiv, Int.reducePow, Int.reduceToNat, U64n, BitVec.reduceOfInt, BitVec.reduceAnd, BitVec.reduceToNat, bits_u64, bits_i64]
            refine ⟨.val (.int .i64 3), rfl, ?_⟩
            refine a_call [.loc [21, 0, 14]] (ff_no x i n2) (ok1 rfl) ?_ ?_ ?_
            · simp (maxSteps := 2000000) (disch := omega) only [go_sem, Nat.reduceAdd, Nat.reduceSub, Nat.reduceMul, Nat.reduceBEq, Nat.reduceEqDiff, Nat.reduceLT, Nat.reduceLeDiff, Nat.reduceDiv, reduceIte, reduceCtorEq]
            · simp (maxSteps := 2000000) (disch := omega) only [go_sem, Nat.reduceAdd, Nat.reduceSub, Nat.reduceMul, Nat.reduceBEq, Nat.reduceEqDiff, Nat.reduceLT, Nat.reduceLeDiff, Nat.reduceDiv, reduceIte, reduceCtorEq]
            rintro _ _ ⟨rfl, rfl⟩
            simp (maxSteps := 2000000) (disch := omega) only [go_sem, Nat.reduceAdd, Nat.reduceSub, Nat.reduceMul, Nat.reduceBEq, Nat.reduceEqDiff, Nat.reduceLT, Nat.reduceLeDiff, Nat.reduceDiv, reduceIte, reduceCtorEq, Int.reduceLT, Int.reduceLE, Int.reduceEq, Int.reduceNe, Int.reduceAdd, Int.reduceSub, Int.reduceMul, Int.reduceNeg, Int.reduceDiv, Int.reduceMod, Int.reduceTMod, Int.reduceTDiv, Int.reduceFDiv, Int.reducePow, Int.reduceToNat, U64n, BitVec.reduceOfInt, BitVec.reduceAnd, BitVec.reduceToNat, bits_u64, bits_i64]
            refine a_call [.loc [21, 0, 14]] (hy) (ok1 rfl) ?_ ?_ ?_
            · simp (maxSteps := 2000000) (disch := omega) only [go_sem, Nat.reduceAdd, Nat.reduceSub, Nat.reduceMul, Nat.reduceBEq, Nat.reduceEqDiff, Nat.reduceLT, Nat.reduceLeDiff, Nat.reduceDiv, reduceIte, reduceCtorEq]
            · simp (maxSteps := 2000000) (disch := omega) only [go_sem, Nat.reduceAdd, Nat.reduceSub, Nat.reduceMul, Nat.reduceBEq, Nat.reduceEqDiff, Nat.reduceLT, Nat.reduceLeDiff, Nat.reduceDiv, reduceIte, reduceCtorEq]
            rintro _ _ ⟨rfl, rfl⟩
            simp (maxSteps := 2000000) (disch := omega) only [go_sem, Nat.reduceAdd, Nat.reduceSub, Nat.reduceMul, Nat.reduceBEq, Nat.reduceEqDiff, Nat.reduceLT, Nat.reduceLeDiff, Nat.reduceDiv, reduceIte, reduceCtorEq, Int.reduceLT, Int.reduceLE, Int.reduceEq, Int.reduceNe, Int.reduceAdd, Int.reduceSub, Int.reduceMul, Int.reduceNeg, Int.reduceDiv, Int.reduceMod, Int.reduceTMod, Int.reduceTDiv, Int.reduceFDiv, Int.reducePow, Int.reduceToNat, U64n, BitVec.reduceOfInt, BitVec.reduceAnd, BitVec.reduceToNat, bits_u64, bits_i64]
            refine a_call [.loc [21, 0, 14]] (status_h c2) (ok1 rfl) ?_ ?_ ?_
            · simp (maxSteps := 2000000) (disch := omega) only [go_sem, Nat.reduceAdd, Nat.reduceSub, Nat.reduceMul, Nat.reduceBEq, Nat.reduceEqDiff, Nat.reduceLT, Nat.reduceLeDiff, Nat.reduceDiv, reduceIte, reduceCtorEq]
            · simp (maxSteps := 2000000) (disch := omega) only [go_sem, Nat.reduceAdd, Nat.reduceSub, Nat.reduceMul, Nat.reduceBEq, Nat.reduceEqDiff, Nat.reduceLT, Nat.reduceLeDiff, Nat.reduceDiv, reduceIte, reduceCtorEq]
            rintro _ _ ⟨rfl, rfl⟩
            unfold statC
            simp (maxSteps := 2000000) (disch := omega) only [go_sem, Nat.reduceAdd, Nat.reduceSub, Nat.reduceMul, Nat.reduceBEq, Nat.reduceEqDiff, Nat.reduceLT, Nat.reduceLeDiff, Nat.reduceDiv, reduceIte, reduceCtorEq, q, w1, w2, w3, Int.reduceSub, Int.reduceToNat, Int.reduceEq, decide_true]
            try simp (maxSteps := 2000000) (disch := omega) only [go_sem, Nat.reduceAdd, Nat.reduceSub, Nat.reduceMul, Nat.reduceBEq, Nat.reduceEqDiff, Nat.reduceLT, Nat.reduceLeDiff, Nat.reduceDiv, reduceIte, reduceCtorEq, Int.reduceLT, Int.reduceLE, Int.reduceEq, Int.reduceNe, Int.reduceAdd, Int.reduceSub, Int.reduceMul, Int.reduceNeg, Int.reduceDiv, Int.reduceMod, Int.reduceTMod, Int.reduceTDiv, Int.reduceFDiv, Int.reducePow, Int.reduceToNat, U64n, BitVec.reduceOfInt, BitVec.reduceAnd, BitVec.reduceToNat, bits_u64, bits_i64]
            refine a_call [.loc [21, 0, 14]] a1 (ok1 rfl) ?_ ?_ ?_
            · simp (maxSteps := 2000000) (disch := omega) only [go_sem, Nat.reduceAdd, Nat.reduceSub, Nat.reduceMul, Nat.reduceBEq, Nat.reduceEqDiff, Nat.reduceLT, Nat.reduceLeDiff, Nat.reduceDiv, reduceIte, reduceCtorEq]
            · try simp (maxSteps := 2000000) (disch := omega) only [go_sem, Nat.reduceAdd, Nat.reduceSub, Nat.reduceMul, Nat.reduceBEq, Nat.reduceEqDiff, Nat.reduceLT, Nat.reduceLeDiff, Nat.reduceDiv, reduceIte, reduceCtorEq]
              exact ct_le ⟨leC_refl _, rfl, rfl, rfl, rfl, rfl, rfl, rfl, rfl, rfl, w1, by rw [w2]; rfl, w3, rfl, leC_refl _, leC_refl _, leC_refl _, rfl, leC_refl _⟩
            rintro _ _ ⟨rfl, rfl⟩
            simp (maxSteps := 2000000) (disch := omega) only [go_sem, Nat.reduceAdd, Nat.reduceSub, Nat.reduceMul, Nat.reduceBEq, Nat.reduceEqDiff, Nat.reduceLT, Nat.reduceLeDiff, Nat.reduceDiv, reduceIte, reduceCtorEq, Int.reduceLT, Int.reduceLE, Int.reduceEq, Int.reduceNe, Int.reduceAdd, Int.reduceSub, Int.reduceMul, Int.reduceNeg, Int.reduceDiv, Int.reduceMod, Int.reduceTMod, Int.reduceTDiv, Int.reduceFDiv, Int.reducePow, Int.reduceToNat, U64n, BitVec.reduceOfInt, BitVec.reduceAnd, BitVec.reduceToNat, bits_u64, bits_i64]
            refine a_call [.loc [21, 0, 14]] (a2) (ok1 rfl) ?_ ?_ ?_
            · simp (maxSteps := 2000000) (disch := omega) only [go_sem, Nat.reduceAdd, Nat.reduceSub, Nat.reduceMul, Nat.reduceBEq, Nat.reduceEqDiff, Nat.reduceLT, Nat.reduceLeDiff, Nat.reduceDiv, reduceIte, reduceCtorEq]
            · simp (maxSteps := 2000000) (disch := omega) only [go_sem, Nat.reduceAdd, Nat.reduceSub, Nat.reduceMul, Nat.reduceBEq, Nat.reduceEqDiff, Nat.reduceLT, Nat.reduceLeDiff, Nat.reduceDiv, reduceIte, reduceCtorEq]
            rintro _ _ ⟨rfl, rfl⟩
            simp (maxSteps := 2000000) (disch := omega) only [go_sem, Nat.reduceAdd, Nat.reduceSub, Nat.reduceMul, Nat.reduceBEq, Nat.reduceEqDiff, Nat.reduceLT, Nat.reduceLeDiff, Nat.reduceDiv, reduceIte, reduceCtorEq, Int.reduceLT, Int.reduceLE, Int.reduceEq, Int.reduceNe, Int.reduceAdd, Int.reduceSub, Int.reduceMul, Int.reduceNeg, Int.reduceDiv, Int.reduceMod, Int.reduceTMod, Int.reduceTDiv, Int.reduceFDiv, Int.reducePow, Int.reduceToNat, U64n, BitVec.reduceOfInt, BitVec.reduceAnd, BitVec.reduceToNat, bits_u64, bits_i64]
            refine a_call [.loc [21, 0, 14]] (a3) (ok1 rfl) ?_ ?_ ?_
            · simp (maxSteps := 2000000) (disch := omega) only [go_sem, Nat.reduceAdd, Nat.reduceSub, Nat.reduceMul, Nat.reduceBEq, Nat.reduceEqDiff, Nat.reduceLT, Nat.reduceLeDiff, Nat.reduceDiv, reduceIte, reduceCtorEq]
            · simp (maxSteps := 2000000) (disch := omega) only [go_sem, Nat.reduceAdd, Nat.reduceSub, Nat.reduceMul, Nat.reduceBEq, Nat.reduceEqDiff, Nat.reduceLT, Nat.reduceLeDiff, Nat.reduceDiv, reduceIte, reduceCtorEq]
            rintro _ _ ⟨rfl, rfl⟩
            simp (maxSteps := 2000000) (disch := omega) only [go_sem, Nat.reduceAdd, Nat.reduceSub, Nat.reduceMul, Nat.reduceBEq, Nat.reduceEqDiff, Nat.reduceLT, Nat.reduceLeDiff, Nat.reduceDiv, reduceIte, reduceCtorEq, Int.reduceLT, Int.reduceLE, Int.reduceEq, Int.reduceNe, Int.reduceAdd, Int.reduceSub, Int.reduceMul, Int.reduceNeg, Int.reduceDiv, Int.reduceMod, Int.reduceTMod, Int.reduceTDiv, Int.reduceFDiv, Int.reducePow, Int.reduceToNat, U64n, BitVec.reduceOfInt, BitVec.reduceAnd, BitVec.reduceToNat, bits_u64, bits_i64]
            refine a_call [.loc [21, 0, 14]] (owes_h c2 3) (ok1 rfl) ?_ ?_ ?_
            · simp (maxSteps := 2000000) (disch := omega) only [go_sem, Nat.reduceAdd, Nat.reduceSub, Nat.reduceMul, Nat.reduceBEq, Nat.reduceEqDiff, Nat.reduceLT, Nat.reduceLeDiff, Nat.reduceDiv, reduceIte, reduceCtorEq]
            · simp (maxSteps := 2000000) (disch := omega) only [go_sem, Nat.reduceAdd, Nat.reduceSub, Nat.reduceMul, Nat.reduceBEq, Nat.reduceEqDiff, Nat.reduceLT, Nat.reduceLeDiff, Nat.reduceDiv, reduceIte, reduceCtorEq]
            rintro _ _ ⟨rfl, rfl⟩
            simp (maxSteps := 2000000) (disch := omega) only [go_sem, Nat.reduceAdd, Nat.reduceSub, Nat.reduceMul, Nat.reduceBEq, Nat.reduceEqDiff, Nat.reduceLT, Nat.reduceLeDiff, Nat.reduceDiv, reduceIte, reduceCtorEq, o3]
            refine a_call [.loc [21, 0, 14]] (owes_h c2 8) (ok1 rfl) ?_ ?_ ?_
            · simp (maxSteps := 2000000) (disch := omega) only [go_sem, Nat.reduceAdd, Nat.reduceSub, Nat.reduceMul, Nat.reduceBEq, Nat.reduceEqDiff, Nat.reduceLT, Nat.reduceLeDiff, Nat.reduceDiv, reduceIte, reduceCtorEq]
            · simp (maxSteps := 2000000) (disch := omega) only [go_sem, Nat.reduceAdd, Nat.reduceSub, Nat.reduceMul, Nat.reduceBEq, Nat.reduceEqDiff, Nat.reduceLT, Nat.reduceLeDiff, Nat.reduceDiv, reduceIte, reduceCtorEq]
            rintro _ _ ⟨rfl, rfl⟩
            simp (maxSteps := 2000000) (disch := omega) only [go_sem, Nat.reduceAdd, Nat.reduceSub, Nat.reduceMul, Nat.reduceBEq, Nat.reduceEqDiff, Nat.reduceLT, Nat.reduceLeDiff, Nat.reduceDiv, reduceIte, reduceCtorEq, o8]
            refine a_call [] (known_h18) ok0 ?_ ?_ ?_
            · simp (maxSteps := 2000000) (disch := omega) only [go_sem, Nat.reduceAdd, Nat.reduceSub, Nat.reduceMul, Nat.reduceBEq, Nat.reduceEqDiff, Nat.reduceLT, Nat.reduceLeDiff, Nat.reduceDiv, reduceIte, reduceCtorEq]
            · simp (maxSteps := 2000000) (disch := omega) only [go_sem, Nat.reduceAdd, Nat.reduceSub, Nat.reduceMul, Nat.reduceBEq, Nat.reduceEqDiff, Nat.reduceLT, Nat.reduceLeDiff, Nat.reduceDiv, reduceIte, reduceCtorEq]
            rintro _ _ ⟨rfl, rfl⟩
            simp (maxSteps := 2000000) (disch := omega) only [go_sem, Nat.reduceAdd, Nat.reduceSub, Nat.reduceMul, Nat.reduceBEq, Nat.reduceEqDiff, Nat.reduceLT, Nat.reduceLeDiff, Nat.reduceDiv, reduceIte, reduceCtorEq]
          · have hy : Holds Try.prog 13 [.ptr (.arg 0) 0, .ev ⟨4, 8, 0, 0, 0, 0⟩] [(.arg 0, ctB (.arg 0) (ff x i))] (fun r h' => r = .int .i64 0 ∧ h' = [(.arg 0, ctB (.arg 0) (ffG x i 1))]) := ff_yes x i n2 (k := 1) (.inr rfl)
            have w1 := ffG_over x i 1
            have w2 := ffG_win x i n2 (k := 1) (.inr rfl)
            have w3 := ffG_why x i 1
            have a1 := ff_12 x i n2 1 0
            have a2 := ff_12b x i n2 1 8
            have a3 := ff_12c x i n2 1
            have o3 := ffG_owes x i 1 3
            have o8 := ffG_owes x i 1 8
            generalize ffG x i 1 = c2 at hy w1 w2 w3 a1 a2 a3 o3 o8
            rw [q, e_IA1 (by omega) (by simp)]
            simp (maxSteps := 2000000) (disch := omega) only [go_sem, Nat.reduceAdd, Nat.reduceSub, Nat.reduceMul, Nat.reduceBEq, Nat.reduceEqDiff, Nat.reduceLT, Nat.reduceLeDiff, Nat.reduceDiv, reduceIte, reduceCtorEq, Int.reduceLT, Int.reduceLE, Int.reduceEq, Int.reduceNe, Int.reduceAdd, Int.reduceSub, Int.reduceMul, Int.reduceNeg, Int.reduceDiv, Int.reduceMod, Int.reduceTMod, Int.reduceTDiv, Int.reduceFDiv, Int.reducePow, Int.reduceToNat, U64n, BitVec.reduceOfInt, BitVec.reduceAnd, BitVec.reduceToNat, bits_u64, bits_i64]
            refine ⟨.val (.int .i64 8), rfl, ?_⟩
            refine a_call [.loc [21, 0, 14]] (ff_no x i n2) (ok1 rfl) ?_ ?_ ?_
            · simp (maxSteps := 2000000) (disch := omega) only [go_sem, Nat.reduceAdd, Nat.reduceSub, Nat.reduceMul, Nat.reduceBEq, Nat.reduceEqDiff, Nat.reduceLT, Nat.reduceLeDiff, Nat.reduceDiv, reduceIte, reduceCtorEq]
            · simp (maxSteps := 2000000) (disch := omega) only [go_sem, Nat.reduceAdd, Nat.reduceSub, Nat.reduceMul, Nat.reduceBEq, Nat.reduceEqDiff, Nat.reduceLT, Nat.reduceLeDiff, Nat.reduceDiv, reduceIte, reduceCtorEq]
            rintro _ _ ⟨rfl, rfl⟩
            simp (maxSteps := 2000000) (disch := omega) only [go_sem, Nat.reduceAdd, Nat.reduceSub, Nat.reduceMul, Nat.reduceBEq, Nat.reduceEqDiff, Nat.reduceLT, Nat.reduceLeDiff, Nat.reduceDiv, reduceIte, reduceCtorEq, Int.reduceLT, Int.reduceLE, Int.reduceEq, Int.reduceNe, Int.reduceAdd, Int.reduceSub, Int.reduceMul, Int.reduceNeg, Int.reduceDiv, Int.reduceMod, Int.reduceTMod, Int.reduceTDiv, Int.reduceFDiv, Int.reducePow, Int.reduceToNat, U64n, BitVec.reduceOfInt, BitVec.reduceAnd, BitVec.reduceToNat, bits_u64, bits_i64]
            refine a_call [.loc [21, 0, 14]] (hy) (ok1 rfl) ?_ ?_ ?_
            · simp (maxSteps := 2000000) (disch := omega) only [go_sem, Nat.reduceAdd, Nat.reduceSub, Nat.reduceMul, Nat.reduceBEq, Nat.reduceEqDiff, Nat.reduceLT, Nat.reduceLeDiff, Nat.reduceDiv, reduceIte, reduceCtorEq]
            · simp (maxSteps := 2000000) (disch := omega) only [go_sem, Nat.reduceAdd, Nat.reduceSub, Nat.reduceMul, Nat.reduceBEq, Nat.reduceEqDiff, Nat.reduceLT, Nat.reduceLeDiff, Nat.reduceDiv, reduceIte, reduceCtorEq]
            rintro _ _ ⟨rfl, rfl⟩
            simp (maxSteps := 2000000) (disch := omega) only [go_sem, Nat.reduceAdd, Nat.reduceSub, Nat.reduceMul, Nat.reduceBEq, Nat.reduceEqDiff, Nat.reduceLT, Nat.reduceLeDiff, Nat.reduceDiv, reduceIte, reduceCtorEq, Int.reduceLT, Int.reduceLE, Int.reduceEq, Int.reduceNe, Int.reduceAdd, Int.reduceSub, Int.reduceMul, Int.reduceNeg, Int.reduceDiv, Int.reduceMod, Int.reduceTMod, Int.reduceTDiv, Int.reduceFDiv, Int.reducePow, Int.reduceToNat, U64n, BitVec.reduceOfInt, BitVec.reduceAnd, BitVec.reduceToNat, bits_u64, bits_i64]
            refine a_call [.loc [21, 0, 14]] (status_h c2) (ok1 rfl) ?_ ?_ ?_
            · simp (maxSteps := 2000000) (disch := omega) only [go_sem, Nat.reduceAdd, Nat.reduceSub, Nat.reduceMul, Nat.reduceBEq, Nat.reduceEqDiff, Nat.reduceLT, Nat.reduceLeDiff, Nat.reduceDiv, reduceIte, reduceCtorEq]
            · simp (maxSteps := 2000000) (disch := omega) only [go_sem, Nat.reduceAdd, Nat.reduceSub, Nat.reduceMul, Nat.reduceBEq, Nat.reduceEqDiff, Nat.reduceLT, Nat.reduceLeDiff, Nat.reduceDiv, reduceIte, reduceCtorEq]
            rintro _ _ ⟨rfl, rfl⟩
            unfold statC
            simp (maxSteps := 2000000) (disch := omega) only [go_sem, Nat.reduceAdd, Nat.reduceSub, Nat.reduceMul, Nat.reduceBEq, Nat.reduceEqDiff, Nat.reduceLT, Nat.reduceLeDiff, Nat.reduceDiv, reduceIte, reduceCtorEq, q, w1, w2, w3, Int.reduceSub, Int.reduceToNat, Int.reduceEq, decide_true]
            try simp (maxSteps := 2000000) (disch := omega) only [go_sem, Nat.reduceAdd, Nat.reduceSub, Nat.reduceMul, Nat.reduceBEq, Nat.reduceEqDiff, Nat.reduceLT, Nat.reduceLeDiff, Nat.reduceDiv, reduceIte, reduceCtorEq, Int.reduceLT, Int.reduceLE, Int.reduceEq, Int.reduceNe, Int.reduceAdd, Int.reduceSub, Int.reduceMul, Int.reduceNeg, Int.reduceDiv, Int.reduceMod, Int.reduceTMod, Int.reduceTDiv, Int.reduceFDiv, Int.reducePow, Int.reduceToNat, U64n, BitVec.reduceOfInt, BitVec.reduceAnd, BitVec.reduceToNat, bits_u64, bits_i64]
            refine a_call [.loc [21, 0, 14]] a1 (ok1 rfl) ?_ ?_ ?_
            · simp (maxSteps := 2000000) (disch := omega) only [go_sem, Nat.reduceAdd, Nat.reduceSub, Nat.reduceMul, Nat.reduceBEq, Nat.reduceEqDiff, Nat.reduceLT, Nat.reduceLeDiff, Nat.reduceDiv, reduceIte, reduceCtorEq]
            · try simp (maxSteps := 2000000) (disch := omega) only [go_sem, Nat.reduceAdd, Nat.reduceSub, Nat.reduceMul, Nat.reduceBEq, Nat.reduceEqDiff, Nat.reduceLT, Nat.reduceLeDiff, Nat.reduceDiv, reduceIte, reduceCtorEq]
              exact ct_le ⟨leC_refl _, rfl, rfl, rfl, rfl, rfl, rfl, rfl, rfl, rfl, w1, by rw [w2]; rfl, w3, rfl, leC_refl _, leC_refl _, leC_refl _, rfl, leC_refl _⟩
            rintro _ _ ⟨rfl, rfl⟩
            simp (maxSteps := 2000000) (disch := omega) only [go_sem, Nat.reduceAdd, Nat.reduceSub, Nat.reduceMul, Nat.reduceBEq, Nat.reduceEqDiff, Nat.reduceLT, Nat.reduceLeDiff, Nat.reduceDiv, reduceIte, reduceCtorEq, Int.reduceLT, Int.reduceLE, Int.reduceEq, Int.reduceNe, Int.reduceAdd, Int.reduceSub, Int.reduceMul, Int.reduceNeg, Int.reduceDiv, Int.reduceMod, Int.reduceTMod, Int.reduceTDiv, Int.reduceFDiv, Int.reducePow, Int.reduceToNat, U64n, BitVec.reduceOfInt, BitVec.reduceAnd, BitVec.reduceToNat, bits_u64, bits_i64]
            refine a_call [.loc [21, 0, 14]] (a2) (ok1 rfl) ?_ ?_ ?_
            · simp (maxSteps := 2000000) (disch := omega) only [go_sem, Nat.reduceAdd, Nat.reduceSub, Nat.reduceMul, Nat.reduceBEq, Nat.reduceEqDiff, Nat.reduceLT, Nat.reduceLeDiff, Nat.reduceDiv, reduceIte, reduceCtorEq]
            · simp (maxSteps := 2000000) (disch := omega) only [go_sem, Nat.reduceAdd, Nat.reduceSub, Nat.reduceMul, Nat.reduceBEq, Nat.reduceEqDiff, Nat.reduceLT, Nat.reduceLeDiff, Nat.reduceDiv, reduceIte, reduceCtorEq]
            rintro _ _ ⟨rfl, rfl⟩
            simp (maxSteps := 2000000) (disch := omega) only [go_sem, Nat.reduceAdd, Nat.reduceSub, Nat.reduceMul, Nat.reduceBEq, Nat.reduceEqDiff, Nat.reduceLT, Nat.reduceLeDiff, Nat.reduceDiv, reduceIte, reduceCtorEq, Int.reduceLT, Int.reduceLE, Int.reduceEq, Int.reduceNe, Int.reduceAdd, Int.reduceSub, Int.reduceMul, Int.reduceNeg, Int.reduceDiv, Int.reduceMod, Int.reduceTMod, Int.reduceTDiv, Int.reduceFDiv, Int.reducePow, Int.reduceToNat, U64n, BitVec.reduceOfInt, BitVec.reduceAnd, BitVec.reduceToNat, bits_u64, bits_i64]
            refine a_call [.loc [21, 0, 14]] (a3) (ok1 rfl) ?_ ?_ ?_
            · simp (maxSteps := 2000000) (disch := omega) only [go_sem, Nat.reduceAdd, Nat.reduceSub, Nat.reduceMul, Nat.reduceBEq, Nat.reduceEqDiff, Nat.reduceLT, Nat.reduceLeDiff, Nat.reduceDiv, reduceIte, reduceCtorEq]
            · simp (maxSteps := 2000000) (disch := omega) only [go_sem, Nat.reduceAdd, Nat.reduceSub, Nat.reduceMul, Nat.reduceBEq, Nat.reduceEqDiff, Nat.reduceLT, Nat.reduceLeDiff, Nat.reduceDiv, reduceIte, reduceCtorEq]
            rintro _ _ ⟨rfl, rfl⟩
            simp (maxSteps := 2000000) (disch := omega) only [go_sem, Nat.reduceAdd, Nat.reduceSub, Nat.reduceMul, Nat.reduceBEq, Nat.reduceEqDiff, Nat.reduceLT, Nat.reduceLeDiff, Nat.reduceDiv, reduceIte, reduceCtorEq, Int.reduceLT, Int.reduceLE, Int.reduceEq, Int.reduceNe, Int.reduceAdd, Int.reduceSub, Int.reduceMul, Int.reduceNeg, Int.reduceDiv, Int.reduceMod, Int.reduceTMod, Int.reduceTDiv, Int.reduceFDiv, Int.reducePow, Int.reduceToNat, U64n, BitVec.reduceOfInt, BitVec.reduceAnd, BitVec.reduceToNat, bits_u64, bits_i64]
            refine a_call [.loc [21, 0, 14]] (owes_h c2 3) (ok1 rfl) ?_ ?_ ?_
            · simp (maxSteps := 2000000) (disch := omega) only [go_sem, Nat.reduceAdd, Nat.reduceSub, Nat.reduceMul, Nat.reduceBEq, Nat.reduceEqDiff, Nat.reduceLT, Nat.reduceLeDiff, Nat.reduceDiv, reduceIte, reduceCtorEq]
            · simp (maxSteps := 2000000) (disch := omega) only [go_sem, Nat.reduceAdd, Nat.reduceSub, Nat.reduceMul, Nat.reduceBEq, Nat.reduceEqDiff, Nat.reduceLT, Nat.reduceLeDiff, Nat.reduceDiv, reduceIte, reduceCtorEq]
            rintro _ _ ⟨rfl, rfl⟩
            simp (maxSteps := 2000000) (disch := omega) only [go_sem, Nat.reduceAdd, Nat.reduceSub, Nat.reduceMul, Nat.reduceBEq, Nat.reduceEqDiff, Nat.reduceLT, Nat.reduceLeDiff, Nat.reduceDiv, reduceIte, reduceCtorEq, o3]
            refine a_call [.loc [21, 0, 14]] (owes_h c2 8) (ok1 rfl) ?_ ?_ ?_
            · simp (maxSteps := 2000000) (disch := omega) only [go_sem, Nat.reduceAdd, Nat.reduceSub, Nat.reduceMul, Nat.reduceBEq, Nat.reduceEqDiff, Nat.reduceLT, Nat.reduceLeDiff, Nat.reduceDiv, reduceIte, reduceCtorEq]
            · simp (maxSteps := 2000000) (disch := omega) only [go_sem, Nat.reduceAdd, Nat.reduceSub, Nat.reduceMul, Nat.reduceBEq, Nat.reduceEqDiff, Nat.reduceLT, Nat.reduceLeDiff, Nat.reduceDiv, reduceIte, reduceCtorEq]
            rintro _ _ ⟨rfl, rfl⟩
            simp (maxSteps := 2000000) (disch := omega) only [go_sem, Nat.reduceAdd, Nat.reduceSub, Nat.reduceMul, Nat.reduceBEq, Nat.reduceEqDiff, Nat.reduceLT, Nat.reduceLeDiff, Nat.reduceDiv, reduceIte, reduceCtorEq, o8]
            refine a_call [] (known_h18) ok0 ?_ ?_ ?_
            · simp (maxSteps := 2000000) (disch := omega) only [go_sem, Nat.reduceAdd, Nat.reduceSub, Nat.reduceMul, Nat.reduceBEq, Nat.reduceEqDiff, Nat.reduceLT, Nat.reduceLeDiff, Nat.reduceDiv, reduceIte, reduceCtorEq]
            · simp (maxSteps := 2000000) (disch := omega) only [go_sem, Nat.reduceAdd, Nat.reduceSub, Nat.reduceMul, Nat.reduceBEq, Nat.reduceEqDiff, Nat.reduceLT, Nat.reduceLeDiff, Nat.reduceDiv, reduceIte, reduceCtorEq]
            rintro _ _ ⟨rfl, rfl⟩
            simp (maxSteps := 2000000) (disch := omega) only [go_sem, Nat.reduceAdd, Nat.reduceSub, Nat.reduceMul, Nat.reduceBEq, Nat.reduceEqDiff, Nat.reduceLT, Nat.reduceLeDiff, Nat.reduceDiv, reduceIte, reduceCtorEq]
  · simp (maxSteps := 2000000) (disch := omega) only [go_sem, Nat.reduceAdd, Nat.reduceSub, Nat.reduceMul, Nat.reduceBEq, Nat.reduceEqDiff, Nat.reduceLT, Nat.reduceLeDiff, Nat.reduceDiv, reduceIte, reduceCtorEq, d1]
    refine a_call [] (known_h18) ok0 ?_ ?_ ?_
    · simp (maxSteps := 2000000) (disch := omega) only [go_sem, Nat.reduceAdd, Nat.reduceSub, Nat.reduceMul, Nat.reduceBEq, Nat.reduceEqDiff, Nat.reduceLT, Nat.reduceLeDiff, Nat.reduceDiv, reduceIte, reduceCtorEq]
    · simp (maxSteps := 2000000) (disch := omega) only [go_sem, Nat.reduceAdd, Nat.reduceSub, Nat.reduceMul, Nat.reduceBEq, Nat.reduceEqDiff, Nat.reduceLT, Nat.reduceLeDiff, Nat.reduceDiv, reduceIte, reduceCtorEq]
    rintro _ _ ⟨rfl, rfl⟩
    simp (maxSteps := 2000000) (disch := omega) only [go_sem, Nat.reduceAdd, Nat.reduceSub, Nat.reduceMul, Nat.reduceBEq, Nat.reduceEqDiff, Nat.reduceLT, Nat.reduceLeDiff, Nat.reduceDiv, reduceIte, reduceCtorEq]
end Go.Proofs.Ytamcjecgkfmjkaa

/- The row of the law gauntletlaw18.ContestForfeits. -/
open Go Go.RowKit Go.ChangeShapes Go.WideShapes Go.ChangeAt
namespace Go.Proofs.Ytamcjecgkfmjkaa.contestForfeits
set_option linter.unusedVariables false
set_option maxRecDepth 100000 in
theorem lifted (os : Os) (started : os.Started) (H : Type) (enc : TypeId × Value → H) :
    ReturnsInHanded {} Try.checked os 4 .any (Rows.contestForfeitsSpec.pre6 enc Try.prog Try.f4 Rows.contestForfeitsRow.domain false) (Rows.contestForfeitsSpec.post enc Try.prog Try.f4 false true false false) := by
  refine returnsInHanded_of_change_sized (C := Try.checked) rowOwn started (by kernel_rfl) Try.func4
    (ChangeSpec.witness6 (enc := enc) (C := Try.checked) false ⟨#[], #[.int .i64 0, .int .i64 0, .int .u16 0], []⟩ 8 (by kernel_rfl) (by kernel_rfl) (by kernel_rfl) (by kernel_rfl)) ?_
  intro W base args ds gs before hval0 hW hcnd hsz0 _
  have hsz : (DataW.weightsEach Try.prog (Try.f4.params.toList ++ Rows.contestForfeitsSpec.plain.varTypes Try.prog) (ds ++ gs)).all (· ≤ reachBytes) = true := hsz0
  have hval : ∀ (j : Nat) t v, Try.f4.params[j]? = some t → args[j]? = some v → Value.okWide Try.prog W .any base t v := hval0
  have hW' := hW
  obtain ⟨p, q, hA0, hV, rfl, hfz, hnd⟩ := hW
  have hA : DataW.TrodAll enc Try.prog W 0 (fun _ => true) true Try.f4.params.toList args.toList ds p := hA0
  rw [Try.params4] at hA hval hsz
  obtain ⟨v0, vs0, d0, ds0, pp0, q0, hargs, rfl, rfl, h0, r0⟩ := trodAll_cons hA
  obtain ⟨v1, vs1, d1, ds1, pp1, q1, rfl, rfl, rfl, h1, r1⟩ := trodAll_cons r0
  obtain ⟨v2, vs2, d2, ds2, pp2, q2, rfl, rfl, rfl, h2, r2⟩ := trodAll_cons r1
  obtain ⟨rfl, rfl, rfl⟩ := trodAll_nil r2
  obtain rfl : args = #[v0, v1, v2] := by cases args; simp_all
  obtain ⟨rfl, rfl⟩ := trodVars_none hV
  have k0 := h0
  have lt0 := places_lt h0
  obtain ⟨z0, hr0, hlo0, hhi0⟩ := open_i64n Try.underlying3 (hval 0 3 v0 rfl rfl) h0
  have k1 := h1
  have lt1 := places_lt h1
  obtain ⟨z1, hr1, hlo1, hhi1⟩ := open_i64n Try.underlying3 (hval 1 3 v1 rfl rfl) h1
  have k2 := h2
  have lt2 := places_lt h2
  obtain ⟨u2, hr2⟩ := open_u16 (hval 2 35 v2 rfl rfl) h2
  clear hA0 hval0 hsz0 hsz
  refine ((contestForfeits_h z0 z1 u2).calls W (globNone rfl W) (.cons hr0 (.cons hr1 (.cons hr2 .nil)))).mono fun e W' ⟨he, kept⟩ => ?_
  have bel := kept.below
  subst he
  exact ⟨_, rfl, _, _, _, [], _, [], hW', trodAll_mk1 (shut_bool Try.underlying4 _), (trodAll_cons_mk (Below.trod rowLaid (by kernel_rfl) (of_decide_eq_true (by kernel_rfl)) k0 bel lt0) (trodAll_cons_mk (Below.trod rowLaid (by kernel_rfl) (of_decide_eq_true (by kernel_rfl)) k1 bel lt1) (trodAll_cons_mk (Below.trod rowLaid (by kernel_rfl) (of_decide_eq_true (by kernel_rfl)) k2 bel lt2) trodAll_mk0))), rfl, bel.frame _, fun h => by cases h⟩
theorem over : Rows.contestForfeitsRow.holds Try.pinned (OpenSpec.ofChange Rows.contestForfeitsSpec) :=
  OpenClaim.holds_of_wide 4 Try.f4 rfl rfl rfl rfl rfl rfl rfl ⟨rfl, rfl, rfl, rfl, rfl⟩ rfl rfl rfl rfl rfl (by kernel_rfl) Try.func4 (by kernel_rfl)
    (of_decide_eq_true (by kernel_rfl)) (by unfold Func.isWrapper; first | (rw [if_pos (by decide +kernel)]; kernel_rfl) | (rw [if_neg (by decide +kernel)]; exact ⟨rfl, rfl⟩))
    (fun os started H enc _ => lifted os started H enc)
end Go.Proofs.Ytamcjecgkfmjkaa.contestForfeits
namespace Go.Proofs.Ytamcjecgkfmjkaa
/-- The row. -/
theorem contestForfeits_holds : Rows.ContestForfeitsSaid := contestForfeits.over
#print axioms contestForfeits_holds
end Go.Proofs.Ytamcjecgkfmjkaa
