/- Parts of a proof: Chapter 10: the table of the doers. (written by gentbl.py), Chapter 10: a frame of a game without instructions, Chapter 8 in the logic: sums, products, quotients, Chapter 10: the machine: its numbers taken and laid, its doers, Chapter 10: an instruction, and a frame's run, Chapter 10: the run of a frame, in the code, Chapter 10: the cells of the other machine (written by genbox.py), Chapter 10: the other machine: its numbers taken and laid, its instructions. (written by gen10d.py). -/
import Derived.Test.YtamcjecgkfmjkaaMFf4
import Derived.Test.YtamcjecgkfmjkaaMFf3
/- Chapter 10: the table of the doers. (written by gentbl.py) -/
open Go Go.RowKit
namespace Go.Proofs.Ytamcjecgkfmjkaa
set_option linter.unusedSimpArgs false
set_option linter.unusedVariables false
set_option maxRecDepth 20000
def doeC (a b c d e f g h : Id) : List C := [.val .nilFunc, .fn (.func 77) [] [], .fn (.func 78) [] [], .fn (.func 79) [] [], .fn (.func 103) [] [(a, 0)], .fn (.func 103) [] [(b, 0)], .fn (.func 103) [] [(c, 0)], .fn (.func 103) [] [(d, 0)], .fn (.func 103) [] [(e, 0)], .fn (.func 103) [] [(f, 0)], .fn (.func 103) [] [(g, 0)], .fn (.func 103) [] [(h, 0)], .fn (.func 89) [] [], .fn (.func 90) [] [], .fn (.func 91) [] [], .fn (.func 92) [] [], .fn (.func 93) [] [], .fn (.func 94) [] [], .fn (.func 95) [] [], .fn (.func 96) [] [], .fn (.func 97) [] [], .fn (.func 98) [] [], .fn (.func 99) [] []]
def doeU (bi : Id → Bool) (bt : Tag → Bool) (a b c d e f g h : Id) : List C := (doeC a b c d e f g h).map (C.clean bi bt)
section
variable {a b c d e f g h : Id} {V' : V → Prop} {r : List C} {ks : List Id} {m : Nat}
@[go_sem] theorem doe_k {bi : Id → Bool} {bt : Tag → Bool} : (doeC a b c d e f g h).map (C.clean bi bt) = if (bi a || bi b || bi c || bi d || bi e || bi f || bi g || bi h) = true then doeU bi bt a b c d e f g h else doeC a b c d e f g h := by
  split
  · rfl
  · rename_i h
    simp only [Bool.or_eq_true, not_or, Bool.not_eq_true] at h
    simp [doeC, C.clean, h]
@[go_sem] theorem doe_r : (doeC a b c d e f g h).map (C.ren ks m) = doeC (renI ks m a) (renI ks m b) (renI ks m c) (renI ks m d) (renI ks m e) (renI ks m f) (renI ks m g) (renI ks m h) := nr rfl
@[go_sem] theorem doe_t {ta tb : Tag} : (doeC a b c d e f g h).map (C.retag ta tb) = doeC a b c d e f g h := nr rfl
@[go_sem] theorem doe_n : (doeC a b c d e f g h).all known = true := nr rfl
@[go_sem] theorem doe_l : (doeC a b c d e f g h).length = 23 := nr rfl
@[go_sem 1300] theorem doe_s : spl [.val .nilFunc, .val .nilFunc, .val .nilFunc, .val .nilFunc, .val .nilFunc, .val .nilFunc, .val .nilFunc, .val .nilFunc, .val .nilFunc, .val .nilFunc, .val .nilFunc, .val .nilFunc, .val .nilFunc, .val .nilFunc, .val .nilFunc, .val .nilFunc, .val .nilFunc, .val .nilFunc, .val .nilFunc, .val .nilFunc, .val .nilFunc, .val .nilFunc, .val .nilFunc] 0 (doeC a b c d e f g h) = doeC a b c d e f g h := spl_all rfl
@[go_sem ↓] theorem doe_w {l : List V} {hp : Heap} {i : Id} {off : Nat} {cs : List C} : St.stow ⟨l, hp⟩ i off cs (doeC a b c d e f g h) = ⟨l, hset hp i (spl cs off (doeC a b c d e f g h))⟩ := by
  have eq : (doeC a b c d e f g h).map (C.clean (fun _ => false) fun _ => true) = doeC a b c d e f g h := by rw [doe_k]; rfl
  rw [stow_big (show 2 ≤ (doeC a b c d e f g h).length by rw [doe_l]; omega), eq]
@[go_sem 1300] theorem doe_td : List.take 23 (List.drop 0 (doeC a b c d e f g h)) = doeC a b c d e f g h := nr rfl
@[go_sem 1300] theorem doe_ta : List.take 23 (doeC a b c d e f g h) = doeC a b c d e f g h := nr rfl
@[go_sem ↓ 1300] theorem doe_p : aPt (some true) 23 (doeC a b c d e f g h) 0 V' = V' (.w (.agg (doeC a b c d e f g h))) := by
  simp only [aPt, doe_l, doe_td]
  simp
@[go_sem ↓ 1300] theorem doe_le : leCs (doeC a b c d e f g h) (doeC a b c d e f g h) = True := eq_true (leCs_refl _)
end
abbrev doeH (a b c d e f g h : Id) : Heap := [(h, [.fn (.func 88) [] []]), (g, [.fn (.func 87) [] []]), (f, [.fn (.func 86) [] []]), (e, [.fn (.func 85) [] []]), (d, [.fn (.func 84) [] []]), (c, [.fn (.func 83) [] []]), (b, [.fn (.func 82) [] []]), (a, [.fn (.func 81) [] []])]
theorem two_h (k : Nat) : Holds Try.prog 80 [.c (.fn (.func k) [] [])] [] (fun r h' => r = V.cell (.fn (.func 103) [] [(.loc [1], 0)]) ∧ h' = [(.loc [1], [.fn (.func k) [] []])]) := by
  refine holds_of_awp Try.func80 rfl (by decide +kernel) mixed Try.ntmps80 Try.results80 ?_
  simp only [entrySt, List.map_cons, List.map_nil, List.length_cons, List.length_nil, Nat.reduceAdd, Nat.reduceSub, List.replicate_succ, List.replicate_zero, List.cons_append, List.nil_append]
  simp (maxSteps := 2000000) (disch := omega) only [go_sem, Nat.reduceAdd, Nat.reduceSub, Nat.reduceMul, Nat.reduceBEq, Nat.reduceEqDiff, Nat.reduceLT, Nat.reduceLeDiff, Nat.reduceDiv, reduceIte, reduceCtorEq]
theorem two0_h : Holds Try.prog 80 [.c (.fn (.func 81) [] [])] [] (fun r h' => r = V.cell (.fn (.func 103) [] [(.loc [1], 0)]) ∧ h' = [(.loc [1], [.fn (.func 81) [] []])]) := two_h 81
theorem two1_h : Holds Try.prog 80 [.c (.fn (.func 82) [] [])] [] (fun r h' => r = V.cell (.fn (.func 103) [] [(.loc [1], 0)]) ∧ h' = [(.loc [1], [.fn (.func 82) [] []])]) := two_h 82
theorem two2_h : Holds Try.prog 80 [.c (.fn (.func 83) [] [])] [] (fun r h' => r = V.cell (.fn (.func 103) [] [(.loc [1], 0)]) ∧ h' = [(.loc [1], [.fn (.func 83) [] []])]) := two_h 83
theorem two3_h : Holds Try.prog 80 [.c (.fn (.func 84) [] [])] [] (fun r h' => r = V.cell (.fn (.func 103) [] [(.loc [1], 0)]) ∧ h' = [(.loc [1], [.fn (.func 84) [] []])]) := two_h 84
theorem two4_h : Holds Try.prog 80 [.c (.fn (.func 85) [] [])] [] (fun r h' => r = V.cell (.fn (.func 103) [] [(.loc [1], 0)]) ∧ h' = [(.loc [1], [.fn (.func 85) [] []])]) := two_h 85
theorem two5_h : Holds Try.prog 80 [.c (.fn (.func 86) [] [])] [] (fun r h' => r = V.cell (.fn (.func 103) [] [(.loc [1], 0)]) ∧ h' = [(.loc [1], [.fn (.func 86) [] []])]) := two_h 86
theorem two6_h : Holds Try.prog 80 [.c (.fn (.func 87) [] [])] [] (fun r h' => r = V.cell (.fn (.func 103) [] [(.loc [1], 0)]) ∧ h' = [(.loc [1], [.fn (.func 87) [] []])]) := two_h 87
theorem two7_h : Holds Try.prog 80 [.c (.fn (.func 88) [] [])] [] (fun r h' => r = V.cell (.fn (.func 103) [] [(.loc [1], 0)]) ∧ h' = [(.loc [1], [.fn (.func 88) [] []])]) := two_h 88
set_option maxHeartbeats 2000000 in
theorem doers_h : Holds Try.prog 72 [] [] (fun r h' => r = .w (.agg (doeC (.loc [1, 0, 1]) (.loc [2, 0, 1]) (.loc [3, 0, 1]) (.loc [4, 0, 1]) (.loc [5, 0, 1]) (.loc [6, 0, 1]) (.loc [7, 0, 1]) (.loc [8, 0, 1]))) ∧ h' = doeH (.loc [1, 0, 1]) (.loc [2, 0, 1]) (.loc [3, 0, 1]) (.loc [4, 0, 1]) (.loc [5, 0, 1]) (.loc [6, 0, 1]) (.loc [7, 0, 1]) (.loc [8, 0, 1])) := by
  refine holds_of_awp Try.func72 rfl (by decide +kernel) mixed Try.ntmps72 Try.results72 ?_
  simp only [entrySt, List.map_cons, List.map_nil, List.length_cons, List.length_nil, Nat.reduceAdd, Nat.reduceSub, List.replicate_succ, List.replicate_zero, List.cons_append, List.nil_append]
  unfold doeC
  simp (maxSteps := 2000000) (disch := omega) only [go_sem, Nat.reduceAdd, Nat.reduceSub, Nat.reduceMul, Nat.reduceBEq, Nat.reduceEqDiff, Nat.reduceLT, Nat.reduceLeDiff, Nat.reduceDiv, reduceIte, reduceCtorEq]
  refine a_call [] (two0_h) ok0 ?_ ?_ ?_
  · simp (maxSteps := 2000000) (disch := omega) only [go_sem, Nat.reduceAdd, Nat.reduceSub, Nat.reduceMul, Nat.reduceBEq, Nat.reduceEqDiff, Nat.reduceLT, Nat.reduceLeDiff, Nat.reduceDiv, reduceIte, reduceCtorEq]
  · simp (maxSteps := 2000000) (disch := omega) only [go_sem, Nat.reduceAdd, Nat.reduceSub, Nat.reduceMul, Nat.reduceBEq, Nat.reduceEqDiff, Nat.reduceLT, Nat.reduceLeDiff, Nat.reduceDiv, reduceIte, reduceCtorEq]
  rintro _ _ ⟨rfl, rfl⟩
  simp (maxSteps := 2000000) (disch := omega) only [go_sem, Nat.reduceAdd, Nat.reduceSub, Nat.reduceMul, Nat.reduceBEq, Nat.reduceEqDiff, Nat.reduceLT, Nat.reduceLeDiff, Nat.reduceDiv, reduceIte, reduceCtorEq]
  refine a_call [] (two1_h) ok0 ?_ ?_ ?_
  · simp (maxSteps := 2000000) (disch := omega) only [go_sem, Nat.reduceAdd, Nat.reduceSub, Nat.reduceMul, Nat.reduceBEq, Nat.reduceEqDiff, Nat.reduceLT, Nat.reduceLeDiff, Nat.reduceDiv, reduceIte, reduceCtorEq]
  · simp (maxSteps := 2000000) (disch := omega) only [go_sem, Nat.reduceAdd, Nat.reduceSub, Nat.reduceMul, Nat.reduceBEq, Nat.reduceEqDiff, Nat.reduceLT, Nat.reduceLeDiff, Nat.reduceDiv, reduceIte, reduceCtorEq]
  rintro _ _ ⟨rfl, rfl⟩
  simp (maxSteps := 2000000) (disch := omega) only [go_sem, Nat.reduceAdd, Nat.reduceSub, Nat.reduceMul, Nat.reduceBEq, Nat.reduceEqDiff, Nat.reduceLT, Nat.reduceLeDiff, Nat.reduceDiv, reduceIte, reduceCtorEq]
  refine a_call [] (two2_h) ok0 ?_ ?_ ?_
  · simp (maxSteps := 2000000) (disch := omega) only [go_sem, Nat.reduceAdd, Nat.reduceSub, Nat.reduceMul, Nat.reduceBEq, Nat.reduceEqDiff, Nat.reduceLT, Nat.reduceLeDiff, Nat.reduceDiv, reduceIte, reduceCtorEq]
  · simp (maxSteps := 2000000) (disch := omega) only [go_sem, Nat.reduceAdd, Nat.reduceSub, Nat.reduceMul, Nat.reduceBEq, Nat.reduceEqDiff, Nat.reduceLT, Nat.reduceLeDiff, Nat.reduceDiv, reduceIte, reduceCtorEq]
  rintro _ _ ⟨rfl, rfl⟩
  simp (maxSteps := 2000000) (disch := omega) only [go_sem, Nat.reduceAdd, Nat.reduceSub, Nat.reduceMul, Nat.reduceBEq, Nat.reduceEqDiff, Nat.reduceLT, Nat.reduceLeDiff, Nat.reduceDiv, reduceIte, reduceCtorEq]
  refine a_call [] (two3_h) ok0 ?_ ?_ ?_
  · simp (maxSteps := 2000000) (disch := omega) only [go_sem, Nat.reduceAdd, Nat.reduceSub, Nat.reduceMul, Nat.reduceBEq, Nat.reduceEqDiff, Nat.reduceLT, Nat.reduceLeDiff, Nat.reduceDiv, reduceIte, reduceCtorEq]
  · simp (maxSteps := 2000000) (disch := omega) only [go_sem, Nat.reduceAdd, Nat.reduceSub, Nat.reduceMul, Nat.reduceBEq, Nat.reduceEqDiff, Nat.reduceLT, Nat.reduceLeDiff, Nat.reduceDiv, reduceIte, reduceCtorEq]
  rintro _ _ ⟨rfl, rfl⟩
  simp (maxSteps := 2000000) (disch := omega) only [go_sem, Nat.reduceAdd, Nat.reduceSub, Nat.reduceMul, Nat.reduceBEq, Nat.reduceEqDiff, Nat.reduceLT, Nat.reduceLeDiff, Nat.reduceDiv, reduceIte, reduceCtorEq]
  refine a_call [] (two4_h) ok0 ?_ ?_ ?_
  · simp (maxSteps := 2000000) (disch := omega) only [go_sem, Nat.reduceAdd, Nat.reduceSub, Nat.reduceMul, Nat.reduceBEq, Nat.reduceEqDiff, Nat.reduceLT, Nat.reduceLeDiff, Nat.reduceDiv, reduceIte, reduceCtorEq]
  · simp (maxSteps := 2000000) (disch := omega) only [go_sem, Nat.reduceAdd, Nat.reduceSub, Nat.reduceMul, Nat.reduceBEq, Nat.reduceEqDiff, Nat.reduceLT, Nat.reduceLeDiff, Nat.reduceDiv, reduceIte, reduceCtorEq]
  rintro _ _ ⟨rfl, rfl⟩
  simp (maxSteps := 2000000) (disch := omega) only [go_sem, Nat.reduceAdd, Nat.reduceSub, Nat.reduceMul, Nat.reduceBEq, Nat.reduceEqDiff, Nat.reduceLT, Nat.reduceLeDiff, Nat.reduceDiv, reduceIte, reduceCtorEq]
  refine a_call [] (two5_h) ok0 ?_ ?_ ?_
  · simp (maxSteps := 2000000) (disch := omega) only [go_sem, Nat.reduceAdd, Nat.reduceSub, Nat.reduceMul, Nat.reduceBEq, Nat.reduceEqDiff, Nat.reduceLT, Nat.reduceLeDiff, Nat.reduceDiv, reduceIte, reduceCtorEq]
  · simp (maxSteps := 2000000) (disch := omega) only [go_sem, Nat.reduceAdd, Nat.reduceSub, Nat.reduceMul, Nat.reduceBEq, Nat.reduceEqDiff, Nat.reduceLT, Nat.reduceLeDiff, Nat.reduceDiv, reduceIte, reduceCtorEq]
  rintro _ _ ⟨rfl, rfl⟩
  simp (maxSteps := 2000000) (disch := omega) only [go_sem, Nat.reduceAdd, Nat.reduceSub, Nat.reduceMul, Nat.reduceBEq, Nat.reduceEqDiff, Nat.reduceLT, Nat.reduceLeDiff, Nat.reduceDiv, reduceIte, reduceCtorEq]
  refine a_call [] (two6_h) ok0 ?_ ?_ ?_
  · simp (maxSteps := 2000000) (disch := omega) only [go_sem, Nat.reduceAdd, Nat.reduceSub, Nat.reduceMul, Nat.reduceBEq, Nat.reduceEqDiff, Nat.reduceLT, Nat.reduceLeDiff, Nat.reduceDiv, reduceIte, reduceCtorEq]
  · simp (maxSteps := 2000000) (disch := omega) only [go_sem, Nat.reduceAdd, Nat.reduceSub, Nat.reduceMul, Nat.reduceBEq, Nat.reduceEqDiff, Nat.reduceLT, Nat.reduceLeDiff, Nat.reduceDiv, reduceIte, reduceCtorEq]
  rintro _ _ ⟨rfl, rfl⟩
  simp (maxSteps := 2000000) (disch := omega) only [go_sem, Nat.reduceAdd, Nat.reduceSub, Nat.reduceMul, Nat.reduceBEq, Nat.reduceEqDiff, Nat.reduceLT, Nat.reduceLeDiff, Nat.reduceDiv, reduceIte, reduceCtorEq]
  refine a_call [] (two7_h) ok0 ?_ ?_ ?_
  · simp (maxSteps := 2000000) (disch := omega) only [go_sem, Nat.reduceAdd, Nat.reduceSub, Nat.reduceMul, Nat.reduceBEq, Nat.reduceEqDiff, Nat.reduceLT, Nat.reduceLeDiff, Nat.reduceDiv, reduceIte, reduceCtorEq]
  · simp (maxSteps := 2000000) (disch := omega) only [go_sem, Nat.reduceAdd, Nat.reduceSub, Nat.reduceMul, Nat.reduceBEq, Nat.reduceEqDiff, Nat.reduceLT, Nat.reduceLeDiff, Nat.reduceDiv, reduceIte, reduceCtorEq]
  rintro _ _ ⟨rfl, rfl⟩
  simp (maxSteps := 2000000) (disch := omega) only [go_sem, Nat.reduceAdd, Nat.reduceSub, Nat.reduceMul, Nat.reduceBEq, Nat.reduceEqDiff, Nat.reduceLT, Nat.reduceLeDiff, Nat.reduceDiv, reduceIte, reduceCtorEq]
  try simp (maxSteps := 2000000) (disch := omega) only [go_sem, Nat.reduceAdd, Nat.reduceSub, Nat.reduceMul, Nat.reduceBEq, Nat.reduceEqDiff, Nat.reduceLT, Nat.reduceLeDiff, Nat.reduceDiv, reduceIte, reduceCtorEq]
  exact leCs_refl _
end Go.Proofs.Ytamcjecgkfmjkaa

/- Chapter 10: a frame of a game without instructions. -/
open Go Go.RowKit
namespace Go.Proofs.Ytamcjecgkfmjkaa
set_option linter.unusedSimpArgs false
set_option linter.unusedVariables false
@[go_sem ↓ 1150] theorem e_lenN {P : Program} {t : TypeId} {o : Own} {nl : Option Bool} {sz : Nat} {V' : V → Prop} : aLen P t (.cell (.lst o nl sz [])) V' = (isSlcT P t = true ∧ V' (.int .i64 0)) := by
  simp [aLen]
@[go_sem 1200] theorem set_frame {s : Sta} {x : Int} : ((sd s).map D.toC).set 0 (.val (.int .i64 x)) = (sd (s.wFrame x)).map D.toC := spl_frame
@[go_sem 1200] theorem set_over {s : Sta} {x : Bool} : ((sd s).map D.toC).set 18 (.val (.bool x)) = (sd (s.wOver x)).map D.toC := spl_over
@[go_sem 1200] theorem set_win {s : Sta} {x : Int} : ((sd s).map D.toC).set 19 (.val (.int .i64 x)) = (sd (s.wWin x)).map D.toC := spl_win
abbrev mcB (s : Sta) (i0 i1 : UInt16) : List C := mcC s i0 i1 (.lst .full (some true) 1 []) 0 false false
set_option maxRecDepth 20000 in
set_option maxHeartbeats 4000000 in
theorem run0_h (s : Sta) (i0 i1 : UInt16) (cap fuel : Int) : Holds Try.prog 65 [.ptr (.arg 0) 0, .game [] cap fuel] [(.arg 0, mcB s i0 i1)] (fun r h' => r = .int .i64 0 ∧ h' = [(.arg 0, mcB s i0 i1)]) := by
  refine holds_of_awp Try.func65 rfl (by decide +kernel) mixed Try.ntmps65 Try.results65 ?_
  simp only [entrySt, List.map_cons, List.map_nil, List.length_cons, List.length_nil, Nat.reduceAdd, Nat.reduceSub, List.replicate_succ, List.replicate_zero, List.cons_append, List.nil_append]
  simp (maxSteps := 2000000) (disch := omega) only [go_sem, Nat.reduceAdd, Nat.reduceSub, Nat.reduceMul, Nat.reduceBEq, Nat.reduceEqDiff, Nat.reduceLT, Nat.reduceLeDiff, Nat.reduceDiv, reduceIte, reduceCtorEq]
  refine a_call [] (doers_h) ok0 ?_ ?_ ?_
  · simp (maxSteps := 2000000) (disch := omega) only [go_sem, Nat.reduceAdd, Nat.reduceSub, Nat.reduceMul, Nat.reduceBEq, Nat.reduceEqDiff, Nat.reduceLT, Nat.reduceLeDiff, Nat.reduceDiv, reduceIte, reduceCtorEq]
  · simp (maxSteps := 2000000) (disch := omega) only [go_sem, Nat.reduceAdd, Nat.reduceSub, Nat.reduceMul, Nat.reduceBEq, Nat.reduceEqDiff, Nat.reduceLT, Nat.reduceLeDiff, Nat.reduceDiv, reduceIte, reduceCtorEq]
  rintro _ _ ⟨rfl, rfl⟩
  simp (maxSteps := 2000000) (disch := omega) only [go_sem, Nat.reduceAdd, Nat.reduceSub, Nat.reduceMul, Nat.reduceBEq, Nat.reduceEqDiff, Nat.reduceLT, Nat.reduceLeDiff, Nat.reduceDiv, reduceIte, reduceCtorEq]
  refine a_loopk (fun _ : Unit => ⟨[V.cell (.ptr (.arg 0) 0), .undef, .undef, V.cell (.ptr (.loc [3]) 0), .undef, .undef, .undef, .undef, .undef, .undef, .undef, .undef, .undef, .undef, .undef, .undef, .undef, .undef, .undef, .undef, .undef, .undef, .undef, .undef, .undef, .undef, .undef, .undef, .undef, .undef, .undef, .undef, .undef, .undef, .undef, .undef, .undef, .undef, .undef, .undef, .undef, .undef, .undef, .undef, .undef, .undef, .undef, .undef, .undef, .undef, .undef, .undef, .undef, .undef, .undef, .undef, .undef], [(.loc [3], [.lst .no none 2 (ins []), .val (.int .i64 cap), .val (.int .i64 fuel)]), (.arg 0, mcB s i0 i1)]⟩) (fun _ => True) (fun _ => 0) () trivial ?_ ?_
  · try simp (maxSteps := 2000000) (disch := omega) only [go_sem, Nat.reduceAdd, Nat.reduceSub, Nat.reduceMul, Nat.reduceBEq, Nat.reduceEqDiff, Nat.reduceLT, Nat.reduceLeDiff, Nat.reduceDiv, reduceIte, reduceCtorEq]
  · rintro _ _
    simp (maxSteps := 2000000) (disch := omega) only [go_sem, Nat.reduceAdd, Nat.reduceSub, Nat.reduceMul, Nat.reduceBEq, Nat.reduceEqDiff, Nat.reduceLT, Nat.reduceLeDiff, Nat.reduceDiv, reduceIte, reduceCtorEq]
    refine a_quiet (by kernel_rfl) (by kernel_rfl) (by kernel_rfl) ?_
    simp (maxSteps := 2000000) (disch := omega) only [go_sem, Nat.reduceAdd, Nat.reduceSub, Nat.reduceMul, Nat.reduceBEq, Nat.reduceEqDiff, Nat.reduceLT, Nat.reduceLeDiff, Nat.reduceDiv, reduceIte, reduceCtorEq, Int.reduceLT, Int.reduceLE, Int.reduceEq, Int.reduceNe, Int.reduceAdd, Int.reduceSub, Int.reduceMul, Int.reduceNeg, Int.reduceDiv, Int.reduceMod, Int.reduceTMod, Int.reduceTDiv, Int.reduceFDiv, Int.reducePow, Int.reduceToNat, U64n, BitVec.reduceOfInt, BitVec.reduceAnd, BitVec.reduceToNat, bits_u64, bits_i64]
def isP (s : Sta) : Bool := decide (0 ≤ s.frame) && decide (s.frame ≤ 600) && decide (0 ≤ s.win) && decide (s.win ≤ 2) && (s.over || decide (s.win = 0))
theorem isState_h (s : Sta) : Holds Try.prog 64 [.agg ((sd s).map D.toC)] [] (fun r h' => r = V.bool (isP s) ∧ h' = []) := by
  refine holds_of_awp Try.func64 rfl (by decide +kernel) mixed Try.ntmps64 Try.results64 ?_
  simp only [entrySt, List.map_cons, List.map_nil, List.length_cons, List.length_nil, Nat.reduceAdd, Nat.reduceSub, List.replicate_succ, List.replicate_zero, List.cons_append, List.nil_append]
  unfold isP
  cases d1 : decide (0 ≤ s.frame)
  · simp (maxSteps := 2000000) (disch := omega) only [go_sem, Nat.reduceAdd, Nat.reduceSub, Nat.reduceMul, Nat.reduceBEq, Nat.reduceEqDiff, Nat.reduceLT, Nat.reduceLeDiff, Nat.reduceDiv, reduceIte, reduceCtorEq, d1]
    simp
  · cases d2 : decide (s.frame ≤ 600)
    · simp (maxSteps := 2000000) (disch := omega) only [go_sem, Nat.reduceAdd, Nat.reduceSub, Nat.reduceMul, Nat.reduceBEq, Nat.reduceEqDiff, Nat.reduceLT, Nat.reduceLeDiff, Nat.reduceDiv, reduceIte, reduceCtorEq, d1, d2]
      simp
    · cases d3 : decide (0 ≤ s.win)
      · simp (maxSteps := 2000000) (disch := omega) only [go_sem, Nat.reduceAdd, Nat.reduceSub, Nat.reduceMul, Nat.reduceBEq, Nat.reduceEqDiff, Nat.reduceLT, Nat.reduceLeDiff, Nat.reduceDiv, reduceIte, reduceCtorEq, d1, d2, d3]
        simp
      · cases d4 : decide (s.win ≤ 2)
        · simp (maxSteps := 2000000) (disch := omega) only [go_sem, Nat.reduceAdd, Nat.reduceSub, Nat.reduceMul, Nat.reduceBEq, Nat.reduceEqDiff, Nat.reduceLT, Nat.reduceLeDiff, Nat.reduceDiv, reduceIte, reduceCtorEq, d1, d2, d3, d4]
          simp
        · cases d5 : s.over
          · simp (maxSteps := 2000000) (disch := omega) only [go_sem, Nat.reduceAdd, Nat.reduceSub, Nat.reduceMul, Nat.reduceBEq, Nat.reduceEqDiff, Nat.reduceLT, Nat.reduceLeDiff, Nat.reduceDiv, reduceIte, reduceCtorEq, d1, d2, d3, d4, d5]
          · simp (maxSteps := 2000000) (disch := omega) only [go_sem, Nat.reduceAdd, Nat.reduceSub, Nat.reduceMul, Nat.reduceBEq, Nat.reduceEqDiff, Nat.reduceLT, Nat.reduceLeDiff, Nat.reduceDiv, reduceIte, reduceCtorEq, d1, d2, d3, d4, d5]
@[go_sem 1300] theorem mc_lit {sk : C} {s : Sta} : spl [.val (.int .i64 0), .val (.int .i32 0), .val (.int .i32 0), .val (.int .i32 0), .val (.int .i32 0), .val (.int .i32 0), .val (.int .i32 0), .val (.int .i32 0), .val (.int .i32 0), .val (.int .i32 0), .val (.int .i32 0), .val (.int .i32 0), .val (.int .i32 0), .val (.int .i32 0), .val (.int .i32 0), .val (.int .i32 0), .val (.int .i32 0), .val (.int .u32 0), .val (.bool false), .val (.int .i64 0), .val (.int .u16 0), .val (.int .u16 0), sk, .val (.int .i64 0), .val (.bool false), .val (.bool false)] 0 ((sd s).map D.toC) = mcC s 0 0 sk 0 false false := by
  show spl (mcC (stz 0 0) 0 0 sk 0 false false) 0 ((sd s).map D.toC) = _
  exact mc_ss
set_option maxRecDepth 20000 in
set_option maxHeartbeats 4000000 in
theorem step0_h (s : Sta) (i0 i1 : UInt16) (cap fuel : Int) (hg : gameP [] cap fuel = 0) (hi : isP s = true) (hz : ¬ U32 s.seed = 0) (ho : s.over = false) (hf : s.frame + 1 < cap) (h0 : 0 ≤ s.frame) (hc : cap ≤ 600) :
    Holds Try.prog 57 [.game [] cap fuel, .agg ((sd s).map D.toC), .agg [.val (.int .u16 (U16 i0)), .val (.int .u16 (U16 i1))]] [] (fun r h' => r = .tup [.agg ((sd (s.wFrame (s.frame + 1))).map D.toC), .int .i64 0] ∧ h' = []) := by
  have hgc := gcheck_h [] cap fuel (by decide)
  rw [hg] at hgc
  have his := isState_h s
  rw [hi] at his
  have z1 : decide (U32 s.seed = 0) = false := by simpa using hz
  have z2 : decide (cap ≤ s.frame) = false := by simp; omega
  refine holds_of_awp Try.func57 rfl (by decide +kernel) mixed Try.ntmps57 Try.results57 ?_
  simp only [entrySt, List.map_cons, List.map_nil, List.length_cons, List.length_nil, Nat.reduceAdd, Nat.reduceSub, List.replicate_succ, List.replicate_zero, List.cons_append, List.nil_append]
  simp (maxSteps := 2000000) (disch := omega) only [go_sem, Nat.reduceAdd, Nat.reduceSub, Nat.reduceMul, Nat.reduceBEq, Nat.reduceEqDiff, Nat.reduceLT, Nat.reduceLeDiff, Nat.reduceDiv, reduceIte, reduceCtorEq]
  refine a_call [] (hgc) ok0 ?_ ?_ ?_
  · simp (maxSteps := 2000000) (disch := omega) only [go_sem, Nat.reduceAdd, Nat.reduceSub, Nat.reduceMul, Nat.reduceBEq, Nat.reduceEqDiff, Nat.reduceLT, Nat.reduceLeDiff, Nat.reduceDiv, reduceIte, reduceCtorEq]
  · simp (maxSteps := 2000000) (disch := omega) only [go_sem, Nat.reduceAdd, Nat.reduceSub, Nat.reduceMul, Nat.reduceBEq, Nat.reduceEqDiff, Nat.reduceLT, Nat.reduceLeDiff, Nat.reduceDiv, reduceIte, reduceCtorEq]
  rintro _ _ ⟨rfl, rfl⟩
  simp (maxSteps := 2000000) (disch := omega) only [go_sem, Nat.reduceAdd, Nat.reduceSub, Nat.reduceMul, Nat.reduceBEq, Nat.reduceEqDiff, Nat.reduceLT, Nat.reduceLeDiff, Nat.reduceDiv, reduceIte, reduceCtorEq, Int.reduceLT, Int.reduceLE, Int.reduceEq, Int.reduceNe, Int.reduceAdd, Int.reduceSub, Int.reduceMul, Int.reduceNeg, Int.reduceDiv, Int.reduceMod, Int.reduceTMod, Int.reduceTDiv, Int.reduceFDiv, Int.reducePow, Int.reduceToNat, U64n, BitVec.reduceOfInt, BitVec.reduceAnd, BitVec.reduceToNat, bits_u64, bits_i64]
  refine a_call [] (his) ok0 ?_ ?_ ?_
  · simp (maxSteps := 2000000) (disch := omega) only [go_sem, Nat.reduceAdd, Nat.reduceSub, Nat.reduceMul, Nat.reduceBEq, Nat.reduceEqDiff, Nat.reduceLT, Nat.reduceLeDiff, Nat.reduceDiv, reduceIte, reduceCtorEq]
  · simp (maxSteps := 2000000) (disch := omega) only [go_sem, Nat.reduceAdd, Nat.reduceSub, Nat.reduceMul, Nat.reduceBEq, Nat.reduceEqDiff, Nat.reduceLT, Nat.reduceLeDiff, Nat.reduceDiv, reduceIte, reduceCtorEq]
  rintro _ _ ⟨rfl, rfl⟩
  simp (maxSteps := 2000000) (disch := omega) only [go_sem, Nat.reduceAdd, Nat.reduceSub, Nat.reduceMul, Nat.reduceBEq, Nat.reduceEqDiff, Nat.reduceLT, Nat.reduceLeDiff, Nat.reduceDiv, reduceIte, reduceCtorEq, z1, ho, z2]
  refine a_call [.loc [40]] (run0_h s i0 i1 cap fuel) (ok1 rfl) ?_ ?_ ?_
  · simp (maxSteps := 2000000) (disch := omega) only [go_sem, Nat.reduceAdd, Nat.reduceSub, Nat.reduceMul, Nat.reduceBEq, Nat.reduceEqDiff, Nat.reduceLT, Nat.reduceLeDiff, Nat.reduceDiv, reduceIte, reduceCtorEq]
  · simp (maxSteps := 2000000) (disch := omega) only [go_sem, Nat.reduceAdd, Nat.reduceSub, Nat.reduceMul, Nat.reduceBEq, Nat.reduceEqDiff, Nat.reduceLT, Nat.reduceLeDiff, Nat.reduceDiv, reduceIte, reduceCtorEq]
  rintro _ _ ⟨rfl, rfl⟩
  have z3 : decide (cap ≤ s.frame + 1) = false := by simp; omega
  simp (maxSteps := 2000000) (disch := omega) only [go_sem, Nat.reduceAdd, Nat.reduceSub, Nat.reduceMul, Nat.reduceBEq, Nat.reduceEqDiff, Nat.reduceLT, Nat.reduceLeDiff, Nat.reduceDiv, reduceIte, reduceCtorEq, z3]
end Go.Proofs.Ytamcjecgkfmjkaa

/- Chapter 8 in the logic: sums, products, quotients. -/
open Go Go.RowKit
namespace Go.Proofs.Ytamcjecgkfmjkaa
set_option linter.unusedSimpArgs false
set_option linter.unusedVariables false
def held (v : Int) : Int := max (-2147483648) (min 2147483647 v)
theorem held_b (v : Int) : B32 (held v) := by unfold held B32; omega
theorem held_h (v : Int) (h1 : -9223372036854775808 ≤ v) (h2 : v ≤ 9223372036854775807) : Holds Try.prog 104 [.int .i64 v] [] (fun r h' => r = V.int .i32 (held v) ∧ h' = []) := by
  refine holds_of_awp Try.func104 rfl (by decide +kernel) mixed Try.ntmps104 Try.results104 ?_
  simp only [entrySt, List.map_cons, List.map_nil, List.length_cons, List.length_nil, Nat.reduceAdd, Nat.reduceSub, List.replicate_succ, List.replicate_zero, List.cons_append, List.nil_append]
  have hb := held_b v
  unfold B32 at hb
  simp (maxSteps := 2000000) (disch := omega) only [go_sem, Nat.reduceAdd, Nat.reduceSub, Nat.reduceMul, Nat.reduceBEq, Nat.reduceEqDiff, Nat.reduceLT, Nat.reduceLeDiff, Nat.reduceDiv, reduceIte, reduceCtorEq]
  rfl
theorem rheld_h (v : Int) (h1 : -9223372036854775808 ≤ v) (h2 : v ≤ 9223372036854775807) : Holds Try.prog 100 [.int .i64 v] [] (fun r h' => r = V.int .i32 (held v) ∧ h' = []) := by
  refine holds_of_awp Try.func100 rfl (by decide +kernel) mixed Try.ntmps100 Try.results100 ?_
  simp only [entrySt, List.map_cons, List.map_nil, List.length_cons, List.length_nil, Nat.reduceAdd, Nat.reduceSub, List.replicate_succ, List.replicate_zero, List.cons_append, List.nil_append]
  simp (maxSteps := 2000000) (disch := omega) only [go_sem, Nat.reduceAdd, Nat.reduceSub, Nat.reduceMul, Nat.reduceBEq, Nat.reduceEqDiff, Nat.reduceLT, Nat.reduceLeDiff, Nat.reduceDiv, reduceIte, reduceCtorEq]
  refine c_dec (fun h => ?_) (fun h => ?_)
  · have e : held v = 2147483647 := by unfold held; omega
    rw [e]
    simp (maxSteps := 2000000) (disch := omega) only [go_sem, Nat.reduceAdd, Nat.reduceSub, Nat.reduceMul, Nat.reduceBEq, Nat.reduceEqDiff, Nat.reduceLT, Nat.reduceLeDiff, Nat.reduceDiv, reduceIte, reduceCtorEq]
  · simp (maxSteps := 2000000) (disch := omega) only [go_sem, Nat.reduceAdd, Nat.reduceSub, Nat.reduceMul, Nat.reduceBEq, Nat.reduceEqDiff, Nat.reduceLT, Nat.reduceLeDiff, Nat.reduceDiv, reduceIte, reduceCtorEq]
    refine c_dec (fun h3 => ?_) (fun h3 => ?_)
    · have e : held v = -2147483648 := by unfold held; omega
      rw [e]
      simp (maxSteps := 2000000) (disch := omega) only [go_sem, Nat.reduceAdd, Nat.reduceSub, Nat.reduceMul, Nat.reduceBEq, Nat.reduceEqDiff, Nat.reduceLT, Nat.reduceLeDiff, Nat.reduceDiv, reduceIte, reduceCtorEq]
    · have e : held v = v := by unfold held; omega
      rw [e]
      simp (maxSteps := 2000000) (disch := omega) only [go_sem, Nat.reduceAdd, Nat.reduceSub, Nat.reduceMul, Nat.reduceBEq, Nat.reduceEqDiff, Nat.reduceLT, Nat.reduceLeDiff, Nat.reduceDiv, reduceIte, reduceCtorEq]
def divV (a b : Int) : Int := if b = 0 then (if 0 < a then 2147483647 else if a < 0 then -2147483648 else 0) else held ((a * 65536).tdiv b)
theorem add_h (a b : Int) (ha : B32 a) (hb : B32 b) : Holds Try.prog 81 [.int .i32 a, .int .i32 b] [] (fun r h' => r = V.int .i32 (held (a + b)) ∧ h' = []) := by
  unfold B32 at ha hb
  refine holds_of_awp Try.func81 rfl (by decide +kernel) mixed Try.ntmps81 Try.results81 ?_
  simp only [entrySt, List.map_cons, List.map_nil, List.length_cons, List.length_nil, Nat.reduceAdd, Nat.reduceSub, List.replicate_succ, List.replicate_zero, List.cons_append, List.nil_append]
  simp (maxSteps := 2000000) (disch := omega) only [go_sem, Nat.reduceAdd, Nat.reduceSub, Nat.reduceMul, Nat.reduceBEq, Nat.reduceEqDiff, Nat.reduceLT, Nat.reduceLeDiff, Nat.reduceDiv, reduceIte, reduceCtorEq]
  refine a_call [] (held_h (a + b) (by omega) (by omega)) ok0 ?_ ?_ ?_
  · simp (maxSteps := 2000000) (disch := omega) only [go_sem, Nat.reduceAdd, Nat.reduceSub, Nat.reduceMul, Nat.reduceBEq, Nat.reduceEqDiff, Nat.reduceLT, Nat.reduceLeDiff, Nat.reduceDiv, reduceIte, reduceCtorEq]
  · simp (maxSteps := 2000000) (disch := omega) only [go_sem, Nat.reduceAdd, Nat.reduceSub, Nat.reduceMul, Nat.reduceBEq, Nat.reduceEqDiff, Nat.reduceLT, Nat.reduceLeDiff, Nat.reduceDiv, reduceIte, reduceCtorEq]
  rintro _ _ ⟨rfl, rfl⟩
  simp (maxSteps := 2000000) (disch := omega) only [go_sem, Nat.reduceAdd, Nat.reduceSub, Nat.reduceMul, Nat.reduceBEq, Nat.reduceEqDiff, Nat.reduceLT, Nat.reduceLeDiff, Nat.reduceDiv, reduceIte, reduceCtorEq]
theorem sub_h (a b : Int) (ha : B32 a) (hb : B32 b) : Holds Try.prog 82 [.int .i32 a, .int .i32 b] [] (fun r h' => r = V.int .i32 (held (a - b)) ∧ h' = []) := by
  unfold B32 at ha hb
  refine holds_of_awp Try.func82 rfl (by decide +kernel) mixed Try.ntmps82 Try.results82 ?_
  simp only [entrySt, List.map_cons, List.map_nil, List.length_cons, List.length_nil, Nat.reduceAdd, Nat.reduceSub, List.replicate_succ, List.replicate_zero, List.cons_append, List.nil_append]
  simp (maxSteps := 2000000) (disch := omega) only [go_sem, Nat.reduceAdd, Nat.reduceSub, Nat.reduceMul, Nat.reduceBEq, Nat.reduceEqDiff, Nat.reduceLT, Nat.reduceLeDiff, Nat.reduceDiv, reduceIte, reduceCtorEq]
  refine a_call [] (held_h (a - b) (by omega) (by omega)) ok0 ?_ ?_ ?_
  · simp (maxSteps := 2000000) (disch := omega) only [go_sem, Nat.reduceAdd, Nat.reduceSub, Nat.reduceMul, Nat.reduceBEq, Nat.reduceEqDiff, Nat.reduceLT, Nat.reduceLeDiff, Nat.reduceDiv, reduceIte, reduceCtorEq]
  · simp (maxSteps := 2000000) (disch := omega) only [go_sem, Nat.reduceAdd, Nat.reduceSub, Nat.reduceMul, Nat.reduceBEq, Nat.reduceEqDiff, Nat.reduceLT, Nat.reduceLeDiff, Nat.reduceDiv, reduceIte, reduceCtorEq]
  rintro _ _ ⟨rfl, rfl⟩
  simp (maxSteps := 2000000) (disch := omega) only [go_sem, Nat.reduceAdd, Nat.reduceSub, Nat.reduceMul, Nat.reduceBEq, Nat.reduceEqDiff, Nat.reduceLT, Nat.reduceLeDiff, Nat.reduceDiv, reduceIte, reduceCtorEq]
theorem mul_h (a b : Int) (ha : B32 a) (hb : B32 b) : Holds Try.prog 83 [.int .i32 a, .int .i32 b] [] (fun r h' => r = V.int .i32 (held (a * b / 65536)) ∧ h' = []) := by
  have hm := mul_bound ha hb
  unfold B32 at ha hb
  refine holds_of_awp Try.func83 rfl (by decide +kernel) mixed Try.ntmps83 Try.results83 ?_
  simp only [entrySt, List.map_cons, List.map_nil, List.length_cons, List.length_nil, Nat.reduceAdd, Nat.reduceSub, List.replicate_succ, List.replicate_zero, List.cons_append, List.nil_append]
  simp (maxSteps := 2000000) (disch := omega) only [go_sem, Nat.reduceAdd, Nat.reduceSub, Nat.reduceMul, Nat.reduceBEq, Nat.reduceEqDiff, Nat.reduceLT, Nat.reduceLeDiff, Nat.reduceDiv, reduceIte, reduceCtorEq]
  refine a_call [] (held_h (a * b / 65536) (by omega) (by omega)) ok0 ?_ ?_ ?_
  · simp (maxSteps := 2000000) (disch := omega) only [go_sem, Nat.reduceAdd, Nat.reduceSub, Nat.reduceMul, Nat.reduceBEq, Nat.reduceEqDiff, Nat.reduceLT, Nat.reduceLeDiff, Nat.reduceDiv, reduceIte, reduceCtorEq]
  · simp (maxSteps := 2000000) (disch := omega) only [go_sem, Nat.reduceAdd, Nat.reduceSub, Nat.reduceMul, Nat.reduceBEq, Nat.reduceEqDiff, Nat.reduceLT, Nat.reduceLeDiff, Nat.reduceDiv, reduceIte, reduceCtorEq]
  rintro _ _ ⟨rfl, rfl⟩
  simp (maxSteps := 2000000) (disch := omega) only [go_sem, Nat.reduceAdd, Nat.reduceSub, Nat.reduceMul, Nat.reduceBEq, Nat.reduceEqDiff, Nat.reduceLT, Nat.reduceLeDiff, Nat.reduceDiv, reduceIte, reduceCtorEq]
theorem radd_h (a b : Int) (ha : B32 a) (hb : B32 b) : Holds Try.prog 73 [.int .i32 a, .int .i32 b] [] (fun r h' => r = V.int .i32 (held (a + b)) ∧ h' = []) := by
  unfold B32 at ha hb
  refine holds_of_awp Try.func73 rfl (by decide +kernel) mixed Try.ntmps73 Try.results73 ?_
  simp only [entrySt, List.map_cons, List.map_nil, List.length_cons, List.length_nil, Nat.reduceAdd, Nat.reduceSub, List.replicate_succ, List.replicate_zero, List.cons_append, List.nil_append]
  simp (maxSteps := 2000000) (disch := omega) only [go_sem, Nat.reduceAdd, Nat.reduceSub, Nat.reduceMul, Nat.reduceBEq, Nat.reduceEqDiff, Nat.reduceLT, Nat.reduceLeDiff, Nat.reduceDiv, reduceIte, reduceCtorEq]
  refine a_call [] (rheld_h (a + b) (by omega) (by omega)) ok0 ?_ ?_ ?_
  · simp (maxSteps := 2000000) (disch := omega) only [go_sem, Nat.reduceAdd, Nat.reduceSub, Nat.reduceMul, Nat.reduceBEq, Nat.reduceEqDiff, Nat.reduceLT, Nat.reduceLeDiff, Nat.reduceDiv, reduceIte, reduceCtorEq]
  · simp (maxSteps := 2000000) (disch := omega) only [go_sem, Nat.reduceAdd, Nat.reduceSub, Nat.reduceMul, Nat.reduceBEq, Nat.reduceEqDiff, Nat.reduceLT, Nat.reduceLeDiff, Nat.reduceDiv, reduceIte, reduceCtorEq]
  rintro _ _ ⟨rfl, rfl⟩
  simp (maxSteps := 2000000) (disch := omega) only [go_sem, Nat.reduceAdd, Nat.reduceSub, Nat.reduceMul, Nat.reduceBEq, Nat.reduceEqDiff, Nat.reduceLT, Nat.reduceLeDiff, Nat.reduceDiv, reduceIte, reduceCtorEq]
theorem rsub_h (a b : Int) (ha : B32 a) (hb : B32 b) : Holds Try.prog 74 [.int .i32 a, .int .i32 b] [] (fun r h' => r = V.int .i32 (held (a - b)) ∧ h' = []) := by
  unfold B32 at ha hb
  refine holds_of_awp Try.func74 rfl (by decide +kernel) mixed Try.ntmps74 Try.results74 ?_
  simp only [entrySt, List.map_cons, List.map_nil, List.length_cons, List.length_nil, Nat.reduceAdd, Nat.reduceSub, List.replicate_succ, List.replicate_zero, List.cons_append, List.nil_append]
  simp (maxSteps := 2000000) (disch := omega) only [go_sem, Nat.reduceAdd, Nat.reduceSub, Nat.reduceMul, Nat.reduceBEq, Nat.reduceEqDiff, Nat.reduceLT, Nat.reduceLeDiff, Nat.reduceDiv, reduceIte, reduceCtorEq]
  refine a_call [] (rheld_h (a - b) (by omega) (by omega)) ok0 ?_ ?_ ?_
  · simp (maxSteps := 2000000) (disch := omega) only [go_sem, Nat.reduceAdd, Nat.reduceSub, Nat.reduceMul, Nat.reduceBEq, Nat.reduceEqDiff, Nat.reduceLT, Nat.reduceLeDiff, Nat.reduceDiv, reduceIte, reduceCtorEq]
  · simp (maxSteps := 2000000) (disch := omega) only [go_sem, Nat.reduceAdd, Nat.reduceSub, Nat.reduceMul, Nat.reduceBEq, Nat.reduceEqDiff, Nat.reduceLT, Nat.reduceLeDiff, Nat.reduceDiv, reduceIte, reduceCtorEq]
  rintro _ _ ⟨rfl, rfl⟩
  simp (maxSteps := 2000000) (disch := omega) only [go_sem, Nat.reduceAdd, Nat.reduceSub, Nat.reduceMul, Nat.reduceBEq, Nat.reduceEqDiff, Nat.reduceLT, Nat.reduceLeDiff, Nat.reduceDiv, reduceIte, reduceCtorEq]
theorem rmul_h (a b : Int) (ha : B32 a) (hb : B32 b) : Holds Try.prog 75 [.int .i32 a, .int .i32 b] [] (fun r h' => r = V.int .i32 (held (a * b / 65536)) ∧ h' = []) := by
  have hm := mul_bound ha hb
  unfold B32 at ha hb
  refine holds_of_awp Try.func75 rfl (by decide +kernel) mixed Try.ntmps75 Try.results75 ?_
  simp only [entrySt, List.map_cons, List.map_nil, List.length_cons, List.length_nil, Nat.reduceAdd, Nat.reduceSub, List.replicate_succ, List.replicate_zero, List.cons_append, List.nil_append]
  simp (maxSteps := 2000000) (disch := omega) only [go_sem, Nat.reduceAdd, Nat.reduceSub, Nat.reduceMul, Nat.reduceBEq, Nat.reduceEqDiff, Nat.reduceLT, Nat.reduceLeDiff, Nat.reduceDiv, reduceIte, reduceCtorEq]
  refine a_call [] (rheld_h (a * b / 65536) (by omega) (by omega)) ok0 ?_ ?_ ?_
  · simp (maxSteps := 2000000) (disch := omega) only [go_sem, Nat.reduceAdd, Nat.reduceSub, Nat.reduceMul, Nat.reduceBEq, Nat.reduceEqDiff, Nat.reduceLT, Nat.reduceLeDiff, Nat.reduceDiv, reduceIte, reduceCtorEq]
  · simp (maxSteps := 2000000) (disch := omega) only [go_sem, Nat.reduceAdd, Nat.reduceSub, Nat.reduceMul, Nat.reduceBEq, Nat.reduceEqDiff, Nat.reduceLT, Nat.reduceLeDiff, Nat.reduceDiv, reduceIte, reduceCtorEq]
  rintro _ _ ⟨rfl, rfl⟩
  simp (maxSteps := 2000000) (disch := omega) only [go_sem, Nat.reduceAdd, Nat.reduceSub, Nat.reduceMul, Nat.reduceBEq, Nat.reduceEqDiff, Nat.reduceLT, Nat.reduceLeDiff, Nat.reduceDiv, reduceIte, reduceCtorEq]
theorem div_h (a b : Int) (ha : B32 a) (hb : B32 b) : Holds Try.prog 84 [.int .i32 a, .int .i32 b] [] (fun r h' => r = V.int .i32 (divV a b) ∧ h' = []) := by
  unfold B32 at ha hb
  have ht := tdiv_bound (a := a * 65536) (b := b) (m := 140737488355328) (by omega) (by omega)
  refine holds_of_awp Try.func84 rfl (by decide +kernel) mixed Try.ntmps84 Try.results84 ?_
  simp only [entrySt, List.map_cons, List.map_nil, List.length_cons, List.length_nil, Nat.reduceAdd, Nat.reduceSub, List.replicate_succ, List.replicate_zero, List.cons_append, List.nil_append]
  simp (maxSteps := 2000000) (disch := omega) only [go_sem, Nat.reduceAdd, Nat.reduceSub, Nat.reduceMul, Nat.reduceBEq, Nat.reduceEqDiff, Nat.reduceLT, Nat.reduceLeDiff, Nat.reduceDiv, reduceIte, reduceCtorEq]
  refine c_dec (fun h => ?_) (fun h => ?_)
  · have e : divV a b = held ((a * 65536).tdiv b) := by unfold divV; rw [if_neg h]
    rw [e]
    simp (maxSteps := 2000000) (disch := omega) only [go_sem, Nat.reduceAdd, Nat.reduceSub, Nat.reduceMul, Nat.reduceBEq, Nat.reduceEqDiff, Nat.reduceLT, Nat.reduceLeDiff, Nat.reduceDiv, reduceIte, reduceCtorEq]
    refine a_call [] (held_h ((a * 65536).tdiv b) (by omega) (by omega)) ok0 ?_ ?_ ?_
    · simp (maxSteps := 2000000) (disch := omega) only [go_sem, Nat.reduceAdd, Nat.reduceSub, Nat.reduceMul, Nat.reduceBEq, Nat.reduceEqDiff, Nat.reduceLT, Nat.reduceLeDiff, Nat.reduceDiv, reduceIte, reduceCtorEq]
    · simp (maxSteps := 2000000) (disch := omega) only [go_sem, Nat.reduceAdd, Nat.reduceSub, Nat.reduceMul, Nat.reduceBEq, Nat.reduceEqDiff, Nat.reduceLT, Nat.reduceLeDiff, Nat.reduceDiv, reduceIte, reduceCtorEq]
    rintro _ _ ⟨rfl, rfl⟩
    simp (maxSteps := 2000000) (disch := omega) only [go_sem, Nat.reduceAdd, Nat.reduceSub, Nat.reduceMul, Nat.reduceBEq, Nat.reduceEqDiff, Nat.reduceLT, Nat.reduceLeDiff, Nat.reduceDiv, reduceIte, reduceCtorEq]
  · have hb0 : b = 0 := by omega
    simp (maxSteps := 2000000) (disch := omega) only [go_sem, Nat.reduceAdd, Nat.reduceSub, Nat.reduceMul, Nat.reduceBEq, Nat.reduceEqDiff, Nat.reduceLT, Nat.reduceLeDiff, Nat.reduceDiv, reduceIte, reduceCtorEq]
    refine c_dec (fun h2 => ?_) (fun h2 => ?_)
    · have e : divV a b = 2147483647 := by unfold divV; rw [if_pos hb0, if_pos h2]
      rw [e]
      simp (maxSteps := 2000000) (disch := omega) only [go_sem, Nat.reduceAdd, Nat.reduceSub, Nat.reduceMul, Nat.reduceBEq, Nat.reduceEqDiff, Nat.reduceLT, Nat.reduceLeDiff, Nat.reduceDiv, reduceIte, reduceCtorEq]
    · simp (maxSteps := 2000000) (disch := omega) only [go_sem, Nat.reduceAdd, Nat.reduceSub, Nat.reduceMul, Nat.reduceBEq, Nat.reduceEqDiff, Nat.reduceLT, Nat.reduceLeDiff, Nat.reduceDiv, reduceIte, reduceCtorEq]
      refine c_dec (fun h3 => ?_) (fun h3 => ?_)
      · have e : divV a b = -2147483648 := by unfold divV; rw [if_pos hb0, if_neg h2, if_pos h3]
        rw [e]
        simp (maxSteps := 2000000) (disch := omega) only [go_sem, Nat.reduceAdd, Nat.reduceSub, Nat.reduceMul, Nat.reduceBEq, Nat.reduceEqDiff, Nat.reduceLT, Nat.reduceLeDiff, Nat.reduceDiv, reduceIte, reduceCtorEq]
      · have e : divV a b = 0 := by unfold divV; rw [if_pos hb0, if_neg h2, if_neg h3]
        rw [e]
        simp (maxSteps := 2000000) (disch := omega) only [go_sem, Nat.reduceAdd, Nat.reduceSub, Nat.reduceMul, Nat.reduceBEq, Nat.reduceEqDiff, Nat.reduceLT, Nat.reduceLeDiff, Nat.reduceDiv, reduceIte, reduceCtorEq]
theorem rdiv_h (a b : Int) (ha : B32 a) (hb : B32 b) : Holds Try.prog 76 [.int .i32 a, .int .i32 b] [] (fun r h' => r = V.int .i32 (divV a b) ∧ h' = []) := by
  unfold B32 at ha hb
  have ht := tdiv_bound (a := a * 65536) (b := b) (m := 140737488355328) (by omega) (by omega)
  refine holds_of_awp Try.func76 rfl (by decide +kernel) mixed Try.ntmps76 Try.results76 ?_
  simp only [entrySt, List.map_cons, List.map_nil, List.length_cons, List.length_nil, Nat.reduceAdd, Nat.reduceSub, List.replicate_succ, List.replicate_zero, List.cons_append, List.nil_append]
  simp (maxSteps := 2000000) (disch := omega) only [go_sem, Nat.reduceAdd, Nat.reduceSub, Nat.reduceMul, Nat.reduceBEq, Nat.reduceEqDiff, Nat.reduceLT, Nat.reduceLeDiff, Nat.reduceDiv, reduceIte, reduceCtorEq]
  refine c_dec (fun h => ?_) (fun h => ?_)
  · simp (maxSteps := 2000000) (disch := omega) only [go_sem, Nat.reduceAdd, Nat.reduceSub, Nat.reduceMul, Nat.reduceBEq, Nat.reduceEqDiff, Nat.reduceLT, Nat.reduceLeDiff, Nat.reduceDiv, reduceIte, reduceCtorEq]
    refine c_dec (fun h2 => ?_) (fun h2 => ?_)
    · have e : divV a b = 2147483647 := by unfold divV; rw [if_pos h, if_pos h2]
      rw [e]
      simp (maxSteps := 2000000) (disch := omega) only [go_sem, Nat.reduceAdd, Nat.reduceSub, Nat.reduceMul, Nat.reduceBEq, Nat.reduceEqDiff, Nat.reduceLT, Nat.reduceLeDiff, Nat.reduceDiv, reduceIte, reduceCtorEq]
    · simp (maxSteps := 2000000) (disch := omega) only [go_sem, Nat.reduceAdd, Nat.reduceSub, Nat.reduceMul, Nat.reduceBEq, Nat.reduceEqDiff, Nat.reduceLT, Nat.reduceLeDiff, Nat.reduceDiv, reduceIte, reduceCtorEq]
      refine c_dec (fun h3 => ?_) (fun h3 => ?_)
      · have e : divV a b = -2147483648 := by unfold divV; rw [if_pos h, if_neg h2, if_pos h3]
        rw [e]
        simp (maxSteps := 2000000) (disch := omega) only [go_sem, Nat.reduceAdd, Nat.reduceSub, Nat.reduceMul, Nat.reduceBEq, Nat.reduceEqDiff, Nat.reduceLT, Nat.reduceLeDiff, Nat.reduceDiv, reduceIte, reduceCtorEq]
      · have e : divV a b = 0 := by unfold divV; rw [if_pos h, if_neg h2, if_neg h3]
        rw [e]
        simp (maxSteps := 2000000) (disch := omega) only [go_sem, Nat.reduceAdd, Nat.reduceSub, Nat.reduceMul, Nat.reduceBEq, Nat.reduceEqDiff, Nat.reduceLT, Nat.reduceLeDiff, Nat.reduceDiv, reduceIte, reduceCtorEq]
  · have e : divV a b = held ((a * 65536).tdiv b) := by unfold divV; rw [if_neg h]
    rw [e]
    simp (maxSteps := 2000000) (disch := omega) only [go_sem, Nat.reduceAdd, Nat.reduceSub, Nat.reduceMul, Nat.reduceBEq, Nat.reduceEqDiff, Nat.reduceLT, Nat.reduceLeDiff, Nat.reduceDiv, reduceIte, reduceCtorEq]
    refine a_call [] (rheld_h ((a * 65536).tdiv b) (by omega) (by omega)) ok0 ?_ ?_ ?_
    · simp (maxSteps := 2000000) (disch := omega) only [go_sem, Nat.reduceAdd, Nat.reduceSub, Nat.reduceMul, Nat.reduceBEq, Nat.reduceEqDiff, Nat.reduceLT, Nat.reduceLeDiff, Nat.reduceDiv, reduceIte, reduceCtorEq]
    · simp (maxSteps := 2000000) (disch := omega) only [go_sem, Nat.reduceAdd, Nat.reduceSub, Nat.reduceMul, Nat.reduceBEq, Nat.reduceEqDiff, Nat.reduceLT, Nat.reduceLeDiff, Nat.reduceDiv, reduceIte, reduceCtorEq]
    rintro _ _ ⟨rfl, rfl⟩
    simp (maxSteps := 2000000) (disch := omega) only [go_sem, Nat.reduceAdd, Nat.reduceSub, Nat.reduceMul, Nat.reduceBEq, Nat.reduceEqDiff, Nat.reduceLT, Nat.reduceLeDiff, Nat.reduceDiv, reduceIte, reduceCtorEq]
end Go.Proofs.Ytamcjecgkfmjkaa

/- Chapter 10: the machine: its numbers taken and laid, its doers. -/
open Go Go.RowKit
namespace Go.Proofs.Ytamcjecgkfmjkaa
set_option linter.unusedSimpArgs false
set_option linter.unusedVariables false
structure Mac where
  st : Sta
  i0 : UInt16
  i1 : UInt16
  sk : List Int
  pc : Int
  en : Bool
  bad : Bool
abbrev mB (i : Id) (m : Mac) : List C := mcC m.st m.i0 m.i1 (.stk (.cell i 22) 1 (c32 m.sk)) m.pc m.en m.bad
@[go_sem] theorem c32_nil : c32 [] = [] := nr rfl
@[go_sem 1200] theorem c32_app1 {l : List Int} {x : Int} : c32 l ++ [.val (.int .i32 x)] = c32 (l ++ [x]) := by simp [c32]
@[go_sem 1200] theorem c32_app2 {l : List Int} {x y : Int} : c32 l ++ [.val (.int .i32 x), .val (.int .i32 y)] = c32 (l ++ [x, y]) := by simp [c32]
@[go_sem 1200] theorem c32_take {l : List Int} {n : Nat} : (c32 l).take n = c32 (l.take n) := by simp [c32]
@[go_sem ↓ 1200] theorem e_IA3c {τ : Tag} {l : List Int} {t : TypeId} {i : Int} {V' : V → Prop} (h0 : 0 ≤ i) (h1 : i < l.length) : aIA (some (none, t, 1)) (.cell (.stk τ 1 (c32 l))) i V' = V' (.cell (.sptr τ i.toNat 1 (c32 l))) := e_IA3k h0 (by rw [c32_len]; exact h1)
theorem c32_get {l : List Int} {n : Nat} (h : n < l.length) : ((c32 l).map D.toC)[n]? = some (.val (.int .i32 (l.getD n 0))) := by
  simp [c32, h, D.toC]
@[go_sem ↓ 1200] theorem c32_ex {l : List Int} {n : Nat} {K : C → Prop} (h : n < l.length) : (∃ c, ((c32 l).map D.toC)[n]? = some c ∧ K c) = K (.val (.int .i32 (l.getD n 0))) := ex_some (c32_get h)
section
variable {s : Sta} {i0 i1 : UInt16} {sk : C} {atP : Int} {en bad : Bool} {K : C → Prop}
theorem mc_gcell {k : Nat} (h : k < 16) : (mcC s i0 i1 sk atP en bad)[k + 1]? = some (.val (.int .i32 (s.cells.getD k 0))) := by
  unfold mcC
  rw [List.getElem?_append_left (by rw [sdC_len]; omega)]
  exact get_cells h
@[go_sem ↓ 1300] theorem mc_mcell {k : Nat} (h : k < 16) : (∃ c, (mcC s i0 i1 sk atP en bad)[1 + k]? = some c ∧ K c) = K (.val (.int .i32 (s.cells.getD k 0))) := by
  rw [Nat.add_comm]; exact ex_some (mc_gcell h)
@[go_sem ↓ 1300] theorem mc_mcell' {k : Nat} (h : k < 16) : (∃ c, (mcC s i0 i1 sk atP en bad)[1 + k * 1]? = some c ∧ K c) = K (.val (.int .i32 (s.cells.getD k 0))) := by
  rw [Nat.mul_one]; exact mc_mcell h
theorem mc_scell0 {k : Nat} {x : Int} (h : k < 16) : spl (mcC s i0 i1 sk atP en bad) (k + 1) [.val (.int .i32 x)] = mcC (s.wCells k x) i0 i1 sk atP en bad := by
  unfold mcC
  rw [spl_appL (by rw [sdC_len]; simp; omega), spl_cells h]
@[go_sem 1300] theorem mc_scell {k : Nat} {x : Int} (h : k < 16) : (mcC s i0 i1 sk atP en bad).set (1 + k) (.val (.int .i32 x)) = mcC (s.wCells k x) i0 i1 sk atP en bad := by
  rw [Nat.add_comm]; exact mc_scell0 h
@[go_sem 1300] theorem mc_scell' {k : Nat} {x : Int} (h : k < 16) : (mcC s i0 i1 sk atP en bad).set (1 + k * 1) (.val (.int .i32 x)) = mcC (s.wCells k x) i0 i1 sk atP en bad := by
  rw [Nat.mul_one]; exact mc_scell h
end
theorem U16_b (v : UInt16) : 0 ≤ U16 v ∧ U16 v ≤ 65535 := ⟨U16_lo v, by have := U16_hi v; omega⟩
def popV (m : Mac) : Int := m.sk.getD (m.sk.length - 1) 0
def popM (m : Mac) : Mac := ⟨m.st, m.i0, m.i1, m.sk.take (m.sk.length - 1), m.pc, m.en, m.bad || decide (m.sk.length = 0)⟩
def pushM (m : Mac) (l : List Int) : Mac := ⟨m.st, m.i0, m.i1, m.sk ++ l, m.pc, m.en, m.bad || decide (32 < m.sk.length + l.length)⟩
def truthV (b : Bool) : Int := if b then 65536 else 0
theorem pop_h (m : Mac) (hl : m.sk.length ≤ 100000) : Holds Try.prog 102 [.ptr (.arg 0) 0] [(.arg 0, mB (.arg 0) m)] (fun r h' => r = .int .i32 (popV m) ∧ h' = [(.arg 0, mB (.arg 0) (popM m))]) := by
  obtain ⟨st, i0, i1, sk, pc, en, bad⟩ := m
  simp only at hl
  refine holds_of_awp Try.func102 rfl (by decide +kernel) mixed Try.ntmps102 Try.results102 ?_
  simp only [entrySt, List.map_cons, List.map_nil, List.length_cons, List.length_nil, Nat.reduceAdd, Nat.reduceSub, List.replicate_succ, List.replicate_zero, List.cons_append, List.nil_append]
  simp (maxSteps := 2000000) (disch := omega) only [go_sem, Nat.reduceAdd, Nat.reduceSub, Nat.reduceMul, Nat.reduceBEq, Nat.reduceEqDiff, Nat.reduceLT, Nat.reduceLeDiff, Nat.reduceDiv, reduceIte, reduceCtorEq, Int.reduceLT, Int.reduceLE, Int.reduceEq, Int.reduceNe, Int.reduceAdd, Int.reduceSub, Int.reduceMul, Int.reduceNeg, Int.reduceDiv, Int.reduceMod, Int.reduceTMod, Int.reduceTDiv, Int.reduceFDiv, Int.reducePow, Int.reduceToNat, U64n, BitVec.reduceOfInt, BitVec.reduceAnd, BitVec.reduceToNat, bits_u64, bits_i64]
  refine c_dec (fun h => ?_) (fun h => ?_)
  · have h0 : sk = [] := List.eq_nil_of_length_eq_zero (by omega)
    subst h0
    simp only [popV, popM, List.length_nil, List.take_nil, List.getD_nil, decide_true, Bool.or_true]
    simp (maxSteps := 2000000) (disch := omega) only [go_sem, Nat.reduceAdd, Nat.reduceSub, Nat.reduceMul, Nat.reduceBEq, Nat.reduceEqDiff, Nat.reduceLT, Nat.reduceLeDiff, Nat.reduceDiv, reduceIte, reduceCtorEq, Int.reduceLT, Int.reduceLE, Int.reduceEq, Int.reduceNe, Int.reduceAdd, Int.reduceSub, Int.reduceMul, Int.reduceNeg, Int.reduceDiv, Int.reduceMod, Int.reduceTMod, Int.reduceTDiv, Int.reduceFDiv, Int.reducePow, Int.reduceToNat, U64n, BitVec.reduceOfInt, BitVec.reduceAnd, BitVec.reduceToNat, bits_u64, bits_i64]
    all_goals exact leCs_refl _
  · have e1 : ((sk.length : Int) - 1).toNat = sk.length - 1 := by omega
    have e2 : popM ⟨st, i0, i1, sk, pc, en, bad⟩ = ⟨st, i0, i1, sk.take (sk.length - 1), pc, en, bad⟩ := by
      unfold popM
      rw [decide_eq_false (show ¬ sk.length = 0 by omega), Bool.or_false]
    rw [e2]
    simp only [popV]
    simp (maxSteps := 2000000) (disch := omega) only [go_sem, Nat.reduceAdd, Nat.reduceSub, Nat.reduceMul, Nat.reduceBEq, Nat.reduceEqDiff, Nat.reduceLT, Nat.reduceLeDiff, Nat.reduceDiv, reduceIte, reduceCtorEq, e1]
    omega
theorem push1_h (m : Mac) (x : Int) (hl : m.sk.length ≤ 100000) : Holds Try.prog 101 [.ptr (.arg 0) 0, .c (.lst .no none 1 [.val (.int .i32 x)])] [(.arg 0, mB (.arg 0) m)] (fun r h' => r = .tup [] ∧ h' = [(.arg 0, mB (.arg 0) (pushM m [x]))]) := by
  obtain ⟨st, i0, i1, sk, pc, en, bad⟩ := m
  simp only at hl
  refine holds_of_awp Try.func101 rfl (by decide +kernel) mixed Try.ntmps101 Try.results101 ?_
  simp only [entrySt, List.map_cons, List.map_nil, List.length_cons, List.length_nil, Nat.reduceAdd, Nat.reduceSub, List.replicate_succ, List.replicate_zero, List.cons_append, List.nil_append]
  simp (maxSteps := 2000000) (disch := omega) only [go_sem, Nat.reduceAdd, Nat.reduceSub, Nat.reduceMul, Nat.reduceBEq, Nat.reduceEqDiff, Nat.reduceLT, Nat.reduceLeDiff, Nat.reduceDiv, reduceIte, reduceCtorEq, Int.reduceLT, Int.reduceLE, Int.reduceEq, Int.reduceNe, Int.reduceAdd, Int.reduceSub, Int.reduceMul, Int.reduceNeg, Int.reduceDiv, Int.reduceMod, Int.reduceTMod, Int.reduceTDiv, Int.reduceFDiv, Int.reducePow, Int.reduceToNat, U64n, BitVec.reduceOfInt, BitVec.reduceAnd, BitVec.reduceToNat, bits_u64, bits_i64]
  refine ⟨by omega, c_dec (fun h => ?_) (fun h => ?_)⟩
  · have d : decide (32 < sk.length + 1) = true := decide_eq_true (by omega)
    have e : pushM ⟨st, i0, i1, sk, pc, en, bad⟩ [x] = ⟨st, i0, i1, sk ++ [x], pc, en, true⟩ := by
      unfold pushM; simp only [List.length_cons, List.length_nil, Nat.zero_add, Nat.reduceAdd, d, Bool.or_true]
    rw [e]
    simp (maxSteps := 2000000) (disch := omega) only [go_sem, Nat.reduceAdd, Nat.reduceSub, Nat.reduceMul, Nat.reduceBEq, Nat.reduceEqDiff, Nat.reduceLT, Nat.reduceLeDiff, Nat.reduceDiv, reduceIte, reduceCtorEq, Int.reduceLT, Int.reduceLE, Int.reduceEq, Int.reduceNe, Int.reduceAdd, Int.reduceSub, Int.reduceMul, Int.reduceNeg, Int.reduceDiv, Int.reduceMod, Int.reduceTMod, Int.reduceTDiv, Int.reduceFDiv, Int.reducePow, Int.reduceToNat, U64n, BitVec.reduceOfInt, BitVec.reduceAnd, BitVec.reduceToNat, bits_u64, bits_i64]
    all_goals exact leCs_refl _
  · have d : decide (32 < sk.length + 1) = false := decide_eq_false (by omega)
    have e : pushM ⟨st, i0, i1, sk, pc, en, bad⟩ [x] = ⟨st, i0, i1, sk ++ [x], pc, en, bad⟩ := by
      unfold pushM; simp only [List.length_cons, List.length_nil, Nat.zero_add, Nat.reduceAdd, d, Bool.or_false]
    rw [e]
    simp (maxSteps := 2000000) (disch := omega) only [go_sem, Nat.reduceAdd, Nat.reduceSub, Nat.reduceMul, Nat.reduceBEq, Nat.reduceEqDiff, Nat.reduceLT, Nat.reduceLeDiff, Nat.reduceDiv, reduceIte, reduceCtorEq, Int.reduceLT, Int.reduceLE, Int.reduceEq, Int.reduceNe, Int.reduceAdd, Int.reduceSub, Int.reduceMul, Int.reduceNeg, Int.reduceDiv, Int.reduceMod, Int.reduceTMod, Int.reduceTDiv, Int.reduceFDiv, Int.reducePow, Int.reduceToNat, U64n, BitVec.reduceOfInt, BitVec.reduceAnd, BitVec.reduceToNat, bits_u64, bits_i64]
    all_goals exact leCs_refl _
theorem push2_h (m : Mac) (x y : Int) (hl : m.sk.length ≤ 100000) : Holds Try.prog 101 [.ptr (.arg 0) 0, .c (.lst .no none 1 [.val (.int .i32 x), .val (.int .i32 y)])] [(.arg 0, mB (.arg 0) m)] (fun r h' => r = .tup [] ∧ h' = [(.arg 0, mB (.arg 0) (pushM m [x, y]))]) := by
  obtain ⟨st, i0, i1, sk, pc, en, bad⟩ := m
  simp only at hl
  refine holds_of_awp Try.func101 rfl (by decide +kernel) mixed Try.ntmps101 Try.results101 ?_
  simp only [entrySt, List.map_cons, List.map_nil, List.length_cons, List.length_nil, Nat.reduceAdd, Nat.reduceSub, List.replicate_succ, List.replicate_zero, List.cons_append, List.nil_append]
  simp (maxSteps := 2000000) (disch := omega) only [go_sem, Nat.reduceAdd, Nat.reduceSub, Nat.reduceMul, Nat.reduceBEq, Nat.reduceEqDiff, Nat.reduceLT, Nat.reduceLeDiff, Nat.reduceDiv, reduceIte, reduceCtorEq, Int.reduceLT, Int.reduceLE, Int.reduceEq, Int.reduceNe, Int.reduceAdd, Int.reduceSub, Int.reduceMul, Int.reduceNeg, Int.reduceDiv, Int.reduceMod, Int.reduceTMod, Int.reduceTDiv, Int.reduceFDiv, Int.reducePow, Int.reduceToNat, U64n, BitVec.reduceOfInt, BitVec.reduceAnd, BitVec.reduceToNat, bits_u64, bits_i64]
  refine ⟨by omega, c_dec (fun h => ?_) (fun h => ?_)⟩
  · have d : decide (32 < sk.length + 2) = true := decide_eq_true (by omega)
    have e : pushM ⟨st, i0, i1, sk, pc, en, bad⟩ [x, y] = ⟨st, i0, i1, sk ++ [x, y], pc, en, true⟩ := by
      unfold pushM; simp only [List.length_cons, List.length_nil, Nat.zero_add, Nat.reduceAdd, d, Bool.or_true]
    rw [e]
    simp (maxSteps := 2000000) (disch := omega) only [go_sem, Nat.reduceAdd, Nat.reduceSub, Nat.reduceMul, Nat.reduceBEq, Nat.reduceEqDiff, Nat.reduceLT, Nat.reduceLeDiff, Nat.reduceDiv, reduceIte, reduceCtorEq, Int.reduceLT, Int.reduceLE, Int.reduceEq, Int.reduceNe, Int.reduceAdd, Int.reduceSub, Int.reduceMul, Int.reduceNeg, Int.reduceDiv, Int.reduceMod, Int.reduceTMod, Int.reduceTDiv, Int.reduceFDiv, Int.reducePow, Int.reduceToNat, U64n, BitVec.reduceOfInt, BitVec.reduceAnd, BitVec.reduceToNat, bits_u64, bits_i64]
    all_goals exact leCs_refl _
  · have d : decide (32 < sk.length + 2) = false := decide_eq_false (by omega)
    have e : pushM ⟨st, i0, i1, sk, pc, en, bad⟩ [x, y] = ⟨st, i0, i1, sk ++ [x, y], pc, en, bad⟩ := by
      unfold pushM; simp only [List.length_cons, List.length_nil, Nat.zero_add, Nat.reduceAdd, d, Bool.or_false]
    rw [e]
    simp (maxSteps := 2000000) (disch := omega) only [go_sem, Nat.reduceAdd, Nat.reduceSub, Nat.reduceMul, Nat.reduceBEq, Nat.reduceEqDiff, Nat.reduceLT, Nat.reduceLeDiff, Nat.reduceDiv, reduceIte, reduceCtorEq, Int.reduceLT, Int.reduceLE, Int.reduceEq, Int.reduceNe, Int.reduceAdd, Int.reduceSub, Int.reduceMul, Int.reduceNeg, Int.reduceDiv, Int.reduceMod, Int.reduceTMod, Int.reduceTDiv, Int.reduceFDiv, Int.reducePow, Int.reduceToNat, U64n, BitVec.reduceOfInt, BitVec.reduceAnd, BitVec.reduceToNat, bits_u64, bits_i64]
    all_goals exact leCs_refl _
theorem truth_h (b : Bool) : Holds Try.prog 105 [.c (.val (.bool b))] [] (fun r h' => r = .int .i32 (truthV b) ∧ h' = []) := by
  refine holds_of_awp Try.func105 rfl (by decide +kernel) mixed Try.ntmps105 Try.results105 ?_
  simp only [entrySt, List.map_cons, List.map_nil, List.length_cons, List.length_nil, Nat.reduceAdd, Nat.reduceSub, List.replicate_succ, List.replicate_zero, List.cons_append, List.nil_append]
  cases b
  · simp (maxSteps := 2000000) (disch := omega) only [go_sem, Nat.reduceAdd, Nat.reduceSub, Nat.reduceMul, Nat.reduceBEq, Nat.reduceEqDiff, Nat.reduceLT, Nat.reduceLeDiff, Nat.reduceDiv, reduceIte, reduceCtorEq, Int.reduceLT, Int.reduceLE, Int.reduceEq, Int.reduceNe, Int.reduceAdd, Int.reduceSub, Int.reduceMul, Int.reduceNeg, Int.reduceDiv, Int.reduceMod, Int.reduceTMod, Int.reduceTDiv, Int.reduceFDiv, Int.reducePow, Int.reduceToNat, U64n, BitVec.reduceOfInt, BitVec.reduceAnd, BitVec.reduceToNat, bits_u64, bits_i64]
    rfl
  · simp (maxSteps := 2000000) (disch := omega) only [go_sem, Nat.reduceAdd, Nat.reduceSub, Nat.reduceMul, Nat.reduceBEq, Nat.reduceEqDiff, Nat.reduceLT, Nat.reduceLeDiff, Nat.reduceDiv, reduceIte, reduceCtorEq, Int.reduceLT, Int.reduceLE, Int.reduceEq, Int.reduceNe, Int.reduceAdd, Int.reduceSub, Int.reduceMul, Int.reduceNeg, Int.reduceDiv, Int.reduceMod, Int.reduceTMod, Int.reduceTDiv, Int.reduceFDiv, Int.reducePow, Int.reduceToNat, U64n, BitVec.reduceOfInt, BitVec.reduceAnd, BitVec.reduceToNat, bits_u64, bits_i64]
    rfl
theorem least_h (b a : Int) : Holds Try.prog 85 [.int .i32 b, .int .i32 a] [] (fun r h' => r = .int .i32 (min b a) ∧ h' = []) := by
  refine holds_of_awp Try.func85 rfl (by decide +kernel) mixed Try.ntmps85 Try.results85 ?_
  simp only [entrySt, List.map_cons, List.map_nil, List.length_cons, List.length_nil, Nat.reduceAdd, Nat.reduceSub, List.replicate_succ, List.replicate_zero, List.cons_append, List.nil_append]
  simp (maxSteps := 2000000) (disch := omega) only [go_sem, Nat.reduceAdd, Nat.reduceSub, Nat.reduceMul, Nat.reduceBEq, Nat.reduceEqDiff, Nat.reduceLT, Nat.reduceLeDiff, Nat.reduceDiv, reduceIte, reduceCtorEq]
  all_goals exact leCs_refl _
theorem greatest_h (b a : Int) : Holds Try.prog 86 [.int .i32 b, .int .i32 a] [] (fun r h' => r = .int .i32 (max b a) ∧ h' = []) := by
  refine holds_of_awp Try.func86 rfl (by decide +kernel) mixed Try.ntmps86 Try.results86 ?_
  simp only [entrySt, List.map_cons, List.map_nil, List.length_cons, List.length_nil, Nat.reduceAdd, Nat.reduceSub, List.replicate_succ, List.replicate_zero, List.cons_append, List.nil_append]
  simp (maxSteps := 2000000) (disch := omega) only [go_sem, Nat.reduceAdd, Nat.reduceSub, Nat.reduceMul, Nat.reduceBEq, Nat.reduceEqDiff, Nat.reduceLT, Nat.reduceLeDiff, Nat.reduceDiv, reduceIte, reduceCtorEq]
  all_goals exact leCs_refl _
theorem less_h (b a : Int) : Holds Try.prog 87 [.int .i32 b, .int .i32 a] [] (fun r h' => r = .int .i32 (truthV (decide (b < a))) ∧ h' = []) := by
  refine holds_of_awp Try.func87 rfl (by decide +kernel) mixed Try.ntmps87 Try.results87 ?_
  simp only [entrySt, List.map_cons, List.map_nil, List.length_cons, List.length_nil, Nat.reduceAdd, Nat.reduceSub, List.replicate_succ, List.replicate_zero, List.cons_append, List.nil_append]
  simp (maxSteps := 2000000) (disch := omega) only [go_sem, Nat.reduceAdd, Nat.reduceSub, Nat.reduceMul, Nat.reduceBEq, Nat.reduceEqDiff, Nat.reduceLT, Nat.reduceLeDiff, Nat.reduceDiv, reduceIte, reduceCtorEq]
  refine a_call [] (truth_h (decide (b < a))) ok0 ?_ ?_ ?_
  · simp (maxSteps := 2000000) (disch := omega) only [go_sem, Nat.reduceAdd, Nat.reduceSub, Nat.reduceMul, Nat.reduceBEq, Nat.reduceEqDiff, Nat.reduceLT, Nat.reduceLeDiff, Nat.reduceDiv, reduceIte, reduceCtorEq]
  · simp (maxSteps := 2000000) (disch := omega) only [go_sem, Nat.reduceAdd, Nat.reduceSub, Nat.reduceMul, Nat.reduceBEq, Nat.reduceEqDiff, Nat.reduceLT, Nat.reduceLeDiff, Nat.reduceDiv, reduceIte, reduceCtorEq]
  rintro _ _ ⟨rfl, rfl⟩
  simp (maxSteps := 2000000) (disch := omega) only [go_sem, Nat.reduceAdd, Nat.reduceSub, Nat.reduceMul, Nat.reduceBEq, Nat.reduceEqDiff, Nat.reduceLT, Nat.reduceLeDiff, Nat.reduceDiv, reduceIte, reduceCtorEq]
  all_goals exact leCs_refl _
theorem same10_h (b a : Int) : Holds Try.prog 88 [.int .i32 b, .int .i32 a] [] (fun r h' => r = .int .i32 (truthV (decide (b = a))) ∧ h' = []) := by
  refine holds_of_awp Try.func88 rfl (by decide +kernel) mixed Try.ntmps88 Try.results88 ?_
  simp only [entrySt, List.map_cons, List.map_nil, List.length_cons, List.length_nil, Nat.reduceAdd, Nat.reduceSub, List.replicate_succ, List.replicate_zero, List.cons_append, List.nil_append]
  simp (maxSteps := 2000000) (disch := omega) only [go_sem, Nat.reduceAdd, Nat.reduceSub, Nat.reduceMul, Nat.reduceBEq, Nat.reduceEqDiff, Nat.reduceLT, Nat.reduceLeDiff, Nat.reduceDiv, reduceIte, reduceCtorEq]
  refine a_call [] (truth_h (decide (b = a))) ok0 ?_ ?_ ?_
  · simp (maxSteps := 2000000) (disch := omega) only [go_sem, Nat.reduceAdd, Nat.reduceSub, Nat.reduceMul, Nat.reduceBEq, Nat.reduceEqDiff, Nat.reduceLT, Nat.reduceLeDiff, Nat.reduceDiv, reduceIte, reduceCtorEq]
  · simp (maxSteps := 2000000) (disch := omega) only [go_sem, Nat.reduceAdd, Nat.reduceSub, Nat.reduceMul, Nat.reduceBEq, Nat.reduceEqDiff, Nat.reduceLT, Nat.reduceLeDiff, Nat.reduceDiv, reduceIte, reduceCtorEq]
  rintro _ _ ⟨rfl, rfl⟩
  simp (maxSteps := 2000000) (disch := omega) only [go_sem, Nat.reduceAdd, Nat.reduceSub, Nat.reduceMul, Nat.reduceBEq, Nat.reduceEqDiff, Nat.reduceLT, Nat.reduceLeDiff, Nat.reduceDiv, reduceIte, reduceCtorEq]
  all_goals exact leCs_refl _
/-! ### the doers -/
def number10 (m : Mac) (arg : Int) : Mac := pushM m [arg]
def load10 (m : Mac) (arg : Int) : Mac := pushM m [m.st.cells.getD arg.toNat 0]
def store10 (m : Mac) (arg : Int) : Mac := ⟨m.st.wCells arg.toNat (popV m), m.i0, m.i1, (popM m).sk, m.pc, m.en, (popM m).bad⟩
def not10 (m : Mac) : Mac := pushM (popM m) [truthV (decide (popV m = 0))]
def dup10 (m : Mac) : Mac := pushM (popM m) [popV m, popV m]
def swap10 (m : Mac) : Mac := pushM (popM (popM m)) [popV m, popV (popM m)]
def input10 (m : Mac) (arg : Int) : Mac := pushM m [if arg = 0 then (U16 m.i0 : Int) else U16 m.i1]
def frame10 (m : Mac) : Mac := pushM m [m.st.frame]
def jump10 (m : Mac) (arg : Int) : Mac := ⟨m.st, m.i0, m.i1, m.sk, arg, m.en, m.bad⟩
def zero10 (m : Mac) (arg : Int) : Mac := if popV m = 0 then jump10 (popM m) arg else popM m
def win10 (m : Mac) (arg : Int) : Mac := ⟨(m.st.wOver true).wWin arg, m.i0, m.i1, m.sk, m.pc, true, m.bad⟩
def halt10 (m : Mac) : Mac := ⟨m.st, m.i0, m.i1, m.sk, m.pc, true, m.bad⟩
def mixS (a : UInt32) : UInt32 := xor32 (xor32 (xor32 a (shl32 a 13)) (shr32 (xor32 a (shl32 a 13)) 17)) (shl32 (xor32 (xor32 a (shl32 a 13)) (shr32 (xor32 a (shl32 a 13)) 17)) 5)
def rndV (a : UInt32) : Int := (U32 a) % 65536
def rand10 (m : Mac) : Mac := pushM ⟨m.st.wSeed (mixS m.st.seed), m.i0, m.i1, m.sk, m.pc, m.en, m.bad⟩ [rndV (mixS m.st.seed)]
def two10 (f : Int → Int → Int) (m : Mac) : Mac := pushM (popM (popM m)) [f (popV (popM m)) (popV m)]
theorem rndV_b (a : UInt32) : 0 ≤ rndV a ∧ rndV a ≤ 65535 := by unfold rndV; omega
@[go_sem ↓ 1150] theorem e_rem16 {a : UInt32} {V' : V → Prop} : aInt .rem .u32 (U32 a) .u32 65536 V' = V' (.int .u32 (rndV a)) := by
  rw [e_rem (by omega)]
  unfold rndV
  rw [Int.tmod_eq_emod_of_nonneg (by unfold U32; omega)]
section
variable (m : Mac) (hl : m.sk.length ≤ 1000)
include hl
theorem number_h10 (arg : Int) (ha : B32 arg) : Holds Try.prog 77 [.ptr (.arg 0) 0, .int .i64 arg] [(.arg 0, mB (.arg 0) m)] (fun r h' => r = .tup [] ∧ h' = [(.arg 0, mB (.arg 0) (number10 m arg))]) := by
  obtain ⟨ha, hb⟩ := ha
  refine holds_of_awp Try.func77 rfl (by decide +kernel) mixed Try.ntmps77 Try.results77 ?_
  simp only [entrySt, List.map_cons, List.map_nil, List.length_cons, List.length_nil, Nat.reduceAdd, Nat.reduceSub, List.replicate_succ, List.replicate_zero, List.cons_append, List.nil_append]
  simp (maxSteps := 2000000) (disch := omega) only [go_sem, Nat.reduceAdd, Nat.reduceSub, Nat.reduceMul, Nat.reduceBEq, Nat.reduceEqDiff, Nat.reduceLT, Nat.reduceLeDiff, Nat.reduceDiv, reduceIte, reduceCtorEq, Int.reduceLT, Int.reduceLE, Int.reduceEq, Int.reduceNe, Int.reduceAdd, Int.reduceSub, Int.reduceMul, Int.reduceNeg, Int.reduceDiv, Int.reduceMod, Int.reduceTMod, Int.reduceTDiv, Int.reduceFDiv, Int.reducePow, Int.reduceToNat, U64n, BitVec.reduceOfInt, BitVec.reduceAnd, BitVec.reduceToNat, bits_u64, bits_i64]
  refine a_call [.arg 0] (push1_h m arg (by omega)) (ok1 rfl) ?_ ?_ ?_
  · simp (maxSteps := 2000000) (disch := omega) only [go_sem, Nat.reduceAdd, Nat.reduceSub, Nat.reduceMul, Nat.reduceBEq, Nat.reduceEqDiff, Nat.reduceLT, Nat.reduceLeDiff, Nat.reduceDiv, reduceIte, reduceCtorEq]
  · simp (maxSteps := 2000000) (disch := omega) only [go_sem, Nat.reduceAdd, Nat.reduceSub, Nat.reduceMul, Nat.reduceBEq, Nat.reduceEqDiff, Nat.reduceLT, Nat.reduceLeDiff, Nat.reduceDiv, reduceIte, reduceCtorEq]
  rintro _ _ ⟨rfl, rfl⟩
  simp (maxSteps := 2000000) (disch := omega) only [go_sem, Nat.reduceAdd, Nat.reduceSub, Nat.reduceMul, Nat.reduceBEq, Nat.reduceEqDiff, Nat.reduceLT, Nat.reduceLeDiff, Nat.reduceDiv, reduceIte, reduceCtorEq]
  all_goals exact leCs_refl _
theorem load_h10 (arg : Int) (h0 : 0 ≤ arg) (h1 : arg ≤ 15) : Holds Try.prog 78 [.ptr (.arg 0) 0, .int .i64 arg] [(.arg 0, mB (.arg 0) m)] (fun r h' => r = .tup [] ∧ h' = [(.arg 0, mB (.arg 0) (load10 m arg))]) := by
  refine holds_of_awp Try.func78 rfl (by decide +kernel) mixed Try.ntmps78 Try.results78 ?_
  simp only [entrySt, List.map_cons, List.map_nil, List.length_cons, List.length_nil, Nat.reduceAdd, Nat.reduceSub, List.replicate_succ, List.replicate_zero, List.cons_append, List.nil_append]
  simp (maxSteps := 2000000) (disch := omega) only [go_sem, Nat.reduceAdd, Nat.reduceSub, Nat.reduceMul, Nat.reduceBEq, Nat.reduceEqDiff, Nat.reduceLT, Nat.reduceLeDiff, Nat.reduceDiv, reduceIte, reduceCtorEq, Int.reduceLT, Int.reduceLE, Int.reduceEq, Int.reduceNe, Int.reduceAdd, Int.reduceSub, Int.reduceMul, Int.reduceNeg, Int.reduceDiv, Int.reduceMod, Int.reduceTMod, Int.reduceTDiv, Int.reduceFDiv, Int.reducePow, Int.reduceToNat, U64n, BitVec.reduceOfInt, BitVec.reduceAnd, BitVec.reduceToNat, bits_u64, bits_i64]
  refine a_call [.arg 0] (push1_h m (m.st.cells.getD arg.toNat 0) (by omega)) (ok1 rfl) ?_ ?_ ?_
  · simp (maxSteps := 2000000) (disch := omega) only [go_sem, Nat.reduceAdd, Nat.reduceSub, Nat.reduceMul, Nat.reduceBEq, Nat.reduceEqDiff, Nat.reduceLT, Nat.reduceLeDiff, Nat.reduceDiv, reduceIte, reduceCtorEq]
  · simp (maxSteps := 2000000) (disch := omega) only [go_sem, Nat.reduceAdd, Nat.reduceSub, Nat.reduceMul, Nat.reduceBEq, Nat.reduceEqDiff, Nat.reduceLT, Nat.reduceLeDiff, Nat.reduceDiv, reduceIte, reduceCtorEq]
  rintro _ _ ⟨rfl, rfl⟩
  simp (maxSteps := 2000000) (disch := omega) only [go_sem, Nat.reduceAdd, Nat.reduceSub, Nat.reduceMul, Nat.reduceBEq, Nat.reduceEqDiff, Nat.reduceLT, Nat.reduceLeDiff, Nat.reduceDiv, reduceIte, reduceCtorEq]
  all_goals exact leCs_refl _
theorem store_h10 (arg : Int) (h0 : 0 ≤ arg) (h1 : arg ≤ 15) : Holds Try.prog 79 [.ptr (.arg 0) 0, .int .i64 arg] [(.arg 0, mB (.arg 0) m)] (fun r h' => r = .tup [] ∧ h' = [(.arg 0, mB (.arg 0) (store10 m arg))]) := by
  refine holds_of_awp Try.func79 rfl (by decide +kernel) mixed Try.ntmps79 Try.results79 ?_
  simp only [entrySt, List.map_cons, List.map_nil, List.length_cons, List.length_nil, Nat.reduceAdd, Nat.reduceSub, List.replicate_succ, List.replicate_zero, List.cons_append, List.nil_append]
  refine a_draw (.take 0 (.take 1 (.take 2 (.take 4 (.take 5 (.take 6 (.both [(3, .take 7 (.both [(8, .done)]))]))))))) (by kernel_rfl) (by kernel_rfl) ?_
  simp (maxSteps := 2000000) (disch := omega) only [go_sem, Nat.reduceAdd, Nat.reduceSub, Nat.reduceMul, Nat.reduceBEq, Nat.reduceEqDiff, Nat.reduceLT, Nat.reduceLeDiff, Nat.reduceDiv, reduceIte, reduceCtorEq, Int.reduceLT, Int.reduceLE, Int.reduceEq, Int.reduceNe, Int.reduceAdd, Int.reduceSub, Int.reduceMul, Int.reduceNeg, Int.reduceDiv, Int.reduceMod, Int.reduceTMod, Int.reduceTDiv, Int.reduceFDiv, Int.reducePow, Int.reduceToNat, U64n, BitVec.reduceOfInt, BitVec.reduceAnd, BitVec.reduceToNat, bits_u64, bits_i64]
  refine a_call [.arg 0] (pop_h m (by omega)) (ok1 rfl) ?_ ?_ ?_
  · simp (maxSteps := 2000000) (disch := omega) only [go_sem, Nat.reduceAdd, Nat.reduceSub, Nat.reduceMul, Nat.reduceBEq, Nat.reduceEqDiff, Nat.reduceLT, Nat.reduceLeDiff, Nat.reduceDiv, reduceIte, reduceCtorEq]
  · simp (maxSteps := 2000000) (disch := omega) only [go_sem, Nat.reduceAdd, Nat.reduceSub, Nat.reduceMul, Nat.reduceBEq, Nat.reduceEqDiff, Nat.reduceLT, Nat.reduceLeDiff, Nat.reduceDiv, reduceIte, reduceCtorEq]
  rintro _ _ ⟨rfl, rfl⟩
  simp (maxSteps := 2000000) (disch := omega) only [go_sem, Nat.reduceAdd, Nat.reduceSub, Nat.reduceMul, Nat.reduceBEq, Nat.reduceEqDiff, Nat.reduceLT, Nat.reduceLeDiff, Nat.reduceDiv, reduceIte, reduceCtorEq, Int.reduceLT, Int.reduceLE, Int.reduceEq, Int.reduceNe, Int.reduceAdd, Int.reduceSub, Int.reduceMul, Int.reduceNeg, Int.reduceDiv, Int.reduceMod, Int.reduceTMod, Int.reduceTDiv, Int.reduceFDiv, Int.reducePow, Int.reduceToNat, U64n, BitVec.reduceOfInt, BitVec.reduceAnd, BitVec.reduceToNat, bits_u64, bits_i64]
  all_goals exact ⟨by omega, leCs_refl _⟩
theorem not_h10 (arg : Int) : Holds Try.prog 89 [.ptr (.arg 0) 0, .int .i64 arg] [(.arg 0, mB (.arg 0) m)] (fun r h' => r = .tup [] ∧ h' = [(.arg 0, mB (.arg 0) (not10 m))]) := by
  refine holds_of_awp Try.func89 rfl (by decide +kernel) mixed Try.ntmps89 Try.results89 ?_
  simp only [entrySt, List.map_cons, List.map_nil, List.length_cons, List.length_nil, Nat.reduceAdd, Nat.reduceSub, List.replicate_succ, List.replicate_zero, List.cons_append, List.nil_append]
  simp (maxSteps := 2000000) (disch := omega) only [go_sem, Nat.reduceAdd, Nat.reduceSub, Nat.reduceMul, Nat.reduceBEq, Nat.reduceEqDiff, Nat.reduceLT, Nat.reduceLeDiff, Nat.reduceDiv, reduceIte, reduceCtorEq, Int.reduceLT, Int.reduceLE, Int.reduceEq, Int.reduceNe, Int.reduceAdd, Int.reduceSub, Int.reduceMul, Int.reduceNeg, Int.reduceDiv, Int.reduceMod, Int.reduceTMod, Int.reduceTDiv, Int.reduceFDiv, Int.reducePow, Int.reduceToNat, U64n, BitVec.reduceOfInt, BitVec.reduceAnd, BitVec.reduceToNat, bits_u64, bits_i64]
  refine a_call [.arg 0] (pop_h m (by omega)) (ok1 rfl) ?_ ?_ ?_
  · simp (maxSteps := 2000000) (disch := omega) only [go_sem, Nat.reduceAdd, Nat.reduceSub, Nat.reduceMul, Nat.reduceBEq, Nat.reduceEqDiff, Nat.reduceLT, Nat.reduceLeDiff, Nat.reduceDiv, reduceIte, reduceCtorEq]
  · simp (maxSteps := 2000000) (disch := omega) only [go_sem, Nat.reduceAdd, Nat.reduceSub, Nat.reduceMul, Nat.reduceBEq, Nat.reduceEqDiff, Nat.reduceLT, Nat.reduceLeDiff, Nat.reduceDiv, reduceIte, reduceCtorEq]
  rintro _ _ ⟨rfl, rfl⟩
  simp (maxSteps := 2000000) (disch := omega) only [go_sem, Nat.reduceAdd, Nat.reduceSub, Nat.reduceMul, Nat.reduceBEq, Nat.reduceEqDiff, Nat.reduceLT, Nat.reduceLeDiff, Nat.reduceDiv, reduceIte, reduceCtorEq, Int.reduceLT, Int.reduceLE, Int.reduceEq, Int.reduceNe, Int.reduceAdd, Int.reduceSub, Int.reduceMul, Int.reduceNeg, Int.reduceDiv, Int.reduceMod, Int.reduceTMod, Int.reduceTDiv, Int.reduceFDiv, Int.reducePow, Int.reduceToNat, U64n, BitVec.reduceOfInt, BitVec.reduceAnd, BitVec.reduceToNat, bits_u64, bits_i64]
  refine a_call [] (truth_h (decide (popV m = 0))) ok0 ?_ ?_ ?_
  · simp (maxSteps := 2000000) (disch := omega) only [go_sem, Nat.reduceAdd, Nat.reduceSub, Nat.reduceMul, Nat.reduceBEq, Nat.reduceEqDiff, Nat.reduceLT, Nat.reduceLeDiff, Nat.reduceDiv, reduceIte, reduceCtorEq]
  · simp (maxSteps := 2000000) (disch := omega) only [go_sem, Nat.reduceAdd, Nat.reduceSub, Nat.reduceMul, Nat.reduceBEq, Nat.reduceEqDiff, Nat.reduceLT, Nat.reduceLeDiff, Nat.reduceDiv, reduceIte, reduceCtorEq]
  rintro _ _ ⟨rfl, rfl⟩
  simp (maxSteps := 2000000) (disch := omega) only [go_sem, Nat.reduceAdd, Nat.reduceSub, Nat.reduceMul, Nat.reduceBEq, Nat.reduceEqDiff, Nat.reduceLT, Nat.reduceLeDiff, Nat.reduceDiv, reduceIte, reduceCtorEq, Int.reduceLT, Int.reduceLE, Int.reduceEq, Int.reduceNe, Int.reduceAdd, Int.reduceSub, Int.reduceMul, Int.reduceNeg, Int.reduceDiv, Int.reduceMod, Int.reduceTMod, Int.reduceTDiv, Int.reduceFDiv, Int.reducePow, Int.reduceToNat, U64n, BitVec.reduceOfInt, BitVec.reduceAnd, BitVec.reduceToNat, bits_u64, bits_i64]
  refine a_call [.arg 0] (push1_h (popM m) (truthV (decide (popV m = 0))) (by simp [popM]; omega)) (ok1 rfl) ?_ ?_ ?_
  · simp (maxSteps := 2000000) (disch := omega) only [go_sem, Nat.reduceAdd, Nat.reduceSub, Nat.reduceMul, Nat.reduceBEq, Nat.reduceEqDiff, Nat.reduceLT, Nat.reduceLeDiff, Nat.reduceDiv, reduceIte, reduceCtorEq]
  · simp (maxSteps := 2000000) (disch := omega) only [go_sem, Nat.reduceAdd, Nat.reduceSub, Nat.reduceMul, Nat.reduceBEq, Nat.reduceEqDiff, Nat.reduceLT, Nat.reduceLeDiff, Nat.reduceDiv, reduceIte, reduceCtorEq]
  rintro _ _ ⟨rfl, rfl⟩
  simp (maxSteps := 2000000) (disch := omega) only [go_sem, Nat.reduceAdd, Nat.reduceSub, Nat.reduceMul, Nat.reduceBEq, Nat.reduceEqDiff, Nat.reduceLT, Nat.reduceLeDiff, Nat.reduceDiv, reduceIte, reduceCtorEq]
  all_goals exact leCs_refl _
theorem dup_h10 (arg : Int) : Holds Try.prog 90 [.ptr (.arg 0) 0, .int .i64 arg] [(.arg 0, mB (.arg 0) m)] (fun r h' => r = .tup [] ∧ h' = [(.arg 0, mB (.arg 0) (dup10 m))]) := by
  refine holds_of_awp Try.func90 rfl (by decide +kernel) mixed Try.ntmps90 Try.results90 ?_
  simp only [entrySt, List.map_cons, List.map_nil, List.length_cons, List.length_nil, Nat.reduceAdd, Nat.reduceSub, List.replicate_succ, List.replicate_zero, List.cons_append, List.nil_append]
  simp (maxSteps := 2000000) (disch := omega) only [go_sem, Nat.reduceAdd, Nat.reduceSub, Nat.reduceMul, Nat.reduceBEq, Nat.reduceEqDiff, Nat.reduceLT, Nat.reduceLeDiff, Nat.reduceDiv, reduceIte, reduceCtorEq, Int.reduceLT, Int.reduceLE, Int.reduceEq, Int.reduceNe, Int.reduceAdd, Int.reduceSub, Int.reduceMul, Int.reduceNeg, Int.reduceDiv, Int.reduceMod, Int.reduceTMod, Int.reduceTDiv, Int.reduceFDiv, Int.reducePow, Int.reduceToNat, U64n, BitVec.reduceOfInt, BitVec.reduceAnd, BitVec.reduceToNat, bits_u64, bits_i64]
  refine a_call [.arg 0] (pop_h m (by omega)) (ok1 rfl) ?_ ?_ ?_
  · simp (maxSteps := 2000000) (disch := omega) only [go_sem, Nat.reduceAdd, Nat.reduceSub, Nat.reduceMul, Nat.reduceBEq, Nat.reduceEqDiff, Nat.reduceLT, Nat.reduceLeDiff, Nat.reduceDiv, reduceIte, reduceCtorEq]
  · simp (maxSteps := 2000000) (disch := omega) only [go_sem, Nat.reduceAdd, Nat.reduceSub, Nat.reduceMul, Nat.reduceBEq, Nat.reduceEqDiff, Nat.reduceLT, Nat.reduceLeDiff, Nat.reduceDiv, reduceIte, reduceCtorEq]
  rintro _ _ ⟨rfl, rfl⟩
  simp (maxSteps := 2000000) (disch := omega) only [go_sem, Nat.reduceAdd, Nat.reduceSub, Nat.reduceMul, Nat.reduceBEq, Nat.reduceEqDiff, Nat.reduceLT, Nat.reduceLeDiff, Nat.reduceDiv, reduceIte, reduceCtorEq, Int.reduceLT, Int.reduceLE, Int.reduceEq, Int.reduceNe, Int.reduceAdd, Int.reduceSub, Int.reduceMul, Int.reduceNeg, Int.reduceDiv, Int.reduceMod, Int.reduceTMod, Int.reduceTDiv, Int.reduceFDiv, Int.reducePow, Int.reduceToNat, U64n, BitVec.reduceOfInt, BitVec.reduceAnd, BitVec.reduceToNat, bits_u64, bits_i64]
  refine a_call [.arg 0] (push2_h (popM m) (popV m) (popV m) (by simp [popM]; omega)) (ok1 rfl) ?_ ?_ ?_
  · simp (maxSteps := 2000000) (disch := omega) only [go_sem, Nat.reduceAdd, Nat.reduceSub, Nat.reduceMul, Nat.reduceBEq, Nat.reduceEqDiff, Nat.reduceLT, Nat.reduceLeDiff, Nat.reduceDiv, reduceIte, reduceCtorEq]
  · simp (maxSteps := 2000000) (disch := omega) only [go_sem, Nat.reduceAdd, Nat.reduceSub, Nat.reduceMul, Nat.reduceBEq, Nat.reduceEqDiff, Nat.reduceLT, Nat.reduceLeDiff, Nat.reduceDiv, reduceIte, reduceCtorEq]
  rintro _ _ ⟨rfl, rfl⟩
  simp (maxSteps := 2000000) (disch := omega) only [go_sem, Nat.reduceAdd, Nat.reduceSub, Nat.reduceMul, Nat.reduceBEq, Nat.reduceEqDiff, Nat.reduceLT, Nat.reduceLeDiff, Nat.reduceDiv, reduceIte, reduceCtorEq]
  all_goals exact leCs_refl _
theorem swap_h10 (arg : Int) : Holds Try.prog 91 [.ptr (.arg 0) 0, .int .i64 arg] [(.arg 0, mB (.arg 0) m)] (fun r h' => r = .tup [] ∧ h' = [(.arg 0, mB (.arg 0) (swap10 m))]) := by
  refine holds_of_awp Try.func91 rfl (by decide +kernel) mixed Try.ntmps91 Try.results91 ?_
  simp only [entrySt, List.map_cons, List.map_nil, List.length_cons, List.length_nil, Nat.reduceAdd, Nat.reduceSub, List.replicate_succ, List.replicate_zero, List.cons_append, List.nil_append]
  simp (maxSteps := 2000000) (disch := omega) only [go_sem, Nat.reduceAdd, Nat.reduceSub, Nat.reduceMul, Nat.reduceBEq, Nat.reduceEqDiff, Nat.reduceLT, Nat.reduceLeDiff, Nat.reduceDiv, reduceIte, reduceCtorEq, Int.reduceLT, Int.reduceLE, Int.reduceEq, Int.reduceNe, Int.reduceAdd, Int.reduceSub, Int.reduceMul, Int.reduceNeg, Int.reduceDiv, Int.reduceMod, Int.reduceTMod, Int.reduceTDiv, Int.reduceFDiv, Int.reducePow, Int.reduceToNat, U64n, BitVec.reduceOfInt, BitVec.reduceAnd, BitVec.reduceToNat, bits_u64, bits_i64]
  refine a_call [.arg 0] (pop_h m (by omega)) (ok1 rfl) ?_ ?_ ?_
  · simp (maxSteps := 2000000) (disch := omega) only [go_sem, Nat.reduceAdd, Nat.reduceSub, Nat.reduceMul, Nat.reduceBEq, Nat.reduceEqDiff, Nat.reduceLT, Nat.reduceLeDiff, Nat.reduceDiv, reduceIte, reduceCtorEq]
  · simp (maxSteps := 2000000) (disch := omega) only [go_sem, Nat.reduceAdd, Nat.reduceSub, Nat.reduceMul, Nat.reduceBEq, Nat.reduceEqDiff, Nat.reduceLT, Nat.reduceLeDiff, Nat.reduceDiv, reduceIte, reduceCtorEq]
  rintro _ _ ⟨rfl, rfl⟩
  simp (maxSteps := 2000000) (disch := omega) only [go_sem, Nat.reduceAdd, Nat.reduceSub, Nat.reduceMul, Nat.reduceBEq, Nat.reduceEqDiff, Nat.reduceLT, Nat.reduceLeDiff, Nat.reduceDiv, reduceIte, reduceCtorEq, Int.reduceLT, Int.reduceLE, Int.reduceEq, Int.reduceNe, Int.reduceAdd, Int.reduceSub, Int.reduceMul, Int.reduceNeg, Int.reduceDiv, Int.reduceMod, Int.reduceTMod, Int.reduceTDiv, Int.reduceFDiv, Int.reducePow, Int.reduceToNat, U64n, BitVec.reduceOfInt, BitVec.reduceAnd, BitVec.reduceToNat, bits_u64, bits_i64]
  refine a_call [.arg 0] (pop_h (popM m) (by simp [popM]; omega)) (ok1 rfl) ?_ ?_ ?_
  · simp (maxSteps := 2000000) (disch := omega) only [go_sem, Nat.reduceAdd, Nat.reduceSub, Nat.reduceMul, Nat.reduceBEq, Nat.reduceEqDiff, Nat.reduceLT, Nat.reduceLeDiff, Nat.reduceDiv, reduceIte, reduceCtorEq]
  · simp (maxSteps := 2000000) (disch := omega) only [go_sem, Nat.reduceAdd, Nat.reduceSub, Nat.reduceMul, Nat.reduceBEq, Nat.reduceEqDiff, Nat.reduceLT, Nat.reduceLeDiff, Nat.reduceDiv, reduceIte, reduceCtorEq]
  rintro _ _ ⟨rfl, rfl⟩
  simp (maxSteps := 2000000) (disch := omega) only [go_sem, Nat.reduceAdd, Nat.reduceSub, Nat.reduceMul, Nat.reduceBEq, Nat.reduceEqDiff, Nat.reduceLT, Nat.reduceLeDiff, Nat.reduceDiv, reduceIte, reduceCtorEq, Int.reduceLT, Int.reduceLE, Int.reduceEq, Int.reduceNe, Int.reduceAdd, Int.reduceSub, Int.reduceMul, Int.reduceNeg, Int.reduceDiv, Int.reduceMod, Int.reduceTMod, Int.reduceTDiv, Int.reduceFDiv, Int.reducePow, Int.reduceToNat, U64n, BitVec.reduceOfInt, BitVec.reduceAnd, BitVec.reduceToNat, bits_u64, bits_i64]
  refine a_call [.arg 0] (push2_h (popM (popM m)) (popV m) (popV (popM m)) (by simp [popM]; omega)) (ok1 rfl) ?_ ?_ ?_
  · simp (maxSteps := 2000000) (disch := omega) only [go_sem, Nat.reduceAdd, Nat.reduceSub, Nat.reduceMul, Nat.reduceBEq, Nat.reduceEqDiff, Nat.reduceLT, Nat.reduceLeDiff, Nat.reduceDiv, reduceIte, reduceCtorEq]
  · simp (maxSteps := 2000000) (disch := omega) only [go_sem, Nat.reduceAdd, Nat.reduceSub, Nat.reduceMul, Nat.reduceBEq, Nat.reduceEqDiff, Nat.reduceLT, Nat.reduceLeDiff, Nat.reduceDiv, reduceIte, reduceCtorEq]
  rintro _ _ ⟨rfl, rfl⟩
  simp (maxSteps := 2000000) (disch := omega) only [go_sem, Nat.reduceAdd, Nat.reduceSub, Nat.reduceMul, Nat.reduceBEq, Nat.reduceEqDiff, Nat.reduceLT, Nat.reduceLeDiff, Nat.reduceDiv, reduceIte, reduceCtorEq]
  all_goals exact leCs_refl _
theorem drop_h10 (arg : Int) : Holds Try.prog 92 [.ptr (.arg 0) 0, .int .i64 arg] [(.arg 0, mB (.arg 0) m)] (fun r h' => r = .tup [] ∧ h' = [(.arg 0, mB (.arg 0) (popM m))]) := by
  refine holds_of_awp Try.func92 rfl (by decide +kernel) mixed Try.ntmps92 Try.results92 ?_
  simp only [entrySt, List.map_cons, List.map_nil, List.length_cons, List.length_nil, Nat.reduceAdd, Nat.reduceSub, List.replicate_succ, List.replicate_zero, List.cons_append, List.nil_append]
  simp (maxSteps := 2000000) (disch := omega) only [go_sem, Nat.reduceAdd, Nat.reduceSub, Nat.reduceMul, Nat.reduceBEq, Nat.reduceEqDiff, Nat.reduceLT, Nat.reduceLeDiff, Nat.reduceDiv, reduceIte, reduceCtorEq, Int.reduceLT, Int.reduceLE, Int.reduceEq, Int.reduceNe, Int.reduceAdd, Int.reduceSub, Int.reduceMul, Int.reduceNeg, Int.reduceDiv, Int.reduceMod, Int.reduceTMod, Int.reduceTDiv, Int.reduceFDiv, Int.reducePow, Int.reduceToNat, U64n, BitVec.reduceOfInt, BitVec.reduceAnd, BitVec.reduceToNat, bits_u64, bits_i64]
  refine a_call [.arg 0] (pop_h m (by omega)) (ok1 rfl) ?_ ?_ ?_
  · simp (maxSteps := 2000000) (disch := omega) only [go_sem, Nat.reduceAdd, Nat.reduceSub, Nat.reduceMul, Nat.reduceBEq, Nat.reduceEqDiff, Nat.reduceLT, Nat.reduceLeDiff, Nat.reduceDiv, reduceIte, reduceCtorEq]
  · simp (maxSteps := 2000000) (disch := omega) only [go_sem, Nat.reduceAdd, Nat.reduceSub, Nat.reduceMul, Nat.reduceBEq, Nat.reduceEqDiff, Nat.reduceLT, Nat.reduceLeDiff, Nat.reduceDiv, reduceIte, reduceCtorEq]
  rintro _ _ ⟨rfl, rfl⟩
  simp (maxSteps := 2000000) (disch := omega) only [go_sem, Nat.reduceAdd, Nat.reduceSub, Nat.reduceMul, Nat.reduceBEq, Nat.reduceEqDiff, Nat.reduceLT, Nat.reduceLeDiff, Nat.reduceDiv, reduceIte, reduceCtorEq]
  all_goals exact leCs_refl _
theorem input_h10 (arg : Int) (h0 : arg = 0 ∨ arg = 1) : Holds Try.prog 93 [.ptr (.arg 0) 0, .int .i64 arg] [(.arg 0, mB (.arg 0) m)] (fun r h' => r = .tup [] ∧ h' = [(.arg 0, mB (.arg 0) (input10 m arg))]) := by
  have u0 := U16_b m.i0
  have u1 := U16_b m.i1
  refine holds_of_awp Try.func93 rfl (by decide +kernel) mixed Try.ntmps93 Try.results93 ?_
  simp only [entrySt, List.map_cons, List.map_nil, List.length_cons, List.length_nil, Nat.reduceAdd, Nat.reduceSub, List.replicate_succ, List.replicate_zero, List.cons_append, List.nil_append]
  rcases h0 with rfl | rfl
  · simp (maxSteps := 2000000) (disch := omega) only [go_sem, Nat.reduceAdd, Nat.reduceSub, Nat.reduceMul, Nat.reduceBEq, Nat.reduceEqDiff, Nat.reduceLT, Nat.reduceLeDiff, Nat.reduceDiv, reduceIte, reduceCtorEq, Int.reduceLT, Int.reduceLE, Int.reduceEq, Int.reduceNe, Int.reduceAdd, Int.reduceSub, Int.reduceMul, Int.reduceNeg, Int.reduceDiv, Int.reduceMod, Int.reduceTMod, Int.reduceTDiv, Int.reduceFDiv, Int.reducePow, Int.reduceToNat, U64n, BitVec.reduceOfInt, BitVec.reduceAnd, BitVec.reduceToNat, bits_u64, bits_i64]
    refine a_call [.arg 0] (push1_h m (U16 m.i0) (by omega)) (ok1 rfl) ?_ ?_ ?_
    · simp (maxSteps := 2000000) (disch := omega) only [go_sem, Nat.reduceAdd, Nat.reduceSub, Nat.reduceMul, Nat.reduceBEq, Nat.reduceEqDiff, Nat.reduceLT, Nat.reduceLeDiff, Nat.reduceDiv, reduceIte, reduceCtorEq]
    · simp (maxSteps := 2000000) (disch := omega) only [go_sem, Nat.reduceAdd, Nat.reduceSub, Nat.reduceMul, Nat.reduceBEq, Nat.reduceEqDiff, Nat.reduceLT, Nat.reduceLeDiff, Nat.reduceDiv, reduceIte, reduceCtorEq]
    rintro _ _ ⟨rfl, rfl⟩
    simp (maxSteps := 2000000) (disch := omega) only [go_sem, Nat.reduceAdd, Nat.reduceSub, Nat.reduceMul, Nat.reduceBEq, Nat.reduceEqDiff, Nat.reduceLT, Nat.reduceLeDiff, Nat.reduceDiv, reduceIte, reduceCtorEq]
    all_goals exact leCs_refl _
  · simp (maxSteps := 2000000) (disch := omega) only [go_sem, Nat.reduceAdd, Nat.reduceSub, Nat.reduceMul, Nat.reduceBEq, Nat.reduceEqDiff, Nat.reduceLT, Nat.reduceLeDiff, Nat.reduceDiv, reduceIte, reduceCtorEq, Int.reduceLT, Int.reduceLE, Int.reduceEq, Int.reduceNe, Int.reduceAdd, Int.reduceSub, Int.reduceMul, Int.reduceNeg, Int.reduceDiv, Int.reduceMod, Int.reduceTMod, Int.reduceTDiv, Int.reduceFDiv, Int.reducePow, Int.reduceToNat, U64n, BitVec.reduceOfInt, BitVec.reduceAnd, BitVec.reduceToNat, bits_u64, bits_i64]
    refine a_call [.arg 0] (push1_h m (U16 m.i1) (by omega)) (ok1 rfl) ?_ ?_ ?_
    · simp (maxSteps := 2000000) (disch := omega) only [go_sem, Nat.reduceAdd, Nat.reduceSub, Nat.reduceMul, Nat.reduceBEq, Nat.reduceEqDiff, Nat.reduceLT, Nat.reduceLeDiff, Nat.reduceDiv, reduceIte, reduceCtorEq]
    · simp (maxSteps := 2000000) (disch := omega) only [go_sem, Nat.reduceAdd, Nat.reduceSub, Nat.reduceMul, Nat.reduceBEq, Nat.reduceEqDiff, Nat.reduceLT, Nat.reduceLeDiff, Nat.reduceDiv, reduceIte, reduceCtorEq]
    rintro _ _ ⟨rfl, rfl⟩
    simp (maxSteps := 2000000) (disch := omega) only [go_sem, Nat.reduceAdd, Nat.reduceSub, Nat.reduceMul, Nat.reduceBEq, Nat.reduceEqDiff, Nat.reduceLT, Nat.reduceLeDiff, Nat.reduceDiv, reduceIte, reduceCtorEq]
    all_goals exact leCs_refl _
theorem frame_h10 (arg : Int) (h0 : 0 ≤ m.st.frame) (h1 : m.st.frame ≤ 600) : Holds Try.prog 94 [.ptr (.arg 0) 0, .int .i64 arg] [(.arg 0, mB (.arg 0) m)] (fun r h' => r = .tup [] ∧ h' = [(.arg 0, mB (.arg 0) (frame10 m))]) := by
  refine holds_of_awp Try.func94 rfl (by decide +kernel) mixed Try.ntmps94 Try.results94 ?_
  simp only [entrySt, List.map_cons, List.map_nil, List.length_cons, List.length_nil, Nat.reduceAdd, Nat.reduceSub, List.replicate_succ, List.replicate_zero, List.cons_append, List.nil_append]
  simp (maxSteps := 2000000) (disch := omega) only [go_sem, Nat.reduceAdd, Nat.reduceSub, Nat.reduceMul, Nat.reduceBEq, Nat.reduceEqDiff, Nat.reduceLT, Nat.reduceLeDiff, Nat.reduceDiv, reduceIte, reduceCtorEq, Int.reduceLT, Int.reduceLE, Int.reduceEq, Int.reduceNe, Int.reduceAdd, Int.reduceSub, Int.reduceMul, Int.reduceNeg, Int.reduceDiv, Int.reduceMod, Int.reduceTMod, Int.reduceTDiv, Int.reduceFDiv, Int.reducePow, Int.reduceToNat, U64n, BitVec.reduceOfInt, BitVec.reduceAnd, BitVec.reduceToNat, bits_u64, bits_i64]
  refine a_call [.arg 0] (push1_h m m.st.frame (by omega)) (ok1 rfl) ?_ ?_ ?_
  · simp (maxSteps := 2000000) (disch := omega) only [go_sem, Nat.reduceAdd, Nat.reduceSub, Nat.reduceMul, Nat.reduceBEq, Nat.reduceEqDiff, Nat.reduceLT, Nat.reduceLeDiff, Nat.reduceDiv, reduceIte, reduceCtorEq]
  · simp (maxSteps := 2000000) (disch := omega) only [go_sem, Nat.reduceAdd, Nat.reduceSub, Nat.reduceMul, Nat.reduceBEq, Nat.reduceEqDiff, Nat.reduceLT, Nat.reduceLeDiff, Nat.reduceDiv, reduceIte, reduceCtorEq]
  rintro _ _ ⟨rfl, rfl⟩
  simp (maxSteps := 2000000) (disch := omega) only [go_sem, Nat.reduceAdd, Nat.reduceSub, Nat.reduceMul, Nat.reduceBEq, Nat.reduceEqDiff, Nat.reduceLT, Nat.reduceLeDiff, Nat.reduceDiv, reduceIte, reduceCtorEq]
  all_goals exact leCs_refl _
omit hl in
theorem jump_h10 (arg : Int) : Holds Try.prog 95 [.ptr (.arg 0) 0, .int .i64 arg] [(.arg 0, mB (.arg 0) m)] (fun r h' => r = .tup [] ∧ h' = [(.arg 0, mB (.arg 0) (jump10 m arg))]) := by
  refine holds_of_awp Try.func95 rfl (by decide +kernel) mixed Try.ntmps95 Try.results95 ?_
  simp only [entrySt, List.map_cons, List.map_nil, List.length_cons, List.length_nil, Nat.reduceAdd, Nat.reduceSub, List.replicate_succ, List.replicate_zero, List.cons_append, List.nil_append]
  simp (maxSteps := 2000000) (disch := omega) only [go_sem, Nat.reduceAdd, Nat.reduceSub, Nat.reduceMul, Nat.reduceBEq, Nat.reduceEqDiff, Nat.reduceLT, Nat.reduceLeDiff, Nat.reduceDiv, reduceIte, reduceCtorEq, Int.reduceLT, Int.reduceLE, Int.reduceEq, Int.reduceNe, Int.reduceAdd, Int.reduceSub, Int.reduceMul, Int.reduceNeg, Int.reduceDiv, Int.reduceMod, Int.reduceTMod, Int.reduceTDiv, Int.reduceFDiv, Int.reducePow, Int.reduceToNat, U64n, BitVec.reduceOfInt, BitVec.reduceAnd, BitVec.reduceToNat, bits_u64, bits_i64]
  all_goals exact leCs_refl _
theorem zero_h10 (arg : Int) : Holds Try.prog 96 [.ptr (.arg 0) 0, .int .i64 arg] [(.arg 0, mB (.arg 0) m)] (fun r h' => r = .tup [] ∧ h' = [(.arg 0, mB (.arg 0) (zero10 m arg))]) := by
  refine holds_of_awp Try.func96 rfl (by decide +kernel) mixed Try.ntmps96 Try.results96 ?_
  simp only [entrySt, List.map_cons, List.map_nil, List.length_cons, List.length_nil, Nat.reduceAdd, Nat.reduceSub, List.replicate_succ, List.replicate_zero, List.cons_append, List.nil_append]
  simp (maxSteps := 2000000) (disch := omega) only [go_sem, Nat.reduceAdd, Nat.reduceSub, Nat.reduceMul, Nat.reduceBEq, Nat.reduceEqDiff, Nat.reduceLT, Nat.reduceLeDiff, Nat.reduceDiv, reduceIte, reduceCtorEq, Int.reduceLT, Int.reduceLE, Int.reduceEq, Int.reduceNe, Int.reduceAdd, Int.reduceSub, Int.reduceMul, Int.reduceNeg, Int.reduceDiv, Int.reduceMod, Int.reduceTMod, Int.reduceTDiv, Int.reduceFDiv, Int.reducePow, Int.reduceToNat, U64n, BitVec.reduceOfInt, BitVec.reduceAnd, BitVec.reduceToNat, bits_u64, bits_i64]
  refine a_call [.arg 0] (pop_h m (by omega)) (ok1 rfl) ?_ ?_ ?_
  · simp (maxSteps := 2000000) (disch := omega) only [go_sem, Nat.reduceAdd, Nat.reduceSub, Nat.reduceMul, Nat.reduceBEq, Nat.reduceEqDiff, Nat.reduceLT, Nat.reduceLeDiff, Nat.reduceDiv, reduceIte, reduceCtorEq]
  · simp (maxSteps := 2000000) (disch := omega) only [go_sem, Nat.reduceAdd, Nat.reduceSub, Nat.reduceMul, Nat.reduceBEq, Nat.reduceEqDiff, Nat.reduceLT, Nat.reduceLeDiff, Nat.reduceDiv, reduceIte, reduceCtorEq]
  rintro _ _ ⟨rfl, rfl⟩
  simp (maxSteps := 2000000) (disch := omega) only [go_sem, Nat.reduceAdd, Nat.reduceSub, Nat.reduceMul, Nat.reduceBEq, Nat.reduceEqDiff, Nat.reduceLT, Nat.reduceLeDiff, Nat.reduceDiv, reduceIte, reduceCtorEq, Int.reduceLT, Int.reduceLE, Int.reduceEq, Int.reduceNe, Int.reduceAdd, Int.reduceSub, Int.reduceMul, Int.reduceNeg, Int.reduceDiv, Int.reduceMod, Int.reduceTMod, Int.reduceTDiv, Int.reduceFDiv, Int.reducePow, Int.reduceToNat, U64n, BitVec.reduceOfInt, BitVec.reduceAnd, BitVec.reduceToNat, bits_u64, bits_i64]
  refine c_dec (fun h => ?_) (fun h => ?_)
  · unfold zero10
    rw [if_pos h]
    simp (maxSteps := 2000000) (disch := omega) only [go_sem, Nat.reduceAdd, Nat.reduceSub, Nat.reduceMul, Nat.reduceBEq, Nat.reduceEqDiff, Nat.reduceLT, Nat.reduceLeDiff, Nat.reduceDiv, reduceIte, reduceCtorEq, Int.reduceLT, Int.reduceLE, Int.reduceEq, Int.reduceNe, Int.reduceAdd, Int.reduceSub, Int.reduceMul, Int.reduceNeg, Int.reduceDiv, Int.reduceMod, Int.reduceTMod, Int.reduceTDiv, Int.reduceFDiv, Int.reducePow, Int.reduceToNat, U64n, BitVec.reduceOfInt, BitVec.reduceAnd, BitVec.reduceToNat, bits_u64, bits_i64]
    all_goals exact leCs_refl _
  · unfold zero10
    rw [if_neg h]
    simp (maxSteps := 2000000) (disch := omega) only [go_sem, Nat.reduceAdd, Nat.reduceSub, Nat.reduceMul, Nat.reduceBEq, Nat.reduceEqDiff, Nat.reduceLT, Nat.reduceLeDiff, Nat.reduceDiv, reduceIte, reduceCtorEq, Int.reduceLT, Int.reduceLE, Int.reduceEq, Int.reduceNe, Int.reduceAdd, Int.reduceSub, Int.reduceMul, Int.reduceNeg, Int.reduceDiv, Int.reduceMod, Int.reduceTMod, Int.reduceTDiv, Int.reduceFDiv, Int.reducePow, Int.reduceToNat, U64n, BitVec.reduceOfInt, BitVec.reduceAnd, BitVec.reduceToNat, bits_u64, bits_i64]
    all_goals exact leCs_refl _
omit hl in
theorem win_h10 (arg : Int) : Holds Try.prog 97 [.ptr (.arg 0) 0, .int .i64 arg] [(.arg 0, mB (.arg 0) m)] (fun r h' => r = .tup [] ∧ h' = [(.arg 0, mB (.arg 0) (win10 m arg))]) := by
  refine holds_of_awp Try.func97 rfl (by decide +kernel) mixed Try.ntmps97 Try.results97 ?_
  simp only [entrySt, List.map_cons, List.map_nil, List.length_cons, List.length_nil, Nat.reduceAdd, Nat.reduceSub, List.replicate_succ, List.replicate_zero, List.cons_append, List.nil_append]
  simp (maxSteps := 2000000) (disch := omega) only [go_sem, Nat.reduceAdd, Nat.reduceSub, Nat.reduceMul, Nat.reduceBEq, Nat.reduceEqDiff, Nat.reduceLT, Nat.reduceLeDiff, Nat.reduceDiv, reduceIte, reduceCtorEq, Int.reduceLT, Int.reduceLE, Int.reduceEq, Int.reduceNe, Int.reduceAdd, Int.reduceSub, Int.reduceMul, Int.reduceNeg, Int.reduceDiv, Int.reduceMod, Int.reduceTMod, Int.reduceTDiv, Int.reduceFDiv, Int.reducePow, Int.reduceToNat, U64n, BitVec.reduceOfInt, BitVec.reduceAnd, BitVec.reduceToNat, bits_u64, bits_i64]
  all_goals exact leCs_refl _
omit hl in
theorem halt_h10 (arg : Int) : Holds Try.prog 99 [.ptr (.arg 0) 0, .int .i64 arg] [(.arg 0, mB (.arg 0) m)] (fun r h' => r = .tup [] ∧ h' = [(.arg 0, mB (.arg 0) (halt10 m))]) := by
  refine holds_of_awp Try.func99 rfl (by decide +kernel) mixed Try.ntmps99 Try.results99 ?_
  simp only [entrySt, List.map_cons, List.map_nil, List.length_cons, List.length_nil, Nat.reduceAdd, Nat.reduceSub, List.replicate_succ, List.replicate_zero, List.cons_append, List.nil_append]
  simp (maxSteps := 2000000) (disch := omega) only [go_sem, Nat.reduceAdd, Nat.reduceSub, Nat.reduceMul, Nat.reduceBEq, Nat.reduceEqDiff, Nat.reduceLT, Nat.reduceLeDiff, Nat.reduceDiv, reduceIte, reduceCtorEq, Int.reduceLT, Int.reduceLE, Int.reduceEq, Int.reduceNe, Int.reduceAdd, Int.reduceSub, Int.reduceMul, Int.reduceNeg, Int.reduceDiv, Int.reduceMod, Int.reduceTMod, Int.reduceTDiv, Int.reduceFDiv, Int.reducePow, Int.reduceToNat, U64n, BitVec.reduceOfInt, BitVec.reduceAnd, BitVec.reduceToNat, bits_u64, bits_i64]
  all_goals exact leCs_refl _
theorem rand_h10 (arg : Int) : Holds Try.prog 98 [.ptr (.arg 0) 0, .int .i64 arg] [(.arg 0, mB (.arg 0) m)] (fun r h' => r = .tup [] ∧ h' = [(.arg 0, mB (.arg 0) (rand10 m))]) := by
  have hb := rndV_b (mixS m.st.seed)
  refine holds_of_awp Try.func98 rfl (by decide +kernel) mixed Try.ntmps98 Try.results98 ?_
  simp only [entrySt, List.map_cons, List.map_nil, List.length_cons, List.length_nil, Nat.reduceAdd, Nat.reduceSub, List.replicate_succ, List.replicate_zero, List.cons_append, List.nil_append]
  simp (maxSteps := 2000000) (disch := omega) only [go_sem, Nat.reduceAdd, Nat.reduceSub, Nat.reduceMul, Nat.reduceBEq, Nat.reduceEqDiff, Nat.reduceLT, Nat.reduceLeDiff, Nat.reduceDiv, reduceIte, reduceCtorEq, Int.reduceLT, Int.reduceLE, Int.reduceEq, Int.reduceNe, Int.reduceAdd, Int.reduceSub, Int.reduceMul, Int.reduceNeg, Int.reduceDiv, Int.reduceMod, Int.reduceTMod, Int.reduceTDiv, Int.reduceFDiv, Int.reducePow, Int.reduceToNat, U64n, BitVec.reduceOfInt, BitVec.reduceAnd, BitVec.reduceToNat, bits_u64, bits_i64]
  have em : (xor32 (xor32 (xor32 m.st.seed (shl32 m.st.seed 13)) (shr32 (xor32 m.st.seed (shl32 m.st.seed 13)) 17)) (shl32 (xor32 (xor32 m.st.seed (shl32 m.st.seed 13)) (shr32 (xor32 m.st.seed (shl32 m.st.seed 13)) 17)) 5)) = mixS m.st.seed := rfl
  simp only [em]
  simp (maxSteps := 2000000) (disch := omega) only [go_sem, Nat.reduceAdd, Nat.reduceSub, Nat.reduceMul, Nat.reduceBEq, Nat.reduceEqDiff, Nat.reduceLT, Nat.reduceLeDiff, Nat.reduceDiv, reduceIte, reduceCtorEq, Int.reduceLT, Int.reduceLE, Int.reduceEq, Int.reduceNe, Int.reduceAdd, Int.reduceSub, Int.reduceMul, Int.reduceNeg, Int.reduceDiv, Int.reduceMod, Int.reduceTMod, Int.reduceTDiv, Int.reduceFDiv, Int.reducePow, Int.reduceToNat, U64n, BitVec.reduceOfInt, BitVec.reduceAnd, BitVec.reduceToNat, bits_u64, bits_i64]
  refine a_call [.arg 0] (push1_h ⟨m.st.wSeed (mixS m.st.seed), m.i0, m.i1, m.sk, m.pc, m.en, m.bad⟩ (rndV (mixS m.st.seed)) (by simp; omega)) (ok1 rfl) ?_ ?_ ?_
  · simp (maxSteps := 2000000) (disch := omega) only [go_sem, Nat.reduceAdd, Nat.reduceSub, Nat.reduceMul, Nat.reduceBEq, Nat.reduceEqDiff, Nat.reduceLT, Nat.reduceLeDiff, Nat.reduceDiv, reduceIte, reduceCtorEq]
  · simp (maxSteps := 2000000) (disch := omega) only [go_sem, Nat.reduceAdd, Nat.reduceSub, Nat.reduceMul, Nat.reduceBEq, Nat.reduceEqDiff, Nat.reduceLT, Nat.reduceLeDiff, Nat.reduceDiv, reduceIte, reduceCtorEq]
  rintro _ _ ⟨rfl, rfl⟩
  simp (maxSteps := 2000000) (disch := omega) only [go_sem, Nat.reduceAdd, Nat.reduceSub, Nat.reduceMul, Nat.reduceBEq, Nat.reduceEqDiff, Nat.reduceLT, Nat.reduceLeDiff, Nat.reduceDiv, reduceIte, reduceCtorEq]
  all_goals exact leCs_refl _
theorem two1_h10 (k : Nat) (f : Int → Int → Int) (hf : Holds Try.prog k [.int .i32 (popV (popM m)), .int .i32 (popV m)] [] (fun r h' => r = .int .i32 (f (popV (popM m)) (popV m)) ∧ h' = [])) (arg : Int) :
    Holds Try.prog 103 [.ptr (.arg 0) 0, .int .i64 arg, .ptr (.arg 1) 0] [(.arg 0, mB (.arg 0) m), (.arg 1, [.fn (.func k) [] []])] (fun r h' => r = .tup [] ∧ h' = [(.arg 0, mB (.arg 0) (two10 f m)), (.arg 1, [.fn (.func k) [] []])]) := by
  refine holds_of_awp Try.func103 rfl (by decide +kernel) mixed Try.ntmps103 Try.results103 ?_
  simp only [entrySt, List.map_cons, List.map_nil, List.length_cons, List.length_nil, Nat.reduceAdd, Nat.reduceSub, List.replicate_succ, List.replicate_zero, List.cons_append, List.nil_append]
  simp (maxSteps := 2000000) (disch := omega) only [go_sem, Nat.reduceAdd, Nat.reduceSub, Nat.reduceMul, Nat.reduceBEq, Nat.reduceEqDiff, Nat.reduceLT, Nat.reduceLeDiff, Nat.reduceDiv, reduceIte, reduceCtorEq, Int.reduceLT, Int.reduceLE, Int.reduceEq, Int.reduceNe, Int.reduceAdd, Int.reduceSub, Int.reduceMul, Int.reduceNeg, Int.reduceDiv, Int.reduceMod, Int.reduceTMod, Int.reduceTDiv, Int.reduceFDiv, Int.reducePow, Int.reduceToNat, U64n, BitVec.reduceOfInt, BitVec.reduceAnd, BitVec.reduceToNat, bits_u64, bits_i64]
  refine a_call [.arg 0] (pop_h m (by omega)) (ok1 rfl) ?_ ?_ ?_
  · simp (maxSteps := 2000000) (disch := omega) only [go_sem, Nat.reduceAdd, Nat.reduceSub, Nat.reduceMul, Nat.reduceBEq, Nat.reduceEqDiff, Nat.reduceLT, Nat.reduceLeDiff, Nat.reduceDiv, reduceIte, reduceCtorEq]
  · simp (maxSteps := 2000000) (disch := omega) only [go_sem, Nat.reduceAdd, Nat.reduceSub, Nat.reduceMul, Nat.reduceBEq, Nat.reduceEqDiff, Nat.reduceLT, Nat.reduceLeDiff, Nat.reduceDiv, reduceIte, reduceCtorEq]
  rintro _ _ ⟨rfl, rfl⟩
  simp (maxSteps := 2000000) (disch := omega) only [go_sem, Nat.reduceAdd, Nat.reduceSub, Nat.reduceMul, Nat.reduceBEq, Nat.reduceEqDiff, Nat.reduceLT, Nat.reduceLeDiff, Nat.reduceDiv, reduceIte, reduceCtorEq, Int.reduceLT, Int.reduceLE, Int.reduceEq, Int.reduceNe, Int.reduceAdd, Int.reduceSub, Int.reduceMul, Int.reduceNeg, Int.reduceDiv, Int.reduceMod, Int.reduceTMod, Int.reduceTDiv, Int.reduceFDiv, Int.reducePow, Int.reduceToNat, U64n, BitVec.reduceOfInt, BitVec.reduceAnd, BitVec.reduceToNat, bits_u64, bits_i64]
  refine a_call [.arg 0] (pop_h (popM m) (by simp [popM]; omega)) (ok1 rfl) ?_ ?_ ?_
  · simp (maxSteps := 2000000) (disch := omega) only [go_sem, Nat.reduceAdd, Nat.reduceSub, Nat.reduceMul, Nat.reduceBEq, Nat.reduceEqDiff, Nat.reduceLT, Nat.reduceLeDiff, Nat.reduceDiv, reduceIte, reduceCtorEq]
  · simp (maxSteps := 2000000) (disch := omega) only [go_sem, Nat.reduceAdd, Nat.reduceSub, Nat.reduceMul, Nat.reduceBEq, Nat.reduceEqDiff, Nat.reduceLT, Nat.reduceLeDiff, Nat.reduceDiv, reduceIte, reduceCtorEq]
  rintro _ _ ⟨rfl, rfl⟩
  simp (maxSteps := 2000000) (disch := omega) only [go_sem, Nat.reduceAdd, Nat.reduceSub, Nat.reduceMul, Nat.reduceBEq, Nat.reduceEqDiff, Nat.reduceLT, Nat.reduceLeDiff, Nat.reduceDiv, reduceIte, reduceCtorEq, Int.reduceLT, Int.reduceLE, Int.reduceEq, Int.reduceNe, Int.reduceAdd, Int.reduceSub, Int.reduceMul, Int.reduceNeg, Int.reduceDiv, Int.reduceMod, Int.reduceTMod, Int.reduceTDiv, Int.reduceFDiv, Int.reducePow, Int.reduceToNat, U64n, BitVec.reduceOfInt, BitVec.reduceAnd, BitVec.reduceToNat, bits_u64, bits_i64]
  refine a_call [] (hf) ok0 ?_ ?_ ?_
  · simp (maxSteps := 2000000) (disch := omega) only [go_sem, Nat.reduceAdd, Nat.reduceSub, Nat.reduceMul, Nat.reduceBEq, Nat.reduceEqDiff, Nat.reduceLT, Nat.reduceLeDiff, Nat.reduceDiv, reduceIte, reduceCtorEq]
  · simp (maxSteps := 2000000) (disch := omega) only [go_sem, Nat.reduceAdd, Nat.reduceSub, Nat.reduceMul, Nat.reduceBEq, Nat.reduceEqDiff, Nat.reduceLT, Nat.reduceLeDiff, Nat.reduceDiv, reduceIte, reduceCtorEq]
  rintro _ _ ⟨rfl, rfl⟩
  simp (maxSteps := 2000000) (disch := omega) only [go_sem, Nat.reduceAdd, Nat.reduceSub, Nat.reduceMul, Nat.reduceBEq, Nat.reduceEqDiff, Nat.reduceLT, Nat.reduceLeDiff, Nat.reduceDiv, reduceIte, reduceCtorEq, Int.reduceLT, Int.reduceLE, Int.reduceEq, Int.reduceNe, Int.reduceAdd, Int.reduceSub, Int.reduceMul, Int.reduceNeg, Int.reduceDiv, Int.reduceMod, Int.reduceTMod, Int.reduceTDiv, Int.reduceFDiv, Int.reducePow, Int.reduceToNat, U64n, BitVec.reduceOfInt, BitVec.reduceAnd, BitVec.reduceToNat, bits_u64, bits_i64]
  refine a_call [.arg 0] (push1_h (popM (popM m)) (f (popV (popM m)) (popV m)) (by simp [popM]; omega)) (ok1 rfl) ?_ ?_ ?_
  · simp (maxSteps := 2000000) (disch := omega) only [go_sem, Nat.reduceAdd, Nat.reduceSub, Nat.reduceMul, Nat.reduceBEq, Nat.reduceEqDiff, Nat.reduceLT, Nat.reduceLeDiff, Nat.reduceDiv, reduceIte, reduceCtorEq]
  · simp (maxSteps := 2000000) (disch := omega) only [go_sem, Nat.reduceAdd, Nat.reduceSub, Nat.reduceMul, Nat.reduceBEq, Nat.reduceEqDiff, Nat.reduceLT, Nat.reduceLeDiff, Nat.reduceDiv, reduceIte, reduceCtorEq]
  rintro _ _ ⟨rfl, rfl⟩
  simp (maxSteps := 2000000) (disch := omega) only [go_sem, Nat.reduceAdd, Nat.reduceSub, Nat.reduceMul, Nat.reduceBEq, Nat.reduceEqDiff, Nat.reduceLT, Nat.reduceLeDiff, Nat.reduceDiv, reduceIte, reduceCtorEq]
  all_goals exact leCs_refl _
end
end Go.Proofs.Ytamcjecgkfmjkaa

/- Chapter 10: an instruction, and a frame's run. -/
open Go Go.RowKit
namespace Go.Proofs.Ytamcjecgkfmjkaa
set_option linter.unusedSimpArgs false
set_option linter.unusedVariables false
def f4 (b a : Int) : Int := held (b + a)
def f5 (b a : Int) : Int := held (b - a)
def f6 (b a : Int) : Int := held (b * a / 65536)
def f7 (b a : Int) : Int := divV b a
def f8 (b a : Int) : Int := min b a
def f9 (b a : Int) : Int := max b a
def f10 (b a : Int) : Int := truthV (decide (b < a))
def f11 (b a : Int) : Int := truthV (decide (b = a))
/-- an instruction -/
def doM (op arg : Int) (m : Mac) : Mac :=
  if op = 1 then number10 m arg
  else if op = 2 then load10 m arg
  else if op = 3 then store10 m arg
  else if op = 4 then two10 f4 m
  else if op = 5 then two10 f5 m
  else if op = 6 then two10 f6 m
  else if op = 7 then two10 f7 m
  else if op = 8 then two10 f8 m
  else if op = 9 then two10 f9 m
  else if op = 10 then two10 f10 m
  else if op = 11 then two10 f11 m
  else if op = 12 then not10 m
  else if op = 13 then dup10 m
  else if op = 14 then swap10 m
  else if op = 15 then popM m
  else if op = 16 then input10 m arg
  else if op = 17 then frame10 m
  else if op = 18 then jump10 m arg
  else if op = 19 then zero10 m arg
  else if op = 20 then win10 m arg
  else if op = 21 then rand10 m
  else halt10 m
/-- what holds of a machine all the while -/
structure okM (n : Int) (m : Mac) : Prop where
  pc0 : 0 ≤ m.pc
  pc1 : m.pc ≤ n
  len : m.sk.length ≤ 32
  sk : ∀ x ∈ m.sk, B32 x
  cells : ∀ x ∈ m.st.cells, B32 x
  fr0 : 0 ≤ m.st.frame
  fr1 : m.st.frame ≤ 600
theorem B32_0 : B32 0 := by unfold B32; omega
theorem getD_B32 {l : List Int} (h : ∀ x ∈ l, B32 x) (k : Nat) : B32 (l.getD k 0) := by
  rw [List.getD_eq_getElem?_getD]
  cases hk : l[k]? with
  | none => exact B32_0
  | some x => exact h x (List.mem_of_getElem? hk)
theorem popV_B {m : Mac} (h : ∀ x ∈ m.sk, B32 x) : B32 (popV m) := getD_B32 h _
theorem popM_B {m : Mac} (h : ∀ x ∈ m.sk, B32 x) : ∀ x ∈ (popM m).sk, B32 x := fun x hx => h x (List.mem_of_mem_take hx)
theorem truthV_B (b : Bool) : B32 (truthV b) := by cases b <;> (unfold truthV B32; simp)
theorem divV_B {b a : Int} (hb : B32 b) (ha : B32 a) : B32 (divV b a) := by
  unfold divV
  split
  · split
    · unfold B32; omega
    · split <;> (unfold B32; omega)
  · exact held_b _
theorem min_B {b a : Int} (hb : B32 b) (ha : B32 a) : B32 (min b a) := by unfold B32 at *; omega
theorem max_B {b a : Int} (hb : B32 b) (ha : B32 a) : B32 (max b a) := by unfold B32 at *; omega
/-- what an instruction leaves is right again, if it did -/
structure okL (m : Mac) : Prop where
  sk : ∀ x ∈ m.sk, B32 x
  cells : ∀ x ∈ m.st.cells, B32 x
  fr0 : 0 ≤ m.st.frame
  fr1 : m.st.frame ≤ 600
theorem okM.low {n : Int} {m : Mac} (h : okM n m) : okL m := ⟨h.sk, h.cells, h.fr0, h.fr1⟩
theorem okL.pop {m : Mac} (h : okL m) : okL (popM m) := ⟨popM_B h.sk, h.cells, h.fr0, h.fr1⟩
theorem okL.push {m : Mac} (h : okL m) {l : List Int} (hx : ∀ x ∈ l, B32 x) : okL (pushM m l) := ⟨fun x hm => by
  rcases List.mem_append.1 hm with h1 | h1
  · exact h.sk x h1
  · exact hx x h1, h.cells, h.fr0, h.fr1⟩
theorem one_B {x : Int} (h : B32 x) : ∀ y ∈ [x], B32 y := fun y hy => by rw [List.mem_singleton.1 hy]; exact h
theorem two_B {x z : Int} (h : B32 x) (h2 : B32 z) : ∀ y ∈ [x, z], B32 y := fun y hy => by
  rcases List.mem_cons.1 hy with e | e
  · rw [e]; exact h
  · rw [List.mem_singleton.1 e]; exact h2
theorem wCells_B {s : Sta} {k : Nat} {x : Int} (h : ∀ y ∈ s.cells, B32 y) (hx : B32 x) : ∀ y ∈ (s.wCells k x).cells, B32 y := fun y hy => by
  rcases List.mem_or_eq_of_mem_set hy with h1 | h1
  · exact h y h1
  · rw [h1]; exact hx
theorem okL.two {m : Mac} (h : okL m) {f : Int → Int → Int} (hf : ∀ b a, B32 b → B32 a → B32 (f b a)) : okL (two10 f m) := h.pop.pop.push (one_B (hf _ _ (popV_B h.pop.sk) (popV_B h.sk)))
theorem mayP_arg {op arg n : Int} (h : mayP op arg n = true) : (1 ≤ op ∧ op ≤ 22) ∧ (op = 1 → B32 arg) ∧ (op = 2 ∨ op = 3 → 0 ≤ arg ∧ arg ≤ 15) ∧ (op = 16 → arg = 0 ∨ arg = 1) ∧ (op = 18 ∨ op = 19 → 0 ≤ arg ∧ arg ≤ n) ∧ (op = 20 → 0 ≤ arg ∧ arg ≤ 2) := by
  unfold mayP at h
  unfold B32
  split at h
  · simp only [Bool.and_eq_true, decide_eq_true_eq] at h; omega
  · split at h
    · simp only [Bool.and_eq_true, decide_eq_true_eq] at h; omega
    · split at h
      · simp only [Bool.and_eq_true, decide_eq_true_eq] at h; omega
      · split at h
        · simp only [Bool.and_eq_true, decide_eq_true_eq] at h; omega
        · split at h
          · simp only [Bool.and_eq_true, decide_eq_true_eq] at h; omega
          · simp only [Bool.and_eq_true, decide_eq_true_eq] at h; omega
theorem op_cases {op : Int} (h : 1 ≤ op ∧ op ≤ 22) : op = 1 ∨ op = 2 ∨ op = 3 ∨ op = 4 ∨ op = 5 ∨ op = 6 ∨ op = 7 ∨ op = 8 ∨ op = 9 ∨ op = 10 ∨ op = 11 ∨ op = 12 ∨ op = 13 ∨ op = 14 ∨ op = 15 ∨ op = 16 ∨ op = 17 ∨ op = 18 ∨ op = 19 ∨ op = 20 ∨ op = 21 ∨ op = 22 := by omega
section
variable (arg : Int) (m : Mac)
theorem doM_1 : doM 1 arg m = number10 m arg := rfl
theorem doM_2 : doM 2 arg m = load10 m arg := rfl
theorem doM_3 : doM 3 arg m = store10 m arg := rfl
theorem doM_4 : doM 4 arg m = two10 f4 m := rfl
theorem doM_5 : doM 5 arg m = two10 f5 m := rfl
theorem doM_6 : doM 6 arg m = two10 f6 m := rfl
theorem doM_7 : doM 7 arg m = two10 f7 m := rfl
theorem doM_8 : doM 8 arg m = two10 f8 m := rfl
theorem doM_9 : doM 9 arg m = two10 f9 m := rfl
theorem doM_10 : doM 10 arg m = two10 f10 m := rfl
theorem doM_11 : doM 11 arg m = two10 f11 m := rfl
theorem doM_12 : doM 12 arg m = not10 m := rfl
theorem doM_13 : doM 13 arg m = dup10 m := rfl
theorem doM_14 : doM 14 arg m = swap10 m := rfl
theorem doM_15 : doM 15 arg m = popM m := rfl
theorem doM_16 : doM 16 arg m = input10 m arg := rfl
theorem doM_17 : doM 17 arg m = frame10 m := rfl
theorem doM_18 : doM 18 arg m = jump10 m arg := rfl
theorem doM_19 : doM 19 arg m = zero10 m arg := rfl
theorem doM_20 : doM 20 arg m = win10 m arg := rfl
theorem doM_21 : doM 21 arg m = rand10 m := rfl
theorem doM_22 : doM 22 arg m = halt10 m := rfl
end
theorem doM_low {n op arg : Int} {m : Mac} (h : okL m) (hm : mayP op arg n = true) : okL (doM op arg m) := by
  obtain ⟨ho, h1, h2, h16, h18, h20⟩ := mayP_arg hm
  have u0 := U16_b m.i0
  have u1 := U16_b m.i1
  have hr := rndV_b (mixS m.st.seed)
  rcases op_cases ho with rfl | rfl | rfl | rfl | rfl | rfl | rfl | rfl | rfl | rfl | rfl | rfl | rfl | rfl | rfl | rfl | rfl | rfl | rfl | rfl | rfl | rfl
  · exact h.push (one_B (h1 rfl))
  · exact h.push (one_B (getD_B32 h.cells _))
  · exact ⟨(okL.pop h).sk, wCells_B h.cells (popV_B h.sk), h.fr0, h.fr1⟩
  · exact h.two fun _ _ _ _ => held_b _
  · exact h.two fun _ _ _ _ => held_b _
  · exact h.two fun _ _ _ _ => held_b _
  · exact h.two fun _ _ => divV_B
  · exact h.two fun _ _ => min_B
  · exact h.two fun _ _ => max_B
  · exact h.two fun _ _ _ _ => truthV_B _
  · exact h.two fun _ _ _ _ => truthV_B _
  · exact h.pop.push (one_B (truthV_B _))
  · exact h.pop.push (two_B (popV_B h.sk) (popV_B h.sk))
  · exact h.pop.pop.push (two_B (popV_B h.sk) (popV_B h.pop.sk))
  · exact h.pop
  · exact h.push (one_B (by split <;> (unfold B32; omega)))
  · exact h.push (one_B (by have := h.fr0; have := h.fr1; unfold B32; omega))
  · exact ⟨h.sk, h.cells, h.fr0, h.fr1⟩
  · rw [doM_19]
    unfold zero10
    split
    · exact ⟨h.pop.sk, h.cells, h.fr0, h.fr1⟩
    · exact h.pop
  · exact ⟨h.sk, h.cells, h.fr0, h.fr1⟩
  · exact okL.push (m := ⟨m.st.wSeed (mixS m.st.seed), m.i0, m.i1, m.sk, m.pc, m.en, m.bad⟩) ⟨h.sk, h.cells, h.fr0, h.fr1⟩ (one_B (by unfold B32; omega))
  · exact ⟨h.sk, h.cells, h.fr0, h.fr1⟩
theorem pushM_pc {m : Mac} {l : List Int} : (pushM m l).pc = m.pc := rfl
theorem pushM_len {m : Mac} {l : List Int} (h : (pushM m l).bad = false) : (pushM m l).sk.length ≤ 32 := by
  unfold pushM at h ⊢
  simp only [Bool.or_eq_false_iff, decide_eq_false_iff_not] at h
  rw [List.length_append]; omega
theorem popM_len {m : Mac} : (popM m).sk.length ≤ m.sk.length := List.length_take_le' _ _
/-- where it goes on, and how high the numbers stand -/
theorem doM_pc {n op arg : Int} {m : Mac} (h0 : 0 ≤ m.pc) (h1 : m.pc ≤ n) (hl : m.sk.length ≤ 32) (hm : mayP op arg n = true) (hb : (doM op arg m).bad = false) : 0 ≤ (doM op arg m).pc ∧ (doM op arg m).pc ≤ n ∧ (doM op arg m).sk.length ≤ 32 := by
  obtain ⟨ho, _, _, _, h18, _⟩ := mayP_arg hm
  have P : ∀ {x : Mac} {l : List Int}, x.pc = m.pc → (pushM x l).bad = false → 0 ≤ (pushM x l).pc ∧ (pushM x l).pc ≤ n ∧ (pushM x l).sk.length ≤ 32 := by
    intro x l hx hb
    exact ⟨by rw [pushM_pc, hx]; exact h0, by rw [pushM_pc, hx]; exact h1, pushM_len hb⟩
  rcases op_cases ho with rfl | rfl | rfl | rfl | rfl | rfl | rfl | rfl | rfl | rfl | rfl | rfl | rfl | rfl | rfl | rfl | rfl | rfl | rfl | rfl | rfl | rfl
  · exact P rfl hb
  · exact P rfl hb
  · exact ⟨h0, h1, Nat.le_trans popM_len hl⟩
  · exact P (x := popM (popM m)) rfl hb
  · exact P (x := popM (popM m)) rfl hb
  · exact P (x := popM (popM m)) rfl hb
  · exact P (x := popM (popM m)) rfl hb
  · exact P (x := popM (popM m)) rfl hb
  · exact P (x := popM (popM m)) rfl hb
  · exact P (x := popM (popM m)) rfl hb
  · exact P (x := popM (popM m)) rfl hb
  · exact P (x := popM m) rfl hb
  · exact P (x := popM m) rfl hb
  · exact P (x := popM (popM m)) rfl hb
  · exact ⟨h0, h1, Nat.le_trans popM_len hl⟩
  · exact P rfl hb
  · exact P rfl hb
  · exact ⟨(h18 (.inl rfl)).1, (h18 (.inl rfl)).2, hl⟩
  · rw [doM_19]
    unfold zero10
    split
    · exact ⟨(h18 (.inr rfl)).1, (h18 (.inr rfl)).2, Nat.le_trans popM_len hl⟩
    · exact ⟨h0, h1, Nat.le_trans popM_len hl⟩
  · exact ⟨h0, h1, hl⟩
  · exact P (x := ⟨m.st.wSeed (mixS m.st.seed), m.i0, m.i1, m.sk, m.pc, m.en, m.bad⟩) rfl hb
  · exact ⟨h0, h1, hl⟩
theorem doM_ok {n op arg : Int} {m : Mac} (h : okM n m) (hm : mayP op arg n = true) (hb : (doM op arg m).bad = false) : okM n (doM op arg m) := by
  have h1 := doM_low h.low hm
  have h2 := doM_pc h.pc0 h.pc1 h.len hm hb
  exact ⟨h2.1, h2.2.1, h2.2.2, h1.sk, h1.cells, h1.fr0, h1.fr1⟩
@[reducible] def incM (m : Mac) : Mac := ⟨m.st, m.i0, m.i1, m.sk, m.pc + 1, m.en, m.bad⟩
/-- a frame's run: what went wrong, and the machine -/
def runM (code : List (Int × Int)) : Nat → Mac → Int × Mac
  | 0, m => if m.pc < code.length ∧ m.en = false then (10, m) else (0, m)
  | f + 1, m => if m.pc < code.length ∧ m.en = false then
      (if (doM (gi code m.pc.toNat).1 (gi code m.pc.toNat).2 (incM m)).bad = true then (11, doM (gi code m.pc.toNat).1 (gi code m.pc.toNat).2 (incM m))
       else runM code f (doM (gi code m.pc.toNat).1 (gi code m.pc.toNat).2 (incM m))) else (0, m)
end Go.Proofs.Ytamcjecgkfmjkaa

/- Chapter 10: the run of a frame, in the code. -/
open Go Go.RowKit
namespace Go.Proofs.Ytamcjecgkfmjkaa
set_option linter.unusedSimpArgs false
set_option linter.unusedVariables false
theorem chk_all {l : List (Int × Int)} (h : (chkP l).2 = 0) {i : Nat} (hi : i < l.length) : mayP (gi l i).1 (gi l i).2 l.length = true := by
  unfold chkP at h
  split at h
  · simp at h
  · split at h
    · simp at h
    · exact firstBad_at (by omega)
/-- how an op is done -/
def doeF (a b c d e f g h : Id) (op : Nat) : C := (doeC a b c d e f g h).getD op .undef
theorem doe_at {a b c d e f g h : Id} {op : Nat} (h2 : op ≤ 22) : (doeC a b c d e f g h)[op]? = some (doeF a b c d e f g h op) := by
  have hl : op < (doeC a b c d e f g h).length := by rw [doe_l]; omega
  unfold doeF
  rw [List.getD_eq_getElem?_getD, List.getElem?_eq_getElem hl]; rfl
@[go_sem ↓ 1300] theorem doe_m {a b c d e f g h : Id} {op : Nat} {K : C → Prop} (h2 : op ≤ 22) : (∃ x, (doeC a b c d e f g h)[op]? = some x ∧ K x) = K (doeF a b c d e f g h op) := ex_some (doe_at h2)
@[go_sem ↓ 1300] theorem doe_m1 {a b c d e f g h : Id} {op : Nat} {K : C → Prop} (h2 : op ≤ 22) : (∃ x, (doeC a b c d e f g h)[op * 1]? = some x ∧ K x) = K (doeF a b c d e f g h op) := by rw [Nat.mul_one]; exact doe_m h2
@[go_sem ↓ 1300] theorem doe_m0 {a b c d e f g h : Id} {op : Nat} {K : C → Prop} (h2 : op ≤ 22) : (∃ x, (doeC a b c d e f g h)[0 + op * 1]? = some x ∧ K x) = K (doeF a b c d e f g h op) := by rw [Nat.zero_add]; exact doe_m1 h2
abbrev doeI : List C := doeC (.loc [8, 0, 1, 0, 1]) (.loc [8, 0, 2, 0, 1]) (.loc [8, 0, 3, 0, 1]) (.loc [8, 0, 4, 0, 1]) (.loc [8, 0, 5, 0, 1]) (.loc [8, 0, 6, 0, 1]) (.loc [8, 0, 7, 0, 1]) (.loc [8, 0, 8, 0, 1])
abbrev doeHI : Heap := doeH (.loc [8, 0, 1, 0, 1]) (.loc [8, 0, 2, 0, 1]) (.loc [8, 0, 3, 0, 1]) (.loc [8, 0, 4, 0, 1]) (.loc [8, 0, 5, 0, 1]) (.loc [8, 0, 6, 0, 1]) (.loc [8, 0, 7, 0, 1]) (.loc [8, 0, 8, 0, 1])
set_option maxRecDepth 20000 in
set_option maxHeartbeats 16000000 in
theorem run_h10 (code : List (Int × Int)) (cap : Int) (fuel : Nat) (m : Mac) (hc : (chkP code).2 = 0) (hcl : code.length ≤ 256) (hm : okM code.length m) (hb : m.bad = false) (hf : fuel ≤ 1000000) :
    Holds Try.prog 65 [.ptr (.arg 0) 0, .game code cap fuel] [(.arg 0, mB (.arg 0) m)] (fun r h' => r = .int .i64 (runM code fuel m).1 ∧ h' = [(.arg 0, mB (.arg 0) (runM code fuel m).2)]) := by
  refine holds_of_awp Try.func65 rfl (by decide +kernel) mixed Try.ntmps65 Try.results65 ?_
  simp only [entrySt, List.map_cons, List.map_nil, List.length_cons, List.length_nil, Nat.reduceAdd, Nat.reduceSub, List.replicate_succ, List.replicate_zero, List.cons_append, List.nil_append]
  simp (maxSteps := 2000000) (disch := omega) only [go_sem, Nat.reduceAdd, Nat.reduceSub, Nat.reduceMul, Nat.reduceBEq, Nat.reduceEqDiff, Nat.reduceLT, Nat.reduceLeDiff, Nat.reduceDiv, reduceIte, reduceCtorEq]
  refine a_call [] (doers_h) ok0 ?_ ?_ ?_
  · simp (maxSteps := 2000000) (disch := omega) only [go_sem, Nat.reduceAdd, Nat.reduceSub, Nat.reduceMul, Nat.reduceBEq, Nat.reduceEqDiff, Nat.reduceLT, Nat.reduceLeDiff, Nat.reduceDiv, reduceIte, reduceCtorEq]
  · simp (maxSteps := 2000000) (disch := omega) only [go_sem, Nat.reduceAdd, Nat.reduceSub, Nat.reduceMul, Nat.reduceBEq, Nat.reduceEqDiff, Nat.reduceLT, Nat.reduceLeDiff, Nat.reduceDiv, reduceIte, reduceCtorEq]
  rintro _ _ ⟨rfl, rfl⟩
  simp (maxSteps := 2000000) (disch := omega) only [go_sem, Nat.reduceAdd, Nat.reduceSub, Nat.reduceMul, Nat.reduceBEq, Nat.reduceEqDiff, Nat.reduceLT, Nat.reduceLeDiff, Nat.reduceDiv, reduceIte, reduceCtorEq]
  obtain ⟨E, M, hR⟩ : ∃ E M, runM code fuel m = (E, M) := ⟨_, _, rfl⟩
  rw [hR]
  refine a_loopk (fun x : Nat × Mac => ⟨[V.cell (.ptr (.arg 0) 0), .undef, .undef, V.cell (.ptr (.loc [3]) 0), .undef, V.cell (.ptr (.loc [5]) 0), V.int .i64 (x.1 : Int), .undef, .undef, .undef, .undef, .undef, .undef, .undef, .undef, .undef, .undef, .undef, .undef, .undef, .undef, .undef, .undef, .undef, .undef, .undef, .undef, .undef, .undef, .undef, .undef, .undef, .undef, .undef, .undef, .undef, .undef, .undef, .undef, .undef, .undef, .undef, .undef, .undef, .undef, .undef, .undef, .undef, .undef, .undef, .undef, .undef, .undef, .undef, .undef, .undef, .undef], (.loc [5], doeI) :: (.loc [3], [.lst .no none 2 (ins code), .val (.int .i64 cap), .val (.int .i64 fuel)]) :: (.arg 0, mB (.arg 0) x.2) :: doeHI⟩) (fun x => x.1 ≤ 1000000 ∧ okM code.length x.2 ∧ x.2.bad = false ∧ runM code x.1 x.2 = (E, M)) (fun x => x.1) (fuel, m) ⟨hf, hm, hb, hR⟩ ?_ ?_
  · try simp (maxSteps := 2000000) (disch := omega) only [go_sem, Nat.reduceAdd, Nat.reduceSub, Nat.reduceMul, Nat.reduceBEq, Nat.reduceEqDiff, Nat.reduceLT, Nat.reduceLeDiff, Nat.reduceDiv, reduceIte, reduceCtorEq]
  · rintro ⟨f, m⟩ ⟨h1, h2, h3, h4⟩
    simp only at h1 h2 h3 h4 ⊢
    have p0 := h2.pc0
    have p1 := h2.pc1
    simp (maxSteps := 2000000) (disch := omega) only [go_sem, Nat.reduceAdd, Nat.reduceSub, Nat.reduceMul, Nat.reduceBEq, Nat.reduceEqDiff, Nat.reduceLT, Nat.reduceLeDiff, Nat.reduceDiv, reduceIte, reduceCtorEq]
    refine a_quiet (by kernel_rfl) (by kernel_rfl) (by kernel_rfl) ?_
    have stop : (¬ m.pc < code.length ∨ m.en = true) → runM code f m = (0, m) := by
      intro hs
      have hn : ¬ (m.pc < code.length ∧ m.en = false) := by rintro ⟨a, b⟩; rcases hs with h | h; exact h a; rw [b] at h; cases h
      cases f with
      | zero => exact if_neg hn
      | succ f => exact if_neg hn
    cases d1 : decide (m.pc < (code.length : Int))
    · rw [stop (.inl (of_decide_eq_false d1))] at h4
      cases h4
      simp (maxSteps := 2000000) (disch := omega) only [go_sem, Nat.reduceAdd, Nat.reduceSub, Nat.reduceMul, Nat.reduceBEq, Nat.reduceEqDiff, Nat.reduceLT, Nat.reduceLeDiff, Nat.reduceDiv, reduceIte, reduceCtorEq, d1]
      all_goals exact leCs_refl _
    · cases d2 : (!m.en)
      · rw [stop (.inr (by cases hh : m.en <;> simp_all))] at h4
        cases h4
        simp (maxSteps := 2000000) (disch := omega) only [go_sem, Nat.reduceAdd, Nat.reduceSub, Nat.reduceMul, Nat.reduceBEq, Nat.reduceEqDiff, Nat.reduceLT, Nat.reduceLeDiff, Nat.reduceDiv, reduceIte, reduceCtorEq, d1, d2]
        all_goals exact leCs_refl _
      · have hen : m.en = false := by cases hh : m.en <;> simp_all
        have hlt := of_decide_eq_true d1
        simp (maxSteps := 2000000) (disch := omega) only [go_sem, Nat.reduceAdd, Nat.reduceSub, Nat.reduceMul, Nat.reduceBEq, Nat.reduceEqDiff, Nat.reduceLT, Nat.reduceLeDiff, Nat.reduceDiv, reduceIte, reduceCtorEq, d1, d2]
        refine c_dec (fun g => ?_) (fun g => ?_)
        · have hf0 : f = 0 := by omega
          subst hf0
          have h5 : (10, m) = (E, M) := by rw [← h4]; exact (if_pos ⟨hlt, hen⟩).symm
          cases h5
          simp (maxSteps := 2000000) (disch := omega) only [go_sem, Nat.reduceAdd, Nat.reduceSub, Nat.reduceMul, Nat.reduceBEq, Nat.reduceEqDiff, Nat.reduceLT, Nat.reduceLeDiff, Nat.reduceDiv, reduceIte, reduceCtorEq]
          all_goals exact leCs_refl _
        · obtain ⟨f, rfl⟩ : ∃ f', f = f' + 1 := ⟨f - 1, by omega⟩
          have hpc : m.pc.toNat < code.length := by omega
          have hmay := chk_all hc hpc
          unfold runM at h4
          rw [if_pos ⟨hlt, hen⟩] at h4
          obtain ⟨op, arg⟩ : Int × Int := (0, 0)
          generalize hx : gi code m.pc.toNat = x at h4 hmay
          clear op arg
          obtain ⟨op, arg⟩ := x
          simp only at h4 hmay
          obtain ⟨ho, ha1, ha2, ha16, ha18, ha20⟩ := mayP_arg hmay
          have hlen : (incM m).sk.length ≤ 1000 := by have := h2.len; show m.sk.length ≤ 1000; omega
          have okI : okL (incM m) := ⟨h2.sk, h2.cells, h2.fr0, h2.fr1⟩
          have bA : B32 (popV (incM m)) := popV_B okI.sk
          have bB : B32 (popV (popM (incM m))) := popV_B okI.pop.sk
          simp (maxSteps := 2000000) (disch := omega) only [go_sem, Nat.reduceAdd, Nat.reduceSub, Nat.reduceMul, Nat.reduceBEq, Nat.reduceEqDiff, Nat.reduceLT, Nat.reduceLeDiff, Nat.reduceDiv, reduceIte, reduceCtorEq]
          refine a_drawC (⟨[V.cell (.ptr (.arg 0) 0), .undef, .undef, V.cell (.ptr (.loc [3]) 0), .undef, V.cell (.ptr (.loc [5]) 0), V.int .i64 ((f + 1 : Nat) : Int), V.cell (.ptr (.loc [7]) 0), .undef, .undef, .undef, .undef, .undef, .undef, .undef, .undef, .undef, .undef, .undef, .undef, .undef, .undef, .undef, .undef, .undef, .undef, .undef, .undef, .undef, .undef, .undef, .undef, .undef, .undef, .undef, .undef, .undef, .undef, .undef, .undef, .undef, .undef, .undef, .undef, .undef, .undef, .undef, .undef, .undef, .undef, .undef, .undef, .undef, .undef, .undef, .undef, .undef], (.loc [7], [.val (.int .i64 op), .val (.int .i64 arg)]) :: (.loc [5], doeI) :: (.loc [3], [.lst .no none 2 (ins code), .val (.int .i64 cap), .val (.int .i64 fuel)]) :: (.arg 0, mB (.arg 0) (m)) :: doeHI⟩) (.take 0 (.take 2 (.take 3 (.take 4 (.both [(1, .both [(5, .take 6 (.both [(7, .both [(8, .both [(9, .done)])]), (8, .both [(7, .both [(9, .done)])])])), (8, .both [(5, .take 6 (.both [(7, .both [(9, .done)])]))])]), (5, .both [(1, .take 6 (.both [(7, .both [(8, .both [(9, .done)])]), (8, .both [(7, .both [(9, .done)])])])), (8, .both [(1, .take 6 (.both [(7, .both [(9, .done)])]))])]), (8, .both [(1, .both [(5, .take 6 (.both [(7, .both [(9, .done)])]))]), (5, .both [(1, .take 6 (.both [(7, .both [(9, .done)])]))])])]))))) (by kernel_rfl) (by kernel_rfl) ?_ ?_
          · simp (maxSteps := 2000000) (disch := omega) only [go_sem, Nat.reduceAdd, Nat.reduceSub, Nat.reduceMul, Nat.reduceBEq, Nat.reduceEqDiff, Nat.reduceLT, Nat.reduceLeDiff, Nat.reduceDiv, reduceIte, reduceCtorEq, Int.reduceLT, Int.reduceLE, Int.reduceEq, Int.reduceNe, Int.reduceAdd, Int.reduceSub, Int.reduceMul, Int.reduceNeg, Int.reduceDiv, Int.reduceMod, Int.reduceTMod, Int.reduceTDiv, Int.reduceFDiv, Int.reducePow, Int.reduceToNat, U64n, BitVec.reduceOfInt, BitVec.reduceAnd, BitVec.reduceToNat, bits_u64, bits_i64]
            all_goals simp [hx]
          · simp (maxSteps := 2000000) (disch := omega) only [go_sem, Nat.reduceAdd, Nat.reduceSub, Nat.reduceMul, Nat.reduceBEq, Nat.reduceEqDiff, Nat.reduceLT, Nat.reduceLeDiff, Nat.reduceDiv, reduceIte, reduceCtorEq, Int.reduceLT, Int.reduceLE, Int.reduceEq, Int.reduceNe, Int.reduceAdd, Int.reduceSub, Int.reduceMul, Int.reduceNeg, Int.reduceDiv, Int.reduceMod, Int.reduceTMod, Int.reduceTDiv, Int.reduceFDiv, Int.reducePow, Int.reduceToNat, U64n, BitVec.reduceOfInt, BitVec.reduceAnd, BitVec.reduceToNat, bits_u64, bits_i64]
            refine a_drawC (⟨[V.cell (.ptr (.arg 0) 0), .undef, .undef, V.cell (.ptr (.loc [3]) 0), .undef, V.cell (.ptr (.loc [5]) 0), V.int .i64 ((f + 1 : Nat) : Int), V.cell (.ptr (.loc [7]) 0), .undef, .undef, .undef, .undef, .undef, .undef, .undef, .undef, .undef, .undef, .undef, .undef, .undef, .undef, .undef, .undef, .undef, .undef, .undef, .undef, .undef, .undef, .undef, .undef, .undef, .undef, .undef, .undef, .undef, .undef, .undef, .undef, .undef, .undef, .undef, .undef, .undef, .undef, .undef, .undef, .undef, .undef, .undef, .undef, .undef, .undef, .undef, .undef, .undef], (.loc [7], [.val (.int .i64 op), .val (.int .i64 arg)]) :: (.loc [5], doeI) :: (.loc [3], [.lst .no none 2 (ins code), .val (.int .i64 cap), .val (.int .i64 fuel)]) :: (.arg 0, mB (.arg 0) (doM op arg (incM m))) :: doeHI⟩) (.take 0 (.take 4 (.take 5 (.both [(1, .take 2 (.both [(3, .both [(6, .both [(7, .done)])]), (6, .both [(3, .both [(7, .done)])])])), (6, .both [(1, .take 2 (.both [(3, .both [(7, .done)])]))])])))) (by kernel_rfl) (by kernel_rfl) ?_ ?_
            · simp (maxSteps := 2000000) (disch := omega) only [go_sem, Nat.reduceAdd, Nat.reduceSub, Nat.reduceMul, Nat.reduceBEq, Nat.reduceEqDiff, Nat.reduceLT, Nat.reduceLeDiff, Nat.reduceDiv, reduceIte, reduceCtorEq, Int.reduceLT, Int.reduceLE, Int.reduceEq, Int.reduceNe, Int.reduceAdd, Int.reduceSub, Int.reduceMul, Int.reduceNeg, Int.reduceDiv, Int.reduceMod, Int.reduceTMod, Int.reduceTDiv, Int.reduceFDiv, Int.reducePow, Int.reduceToNat, U64n, BitVec.reduceOfInt, BitVec.reduceAnd, BitVec.reduceToNat, bits_u64, bits_i64]
              have hcase : (∃ k : Nat, doeF (.loc [8, 0, 1, 0, 1]) (.loc [8, 0, 2, 0, 1]) (.loc [8, 0, 3, 0, 1]) (.loc [8, 0, 4, 0, 1]) (.loc [8, 0, 5, 0, 1]) (.loc [8, 0, 6, 0, 1]) (.loc [8, 0, 7, 0, 1]) (.loc [8, 0, 8, 0, 1]) op.toNat = .fn (.func k) [] [] ∧ Holds Try.prog k [.ptr (.arg 0) 0, .int .i64 arg] [(.arg 0, mB (.arg 0) (incM m))] (fun r h' => r = .tup [] ∧ h' = [(.arg 0, mB (.arg 0) (doM op arg (incM m)))])) ∨ (op = 4 ∨ op = 5 ∨ op = 6 ∨ op = 7 ∨ op = 8 ∨ op = 9 ∨ op = 10 ∨ op = 11) := by
                rcases op_cases ho with rfl | rfl | rfl | rfl | rfl | rfl | rfl | rfl | rfl | rfl | rfl | rfl | rfl | rfl | rfl | rfl | rfl | rfl | rfl | rfl | rfl | rfl
                · exact .inl ⟨77, rfl, number_h10 (incM m) hlen arg (ha1 rfl)⟩
                · exact .inl ⟨78, rfl, load_h10 (incM m) hlen arg (ha2 (.inl rfl)).1 (ha2 (.inl rfl)).2⟩
                · exact .inl ⟨79, rfl, store_h10 (incM m) hlen arg (ha2 (.inr rfl)).1 (ha2 (.inr rfl)).2⟩
                · exact .inr (by omega)
                · exact .inr (by omega)
                · exact .inr (by omega)
                · exact .inr (by omega)
                · exact .inr (by omega)
                · exact .inr (by omega)
                · exact .inr (by omega)
                · exact .inr (by omega)
                · exact .inl ⟨89, rfl, not_h10 (incM m) hlen arg⟩
                · exact .inl ⟨90, rfl, dup_h10 (incM m) hlen arg⟩
                · exact .inl ⟨91, rfl, swap_h10 (incM m) hlen arg⟩
                · exact .inl ⟨92, rfl, drop_h10 (incM m) hlen arg⟩
                · exact .inl ⟨93, rfl, input_h10 (incM m) hlen arg (ha16 rfl)⟩
                · exact .inl ⟨94, rfl, frame_h10 (incM m) hlen arg h2.fr0 h2.fr1⟩
                · exact .inl ⟨95, rfl, jump_h10 (incM m) arg⟩
                · exact .inl ⟨96, rfl, zero_h10 (incM m) hlen arg⟩
                · exact .inl ⟨97, rfl, win_h10 (incM m) arg⟩
                · exact .inl ⟨98, rfl, rand_h10 (incM m) hlen arg⟩
                · exact .inl ⟨99, rfl, halt_h10 (incM m) arg⟩
              rcases hcase with ⟨k, hd, ck⟩ | hcase
              · clear stop h4 hx hmay ho ha1 ha2 ha16 ha18 ha20 hlt hpc hen d1 d2 g p0 p1 h3 hR hm hb hf hc hcl h2 h1 hlen okI bA bB
                rw [hd]
                simp (maxSteps := 2000000) (disch := omega) only [go_sem, Nat.reduceAdd, Nat.reduceSub, Nat.reduceMul, Nat.reduceBEq, Nat.reduceEqDiff, Nat.reduceLT, Nat.reduceLeDiff, Nat.reduceDiv, reduceIte, reduceCtorEq, Int.reduceLT, Int.reduceLE, Int.reduceEq, Int.reduceNe, Int.reduceAdd, Int.reduceSub, Int.reduceMul, Int.reduceNeg, Int.reduceDiv, Int.reduceMod, Int.reduceTMod, Int.reduceTDiv, Int.reduceFDiv, Int.reducePow, Int.reduceToNat, U64n, BitVec.reduceOfInt, BitVec.reduceAnd, BitVec.reduceToNat, bits_u64, bits_i64]
                refine a_call [.arg 0] (ck) (ok1 rfl) ?_ ?_ ?_
                · simp (maxSteps := 2000000) (disch := omega) only [go_sem, Nat.reduceAdd, Nat.reduceSub, Nat.reduceMul, Nat.reduceBEq, Nat.reduceEqDiff, Nat.reduceLT, Nat.reduceLeDiff, Nat.reduceDiv, reduceIte, reduceCtorEq]
                · simp (maxSteps := 2000000) (disch := omega) only [go_sem, Nat.reduceAdd, Nat.reduceSub, Nat.reduceMul, Nat.reduceBEq, Nat.reduceEqDiff, Nat.reduceLT, Nat.reduceLeDiff, Nat.reduceDiv, reduceIte, reduceCtorEq]
                rintro _ _ ⟨rfl, rfl⟩
                try simp (maxSteps := 2000000) (disch := omega) only [go_sem, Nat.reduceAdd, Nat.reduceSub, Nat.reduceMul, Nat.reduceBEq, Nat.reduceEqDiff, Nat.reduceLT, Nat.reduceLeDiff, Nat.reduceDiv, reduceIte, reduceCtorEq]
                all_goals exact leCs_refl _
              clear hmay ha1 ha2 ha16 ha18 ha20 ho stop h4 hx hlt hpc hen d1 d2 g p0 p1 h3 hR hm hb hf hc hcl h2 h1
              rcases hcase with rfl | rfl | rfl | rfl | rfl | rfl | rfl | rfl
              · have hd : doeF (.loc [8, 0, 1, 0, 1]) (.loc [8, 0, 2, 0, 1]) (.loc [8, 0, 3, 0, 1]) (.loc [8, 0, 4, 0, 1]) (.loc [8, 0, 5, 0, 1]) (.loc [8, 0, 6, 0, 1]) (.loc [8, 0, 7, 0, 1]) (.loc [8, 0, 8, 0, 1]) (4 : Int).toNat = .fn (.func 103) [] [(.loc [8, 0, 1, 0, 1], 0)] := rfl
                have c4 := two1_h10 (incM m) hlen 81 f4 (add_h _ _ bB bA) arg
                clear hlen okI bA bB
                rw [hd]
                simp (maxSteps := 2000000) (disch := omega) only [go_sem, Nat.reduceAdd, Nat.reduceSub, Nat.reduceMul, Nat.reduceBEq, Nat.reduceEqDiff, Nat.reduceLT, Nat.reduceLeDiff, Nat.reduceDiv, reduceIte, reduceCtorEq, Int.reduceLT, Int.reduceLE, Int.reduceEq, Int.reduceNe, Int.reduceAdd, Int.reduceSub, Int.reduceMul, Int.reduceNeg, Int.reduceDiv, Int.reduceMod, Int.reduceTMod, Int.reduceTDiv, Int.reduceFDiv, Int.reducePow, Int.reduceToNat, U64n, BitVec.reduceOfInt, BitVec.reduceAnd, BitVec.reduceToNat, bits_u64, bits_i64]
                refine a_call [.arg 0, .loc [8, 0, 1, 0, 1]] (c4) (ok2 (by decide) rfl rfl) ?_ ?_ ?_
                · simp (maxSteps := 2000000) (disch := omega) only [go_sem, Nat.reduceAdd, Nat.reduceSub, Nat.reduceMul, Nat.reduceBEq, Nat.reduceEqDiff, Nat.reduceLT, Nat.reduceLeDiff, Nat.reduceDiv, reduceIte, reduceCtorEq]
                · simp (maxSteps := 2000000) (disch := omega) only [go_sem, Nat.reduceAdd, Nat.reduceSub, Nat.reduceMul, Nat.reduceBEq, Nat.reduceEqDiff, Nat.reduceLT, Nat.reduceLeDiff, Nat.reduceDiv, reduceIte, reduceCtorEq]
                rintro _ _ ⟨rfl, rfl⟩
                try simp (maxSteps := 2000000) (disch := omega) only [go_sem, Nat.reduceAdd, Nat.reduceSub, Nat.reduceMul, Nat.reduceBEq, Nat.reduceEqDiff, Nat.reduceLT, Nat.reduceLeDiff, Nat.reduceDiv, reduceIte, reduceCtorEq]
                all_goals exact leCs_refl _
              · have hd : doeF (.loc [8, 0, 1, 0, 1]) (.loc [8, 0, 2, 0, 1]) (.loc [8, 0, 3, 0, 1]) (.loc [8, 0, 4, 0, 1]) (.loc [8, 0, 5, 0, 1]) (.loc [8, 0, 6, 0, 1]) (.loc [8, 0, 7, 0, 1]) (.loc [8, 0, 8, 0, 1]) (5 : Int).toNat = .fn (.func 103) [] [(.loc [8, 0, 2, 0, 1], 0)] := rfl
                have c5 := two1_h10 (incM m) hlen 82 f5 (sub_h _ _ bB bA) arg
                clear hlen okI bA bB
                rw [hd]
                simp (maxSteps := 2000000) (disch := omega) only [go_sem, Nat.reduceAdd, Nat.reduceSub, Nat.reduceMul, Nat.reduceBEq, Nat.reduceEqDiff, Nat.reduceLT, Nat.reduceLeDiff, Nat.reduceDiv, reduceIte, reduceCtorEq, Int.reduceLT, Int.reduceLE, Int.reduceEq, Int.reduceNe, Int.reduceAdd, Int.reduceSub, Int.reduceMul, Int.reduceNeg, Int.reduceDiv, Int.reduceMod, Int.reduceTMod, Int.reduceTDiv, Int.reduceFDiv, Int.reducePow, Int.reduceToNat, U64n, BitVec.reduceOfInt, BitVec.reduceAnd, BitVec.reduceToNat, bits_u64, bits_i64]
                refine a_call [.arg 0, .loc [8, 0, 2, 0, 1]] (c5) (ok2 (by decide) rfl rfl) ?_ ?_ ?_
                · simp (maxSteps := 2000000) (disch := omega) only [go_sem, Nat.reduceAdd, Nat.reduceSub, Nat.reduceMul, Nat.reduceBEq, Nat.reduceEqDiff, Nat.reduceLT, Nat.reduceLeDiff, Nat.reduceDiv, reduceIte, reduceCtorEq]
                · simp (maxSteps := 2000000) (disch := omega) only [go_sem, Nat.reduceAdd, Nat.reduceSub, Nat.reduceMul, Nat.reduceBEq, Nat.reduceEqDiff, Nat.reduceLT, Nat.reduceLeDiff, Nat.reduceDiv, reduceIte, reduceCtorEq]
                rintro _ _ ⟨rfl, rfl⟩
                try simp (maxSteps := 2000000) (disch := omega) only [go_sem, Nat.reduceAdd, Nat.reduceSub, Nat.reduceMul, Nat.reduceBEq, Nat.reduceEqDiff, Nat.reduceLT, Nat.reduceLeDiff, Nat.reduceDiv, reduceIte, reduceCtorEq]
                all_goals exact leCs_refl _
              · have hd : doeF (.loc [8, 0, 1, 0, 1]) (.loc [8, 0, 2, 0, 1]) (.loc [8, 0, 3, 0, 1]) (.loc [8, 0, 4, 0, 1]) (.loc [8, 0, 5, 0, 1]) (.loc [8, 0, 6, 0, 1]) (.loc [8, 0, 7, 0, 1]) (.loc [8, 0, 8, 0, 1]) (6 : Int).toNat = .fn (.func 103) [] [(.loc [8, 0, 3, 0, 1], 0)] := rfl
                have c6 := two1_h10 (incM m) hlen 83 f6 (mul_h _ _ bB bA) arg
                clear hlen okI bA bB
                rw [hd]
                simp (maxSteps := 2000000) (disch := omega) only [go_sem, Nat.reduceAdd, Nat.reduceSub, Nat.reduceMul, Nat.reduceBEq, Nat.reduceEqDiff, Nat.reduceLT, Nat.reduceLeDiff, Nat.reduceDiv, reduceIte, reduceCtorEq, Int.reduceLT, Int.reduceLE, Int.reduceEq, Int.reduceNe, Int.reduceAdd, Int.reduceSub, Int.reduceMul, Int.reduceNeg, Int.reduceDiv, Int.reduceMod, Int.reduceTMod, Int.reduceTDiv, Int.reduceFDiv, Int.reducePow, Int.reduceToNat, U64n, BitVec.reduceOfInt, BitVec.reduceAnd, BitVec.reduceToNat, bits_u64, bits_i64]
                refine a_call [.arg 0, .loc [8, 0, 3, 0, 1]] (c6) (ok2 (by decide) rfl rfl) ?_ ?_ ?_
                · simp (maxSteps := 2000000) (disch := omega) only [go_sem, Nat.reduceAdd, Nat.reduceSub, Nat.reduceMul, Nat.reduceBEq, Nat.reduceEqDiff, Nat.reduceLT, Nat.reduceLeDiff, Nat.reduceDiv, reduceIte, reduceCtorEq]
                · simp (maxSteps := 2000000) (disch := omega) only [go_sem, Nat.reduceAdd, Nat.reduceSub, Nat.reduceMul, Nat.reduceBEq, Nat.reduceEqDiff, Nat.reduceLT, Nat.reduceLeDiff, Nat.reduceDiv, reduceIte, reduceCtorEq]
                rintro _ _ ⟨rfl, rfl⟩
                try simp (maxSteps := 2000000) (disch := omega) only [go_sem, Nat.reduceAdd, Nat.reduceSub, Nat.reduceMul, Nat.reduceBEq, Nat.reduceEqDiff, Nat.reduceLT, Nat.reduceLeDiff, Nat.reduceDiv, reduceIte, reduceCtorEq]
                all_goals exact leCs_refl _
              · have hd : doeF (.loc [8, 0, 1, 0, 1]) (.loc [8, 0, 2, 0, 1]) (.loc [8, 0, 3, 0, 1]) (.loc [8, 0, 4, 0, 1]) (.loc [8, 0, 5, 0, 1]) (.loc [8, 0, 6, 0, 1]) (.loc [8, 0, 7, 0, 1]) (.loc [8, 0, 8, 0, 1]) (7 : Int).toNat = .fn (.func 103) [] [(.loc [8, 0, 4, 0, 1], 0)] := rfl
                have c7 := two1_h10 (incM m) hlen 84 f7 (div_h _ _ bB bA) arg
                clear hlen okI bA bB
                rw [hd]
                simp (maxSteps := 2000000) (disch := omega) only [go_sem, Nat.reduceAdd, Nat.reduceSub, Nat.reduceMul, Nat.reduceBEq, Nat.reduceEqDiff, Nat.reduceLT, Nat.reduceLeDiff, Nat.reduceDiv, reduceIte, reduceCtorEq, Int.reduceLT, Int.reduceLE, Int.reduceEq, Int.reduceNe, Int.reduceAdd, Int.reduceSub, Int.reduceMul, Int.reduceNeg, Int.reduceDiv, Int.reduceMod, Int.reduceTMod, Int.reduceTDiv, Int.reduceFDiv, Int.reducePow, Int.reduceToNat, U64n, BitVec.reduceOfInt, BitVec.reduceAnd, BitVec.reduceToNat, bits_u64, bits_i64]
                refine a_call [.arg 0, .loc [8, 0, 4, 0, 1]] (c7) (ok2 (by decide) rfl rfl) ?_ ?_ ?_
                · simp (maxSteps := 2000000) (disch := omega) only [go_sem, Nat.reduceAdd, Nat.reduceSub, Nat.reduceMul, Nat.reduceBEq, Nat.reduceEqDiff, Nat.reduceLT, Nat.reduceLeDiff, Nat.reduceDiv, reduceIte, reduceCtorEq]
                · simp (maxSteps := 2000000) (disch := omega) only [go_sem, Nat.reduceAdd, Nat.reduceSub, Nat.reduceMul, Nat.reduceBEq, Nat.reduceEqDiff, Nat.reduceLT, Nat.reduceLeDiff, Nat.reduceDiv, reduceIte, reduceCtorEq]
                rintro _ _ ⟨rfl, rfl⟩
                try simp (maxSteps := 2000000) (disch := omega) only [go_sem, Nat.reduceAdd, Nat.reduceSub, Nat.reduceMul, Nat.reduceBEq, Nat.reduceEqDiff, Nat.reduceLT, Nat.reduceLeDiff, Nat.reduceDiv, reduceIte, reduceCtorEq]
                all_goals exact leCs_refl _
              · have hd : doeF (.loc [8, 0, 1, 0, 1]) (.loc [8, 0, 2, 0, 1]) (.loc [8, 0, 3, 0, 1]) (.loc [8, 0, 4, 0, 1]) (.loc [8, 0, 5, 0, 1]) (.loc [8, 0, 6, 0, 1]) (.loc [8, 0, 7, 0, 1]) (.loc [8, 0, 8, 0, 1]) (8 : Int).toNat = .fn (.func 103) [] [(.loc [8, 0, 5, 0, 1], 0)] := rfl
                have c8 := two1_h10 (incM m) hlen 85 f8 (least_h _ _) arg
                clear hlen okI bA bB
                rw [hd]
                simp (maxSteps := 2000000) (disch := omega) only [go_sem, Nat.reduceAdd, Nat.reduceSub, Nat.reduceMul, Nat.reduceBEq, Nat.reduceEqDiff, Nat.reduceLT, Nat.reduceLeDiff, Nat.reduceDiv, reduceIte, reduceCtorEq, Int.reduceLT, Int.reduceLE, Int.reduceEq, Int.reduceNe, Int.reduceAdd, Int.reduceSub, Int.reduceMul, Int.reduceNeg, Int.reduceDiv, Int.reduceMod, Int.reduceTMod, Int.reduceTDiv, Int.reduceFDiv, Int.reducePow, Int.reduceToNat, U64n, BitVec.reduceOfInt, BitVec.reduceAnd, BitVec.reduceToNat, bits_u64, bits_i64]
                refine a_call [.arg 0, .loc [8, 0, 5, 0, 1]] (c8) (ok2 (by decide) rfl rfl) ?_ ?_ ?_
                · simp (maxSteps := 2000000) (disch := omega) only [go_sem, Nat.reduceAdd, Nat.reduceSub, Nat.reduceMul, Nat.reduceBEq, Nat.reduceEqDiff, Nat.reduceLT, Nat.reduceLeDiff, Nat.reduceDiv, reduceIte, reduceCtorEq]
                · simp (maxSteps := 2000000) (disch := omega) only [go_sem, Nat.reduceAdd, Nat.reduceSub, Nat.reduceMul, Nat.reduceBEq, Nat.reduceEqDiff, Nat.reduceLT, Nat.reduceLeDiff, Nat.reduceDiv, reduceIte, reduceCtorEq]
                rintro _ _ ⟨rfl, rfl⟩
                try simp (maxSteps := 2000000) (disch := omega) only [go_sem, Nat.reduceAdd, Nat.reduceSub, Nat.reduceMul, Nat.reduceBEq, Nat.reduceEqDiff, Nat.reduceLT, Nat.reduceLeDiff, Nat.reduceDiv, reduceIte, reduceCtorEq]
                all_goals exact leCs_refl _
              · have hd : doeF (.loc [8, 0, 1, 0, 1]) (.loc [8, 0, 2, 0, 1]) (.loc [8, 0, 3, 0, 1]) (.loc [8, 0, 4, 0, 1]) (.loc [8, 0, 5, 0, 1]) (.loc [8, 0, 6, 0, 1]) (.loc [8, 0, 7, 0, 1]) (.loc [8, 0, 8, 0, 1]) (9 : Int).toNat = .fn (.func 103) [] [(.loc [8, 0, 6, 0, 1], 0)] := rfl
                have c9 := two1_h10 (incM m) hlen 86 f9 (greatest_h _ _) arg
                clear hlen okI bA bB
                rw [hd]
                simp (maxSteps := 2000000) (disch := omega) only [go_sem, Nat.reduceAdd, Nat.reduceSub, Nat.reduceMul, Nat.reduceBEq, Nat.reduceEqDiff, Nat.reduceLT, Nat.reduceLeDiff, Nat.reduceDiv, reduceIte, reduceCtorEq, Int.reduceLT, Int.reduceLE, Int.reduceEq, Int.reduceNe, Int.reduceAdd, Int.reduceSub, Int.reduceMul, Int.reduceNeg, Int.reduceDiv, Int.reduceMod, Int.reduceTMod, Int.reduceTDiv, Int.reduceFDiv, Int.reducePow, Int.reduceToNat, U64n, BitVec.reduceOfInt, BitVec.reduceAnd, BitVec.reduceToNat, bits_u64, bits_i64]
                refine a_call [.arg 0, .loc [8, 0, 6, 0, 1]] (c9) (ok2 (by decide) rfl rfl) ?_ ?_ ?_
                · simp (maxSteps := 2000000) (disch := omega) only [go_sem, Nat.reduceAdd, Nat.reduceSub, Nat.reduceMul, Nat.reduceBEq, Nat.reduceEqDiff, Nat.reduceLT, Nat.reduceLeDiff, Nat.reduceDiv, reduceIte, reduceCtorEq]
                · simp (maxSteps := 2000000) (disch := omega) only [go_sem, Nat.reduceAdd, Nat.reduceSub, Nat.reduceMul, Nat.reduceBEq, Nat.reduceEqDiff, Nat.reduceLT, Nat.reduceLeDiff, Nat.reduceDiv, reduceIte, reduceCtorEq]
                rintro _ _ ⟨rfl, rfl⟩
                try simp (maxSteps := 2000000) (disch := omega) only [go_sem, Nat.reduceAdd, Nat.reduceSub, Nat.reduceMul, Nat.reduceBEq, Nat.reduceEqDiff, Nat.reduceLT, Nat.reduceLeDiff, Nat.reduceDiv, reduceIte, reduceCtorEq]
                all_goals exact leCs_refl _
              · have hd : doeF (.loc [8, 0, 1, 0, 1]) (.loc [8, 0, 2, 0, 1]) (.loc [8, 0, 3, 0, 1]) (.loc [8, 0, 4, 0, 1]) (.loc [8, 0, 5, 0, 1]) (.loc [8, 0, 6, 0, 1]) (.loc [8, 0, 7, 0, 1]) (.loc [8, 0, 8, 0, 1]) (10 : Int).toNat = .fn (.func 103) [] [(.loc [8, 0, 7, 0, 1], 0)] := rfl
                have c10 := two1_h10 (incM m) hlen 87 f10 (less_h _ _) arg
                clear hlen okI bA bB
                rw [hd]
                simp (maxSteps := 2000000) (disch := omega) only [go_sem, Nat.reduceAdd, Nat.reduceSub, Nat.reduceMul, Nat.reduceBEq, Nat.reduceEqDiff, Nat.reduceLT, Nat.reduceLeDiff, Nat.reduceDiv, reduceIte, reduceCtorEq, Int.reduceLT, Int.reduceLE, Int.reduceEq, Int.reduceNe, Int.reduceAdd, Int.reduceSub, Int.reduceMul, Int.reduceNeg, Int.reduceDiv, Int.reduceMod, Int.reduceTMod, Int.reduceTDiv, Int.reduceFDiv, Int.reducePow, Int.reduceToNat, U64n, BitVec.reduceOfInt, BitVec.reduceAnd, BitVec.reduceToNat, bits_u64, bits_i64]
                refine a_call [.arg 0, .loc [8, 0, 7, 0, 1]] (c10) (ok2 (by decide) rfl rfl) ?_ ?_ ?_
                · simp (maxSteps := 2000000) (disch := omega) only [go_sem, Nat.reduceAdd, Nat.reduceSub, Nat.reduceMul, Nat.reduceBEq, Nat.reduceEqDiff, Nat.reduceLT, Nat.reduceLeDiff, Nat.reduceDiv, reduceIte, reduceCtorEq]
                · simp (maxSteps := 2000000) (disch := omega) only [go_sem, Nat.reduceAdd, Nat.reduceSub, Nat.reduceMul, Nat.reduceBEq, Nat.reduceEqDiff, Nat.reduceLT, Nat.reduceLeDiff, Nat.reduceDiv, reduceIte, reduceCtorEq]
                rintro _ _ ⟨rfl, rfl⟩
                try simp (maxSteps := 2000000) (disch := omega) only [go_sem, Nat.reduceAdd, Nat.reduceSub, Nat.reduceMul, Nat.reduceBEq, Nat.reduceEqDiff, Nat.reduceLT, Nat.reduceLeDiff, Nat.reduceDiv, reduceIte, reduceCtorEq]
                all_goals exact leCs_refl _
              · have hd : doeF (.loc [8, 0, 1, 0, 1]) (.loc [8, 0, 2, 0, 1]) (.loc [8, 0, 3, 0, 1]) (.loc [8, 0, 4, 0, 1]) (.loc [8, 0, 5, 0, 1]) (.loc [8, 0, 6, 0, 1]) (.loc [8, 0, 7, 0, 1]) (.loc [8, 0, 8, 0, 1]) (11 : Int).toNat = .fn (.func 103) [] [(.loc [8, 0, 8, 0, 1], 0)] := rfl
                have c11 := two1_h10 (incM m) hlen 88 f11 (same10_h _ _) arg
                clear hlen okI bA bB
                rw [hd]
                simp (maxSteps := 2000000) (disch := omega) only [go_sem, Nat.reduceAdd, Nat.reduceSub, Nat.reduceMul, Nat.reduceBEq, Nat.reduceEqDiff, Nat.reduceLT, Nat.reduceLeDiff, Nat.reduceDiv, reduceIte, reduceCtorEq, Int.reduceLT, Int.reduceLE, Int.reduceEq, Int.reduceNe, Int.reduceAdd, Int.reduceSub, Int.reduceMul, Int.reduceNeg, Int.reduceDiv, Int.reduceMod, Int.reduceTMod, Int.reduceTDiv, Int.reduceFDiv, Int.reducePow, Int.reduceToNat, U64n, BitVec.reduceOfInt, BitVec.reduceAnd, BitVec.reduceToNat, bits_u64, bits_i64]
                refine a_call [.arg 0, .loc [8, 0, 8, 0, 1]] (c11) (ok2 (by decide) rfl rfl) ?_ ?_ ?_
                · simp (maxSteps := 2000000) (disch := omega) only [go_sem, Nat.reduceAdd, Nat.reduceSub, Nat.reduceMul, Nat.reduceBEq, Nat.reduceEqDiff, Nat.reduceLT, Nat.reduceLeDiff, Nat.reduceDiv, reduceIte, reduceCtorEq]
                · simp (maxSteps := 2000000) (disch := omega) only [go_sem, Nat.reduceAdd, Nat.reduceSub, Nat.reduceMul, Nat.reduceBEq, Nat.reduceEqDiff, Nat.reduceLT, Nat.reduceLeDiff, Nat.reduceDiv, reduceIte, reduceCtorEq]
                rintro _ _ ⟨rfl, rfl⟩
                try simp (maxSteps := 2000000) (disch := omega) only [go_sem, Nat.reduceAdd, Nat.reduceSub, Nat.reduceMul, Nat.reduceBEq, Nat.reduceEqDiff, Nat.reduceLT, Nat.reduceLeDiff, Nat.reduceDiv, reduceIte, reduceCtorEq]
                all_goals exact leCs_refl _
            · simp (maxSteps := 2000000) (disch := omega) only [go_sem, Nat.reduceAdd, Nat.reduceSub, Nat.reduceMul, Nat.reduceBEq, Nat.reduceEqDiff, Nat.reduceLT, Nat.reduceLeDiff, Nat.reduceDiv, reduceIte, reduceCtorEq, Int.reduceLT, Int.reduceLE, Int.reduceEq, Int.reduceNe, Int.reduceAdd, Int.reduceSub, Int.reduceMul, Int.reduceNeg, Int.reduceDiv, Int.reduceMod, Int.reduceTMod, Int.reduceTDiv, Int.reduceFDiv, Int.reducePow, Int.reduceToNat, U64n, BitVec.reduceOfInt, BitVec.reduceAnd, BitVec.reduceToNat, bits_u64, bits_i64]
              cases d3 : (doM op arg (incM m)).bad
              · rw [if_neg (by rw [d3]; simp)] at h4
                simp (maxSteps := 2000000) (disch := omega) only [go_sem, Nat.reduceAdd, Nat.reduceSub, Nat.reduceMul, Nat.reduceBEq, Nat.reduceEqDiff, Nat.reduceLT, Nat.reduceLeDiff, Nat.reduceDiv, reduceIte, reduceCtorEq, d3]
                refine ⟨(f, doM op arg (incM m)), by simp, ⟨by simp; omega, ?_, d3, h4⟩, ?_⟩
                · have hpcs := doM_pc (n := code.length) (m := incM m) (by show 0 ≤ m.pc + 1; omega) (by show m.pc + 1 ≤ _; omega) h2.len hmay d3
                  have hlow := doM_low okI hmay
                  exact ⟨hpcs.1, hpcs.2.1, hpcs.2.2, hlow.sk, hlow.cells, hlow.fr0, hlow.fr1⟩
                · try simp (maxSteps := 2000000) (disch := omega) only [go_sem, Nat.reduceAdd, Nat.reduceSub, Nat.reduceMul, Nat.reduceBEq, Nat.reduceEqDiff, Nat.reduceLT, Nat.reduceLeDiff, Nat.reduceDiv, reduceIte, reduceCtorEq]
                  all_goals first | exact leCs_refl _ | (congr 1; omega)
              · rw [if_pos d3] at h4
                cases h4
                simp (maxSteps := 2000000) (disch := omega) only [go_sem, Nat.reduceAdd, Nat.reduceSub, Nat.reduceMul, Nat.reduceBEq, Nat.reduceEqDiff, Nat.reduceLT, Nat.reduceLeDiff, Nat.reduceDiv, reduceIte, reduceCtorEq, d3]
                all_goals exact leCs_refl _
end Go.Proofs.Ytamcjecgkfmjkaa

/- Chapter 10: the cells of the other machine (written by genbox.py) -/
open Go Go.RowKit
namespace Go.Proofs.Ytamcjecgkfmjkaa
set_option linter.unusedSimpArgs false
set_option linter.unusedVariables false
set_option maxRecDepth 20000
def rmC (s : Sta) (i0 : UInt16) (i1 : UInt16) (sk : C) (atP : Int) (won : Int) (bad : Bool) : List C := ((sd s).map D.toC ++ [.val (.int .u16 (U16 i0)), .val (.int .u16 (U16 i1)), sk, .val (.int .i64 atP), .val (.int .i64 won), .val (.bool bad)])
section
variable {s : Sta} {i0 : UInt16} {i1 : UInt16} {sk : C} {atP : Int} {won : Int} {bad : Bool} {V' : V → Prop} {K : C → Prop} {ks : List Id} {m : Nat}
@[go_sem] theorem rm_l : (rmC s i0 i1 sk atP won bad).length = 26 := by
  unfold rmC
  simp only [List.length_append, List.length_map, sd_len, List.length_cons, List.length_nil]
@[go_sem] theorem rm_k {bi : Id → Bool} {bt : Tag → Bool} : (rmC s i0 i1 sk atP won bad).map (C.clean bi bt) = (rmC s i0 i1 (C.clean bi bt sk) atP won bad) := by
  unfold rmC
  simp only [List.map_append, List.map_cons, List.map_nil, go_sem]
@[go_sem] theorem rm_r  : (rmC s i0 i1 sk atP won bad).map (C.ren ks m) = (rmC s i0 i1 (C.ren ks m sk) atP won bad) := by
  unfold rmC
  simp only [List.map_append, List.map_cons, List.map_nil, go_sem]
@[go_sem] theorem rm_t {ta tb : Tag} : (rmC s i0 i1 sk atP won bad).map (C.retag ta tb) = (rmC s i0 i1 (C.retag ta tb sk) atP won bad) := by
  unfold rmC
  simp only [List.map_append, List.map_cons, List.map_nil, go_sem]
@[go_sem] theorem rm_n : (rmC s i0 i1 sk atP won bad).all known = (known sk) := by
  unfold rmC
  simp only [List.all_append, List.all_cons, List.all_nil, go_sem, Bool.true_and, Bool.and_true, Bool.and_assoc]
theorem rm_gs_frame : (rmC s i0 i1 sk atP won bad)[0]? = some (.val (.int .i64 s.frame)) := by
  unfold rmC
  first | exact get_frame | (rw [List.getElem?_append_left (by rw [sdC_len]; omega)]; exact get_frame)
@[go_sem ↓ 1300] theorem rm_ms_frame : (∃ c, (rmC s i0 i1 sk atP won bad)[0]? = some c ∧ K c) = K (.val (.int .i64 s.frame)) := ex_some rm_gs_frame
theorem rm_gs_seed : (rmC s i0 i1 sk atP won bad)[17]? = some (.val (.int .u32 (U32 s.seed))) := by
  unfold rmC
  first | exact get_seed | (rw [List.getElem?_append_left (by rw [sdC_len]; omega)]; exact get_seed)
@[go_sem ↓ 1300] theorem rm_ms_seed : (∃ c, (rmC s i0 i1 sk atP won bad)[17]? = some c ∧ K c) = K (.val (.int .u32 (U32 s.seed))) := ex_some rm_gs_seed
theorem rm_gs_over : (rmC s i0 i1 sk atP won bad)[18]? = some (.val (.bool s.over)) := by
  unfold rmC
  first | exact get_over | (rw [List.getElem?_append_left (by rw [sdC_len]; omega)]; exact get_over)
@[go_sem ↓ 1300] theorem rm_ms_over : (∃ c, (rmC s i0 i1 sk atP won bad)[18]? = some c ∧ K c) = K (.val (.bool s.over)) := ex_some rm_gs_over
theorem rm_gs_win : (rmC s i0 i1 sk atP won bad)[19]? = some (.val (.int .i64 s.win)) := by
  unfold rmC
  first | exact get_win | (rw [List.getElem?_append_left (by rw [sdC_len]; omega)]; exact get_win)
@[go_sem ↓ 1300] theorem rm_ms_win : (∃ c, (rmC s i0 i1 sk atP won bad)[19]? = some c ∧ K c) = K (.val (.int .i64 s.win)) := ex_some rm_gs_win
@[go_sem 1300] theorem rm_as : ((rmC s i0 i1 sk atP won bad).drop 0).take 20 = (sd s).map D.toC := by
  unfold rmC
  show List.take 20 ((sd s).map D.toC ++ _) = _
  rw [List.take_left' sdC_len]
@[go_sem ↓ 1300] theorem rm_ps : aPt (some true) 20 (rmC s i0 i1 sk atP won bad) 0 V' = V' (.w (.agg ((sd s).map D.toC))) := by
  simp only [aPt, rm_l, rm_as, Nat.reduceAdd, Nat.reduceLeDiff, true_and]
@[go_sem ↓ 1300] theorem rm_m_i0 : (∃ c, (rmC s i0 i1 sk atP won bad)[20]? = some c ∧ K c) = K (.val (.int .u16 (U16 i0))) := ex_some (by
  unfold rmC
  rw [List.getElem?_append_right (by first | simp only [List.length_cons, List.length_nil, List.length_map, sd_len]; omega | simp [sd_len])]
  simp only [List.length_cons, List.length_nil, List.length_map, sd_len, Nat.reduceAdd, Nat.reduceSub]
  first | rfl | (rw [List.getElem?_append_left (by simp)]; rfl))
@[go_sem ↓ 1300] theorem rm_m_i1 : (∃ c, (rmC s i0 i1 sk atP won bad)[21]? = some c ∧ K c) = K (.val (.int .u16 (U16 i1))) := ex_some (by
  unfold rmC
  rw [List.getElem?_append_right (by first | simp only [List.length_cons, List.length_nil, List.length_map, sd_len]; omega | simp [sd_len])]
  simp only [List.length_cons, List.length_nil, List.length_map, sd_len, Nat.reduceAdd, Nat.reduceSub]
  first | rfl | (rw [List.getElem?_append_left (by simp)]; rfl))
@[go_sem ↓ 1300] theorem rm_m_sk : (∃ c, (rmC s i0 i1 sk atP won bad)[22]? = some c ∧ K c) = K (sk) := ex_some (by
  unfold rmC
  rw [List.getElem?_append_right (by first | simp only [List.length_cons, List.length_nil, List.length_map, sd_len]; omega | simp [sd_len])]
  simp only [List.length_cons, List.length_nil, List.length_map, sd_len, Nat.reduceAdd, Nat.reduceSub]
  first | rfl | (rw [List.getElem?_append_left (by simp)]; rfl))
@[go_sem ↓ 1300] theorem rm_m_atP : (∃ c, (rmC s i0 i1 sk atP won bad)[23]? = some c ∧ K c) = K (.val (.int .i64 atP)) := ex_some (by
  unfold rmC
  rw [List.getElem?_append_right (by first | simp only [List.length_cons, List.length_nil, List.length_map, sd_len]; omega | simp [sd_len])]
  simp only [List.length_cons, List.length_nil, List.length_map, sd_len, Nat.reduceAdd, Nat.reduceSub]
  first | rfl | (rw [List.getElem?_append_left (by simp)]; rfl))
@[go_sem ↓ 1300] theorem rm_m_won : (∃ c, (rmC s i0 i1 sk atP won bad)[24]? = some c ∧ K c) = K (.val (.int .i64 won)) := ex_some (by
  unfold rmC
  rw [List.getElem?_append_right (by first | simp only [List.length_cons, List.length_nil, List.length_map, sd_len]; omega | simp [sd_len])]
  simp only [List.length_cons, List.length_nil, List.length_map, sd_len, Nat.reduceAdd, Nat.reduceSub]
  first | rfl | (rw [List.getElem?_append_left (by simp)]; rfl))
@[go_sem ↓ 1300] theorem rm_m_bad : (∃ c, (rmC s i0 i1 sk atP won bad)[25]? = some c ∧ K c) = K (.val (.bool bad)) := ex_some (by
  unfold rmC
  rw [List.getElem?_append_right (by first | simp only [List.length_cons, List.length_nil, List.length_map, sd_len]; omega | simp [sd_len])]
  simp only [List.length_cons, List.length_nil, List.length_map, sd_len, Nat.reduceAdd, Nat.reduceSub]
  first | rfl | (rw [List.getElem?_append_left (by simp)]; rfl))
@[go_sem 1300] theorem rm_d20_2 : ((rmC s i0 i1 sk atP won bad).drop 20).take 2 = [.val (.int .u16 (U16 i0)), .val (.int .u16 (U16 i1))] := by
    first
      | rfl
      | (unfold rmC
         rw [show (20 : Nat) = ((sd s).map D.toC).length + 0 from by rw [sdC_len], List.drop_append, List.drop_eq_nil_of_le (by omega), Nat.add_sub_cancel_left]
         rfl)
@[go_sem ↓ 1300] theorem rm_p20_2 : aPt (some true) 2 (rmC s i0 i1 sk atP won bad) 20 V' = V' (.w (.agg [.val (.int .u16 (U16 i0)), .val (.int .u16 (U16 i1))])) := by
  simp only [aPt, rm_l, rm_d20_2, Nat.reduceAdd, Nat.reduceLeDiff, true_and]
@[go_sem 1300] theorem rm_ss_frame {x : Int} : spl (rmC s i0 i1 sk atP won bad) 0 [.val (.int .i64 x)] = (rmC (s.wFrame x) i0 i1 sk atP won bad) := by
  unfold rmC
  rw [spl_appL (by simp only [List.length_cons, List.length_nil, sdC_len]; omega), spl_frame]
@[go_sem 1300] theorem rm_us_frame {x : Int} : (rmC s i0 i1 sk atP won bad).set 0 (.val (.int .i64 x)) = (rmC (s.wFrame x) i0 i1 sk atP won bad) := show spl (rmC s i0 i1 sk atP won bad) 0 [.val (.int .i64 x)] = _ from rm_ss_frame
@[go_sem 1300] theorem rm_ss_seed {x : UInt32} : spl (rmC s i0 i1 sk atP won bad) 17 [.val (.int .u32 (U32 x))] = (rmC (s.wSeed x) i0 i1 sk atP won bad) := by
  unfold rmC
  rw [spl_appL (by simp only [List.length_cons, List.length_nil, sdC_len]; omega), spl_seed]
@[go_sem 1300] theorem rm_us_seed {x : UInt32} : (rmC s i0 i1 sk atP won bad).set 17 (.val (.int .u32 (U32 x))) = (rmC (s.wSeed x) i0 i1 sk atP won bad) := show spl (rmC s i0 i1 sk atP won bad) 17 [.val (.int .u32 (U32 x))] = _ from rm_ss_seed
@[go_sem 1300] theorem rm_ss_over {x : Bool} : spl (rmC s i0 i1 sk atP won bad) 18 [.val (.bool x)] = (rmC (s.wOver x) i0 i1 sk atP won bad) := by
  unfold rmC
  rw [spl_appL (by simp only [List.length_cons, List.length_nil, sdC_len]; omega), spl_over]
@[go_sem 1300] theorem rm_us_over {x : Bool} : (rmC s i0 i1 sk atP won bad).set 18 (.val (.bool x)) = (rmC (s.wOver x) i0 i1 sk atP won bad) := show spl (rmC s i0 i1 sk atP won bad) 18 [.val (.bool x)] = _ from rm_ss_over
@[go_sem 1300] theorem rm_ss_win {x : Int} : spl (rmC s i0 i1 sk atP won bad) 19 [.val (.int .i64 x)] = (rmC (s.wWin x) i0 i1 sk atP won bad) := by
  unfold rmC
  rw [spl_appL (by simp only [List.length_cons, List.length_nil, sdC_len]; omega), spl_win]
@[go_sem 1300] theorem rm_us_win {x : Int} : (rmC s i0 i1 sk atP won bad).set 19 (.val (.int .i64 x)) = (rmC (s.wWin x) i0 i1 sk atP won bad) := show spl (rmC s i0 i1 sk atP won bad) 19 [.val (.int .i64 x)] = _ from rm_ss_win
@[go_sem 1300] theorem rm_ss {x : Sta} : spl (rmC s i0 i1 sk atP won bad) 0 ((sd x).map D.toC) = (rmC (x) i0 i1 sk atP won bad) := by
  unfold rmC
  rw [spl_appL (by simp only [sdC_len]; omega), spl_all (by simp only [sdC_len])]
@[go_sem 1300] theorem rm_s_i0 {x : UInt16} : spl (rmC s i0 i1 sk atP won bad) 20 [.val (.int .u16 (U16 x))] = (rmC s (x) i1 sk atP won bad) := by
  unfold rmC
  rw [show (20 : Nat) = ((sd s).map D.toC).length + 0 from by first | rfl | rw [sdC_len], spl_appR (by simp only [List.length_append, List.length_cons, List.length_nil, sdC_len]; omega)]
  rfl
@[go_sem 1300] theorem rm_u_i0 {x : UInt16} : (rmC s i0 i1 sk atP won bad).set 20 (.val (.int .u16 (U16 x))) = (rmC s (x) i1 sk atP won bad) := show spl (rmC s i0 i1 sk atP won bad) 20 [.val (.int .u16 (U16 x))] = _ from rm_s_i0
@[go_sem 1300] theorem rm_s_i1 {x : UInt16} : spl (rmC s i0 i1 sk atP won bad) 21 [.val (.int .u16 (U16 x))] = (rmC s i0 (x) sk atP won bad) := by
  unfold rmC
  rw [show (21 : Nat) = ((sd s).map D.toC).length + 1 from by first | rfl | rw [sdC_len], spl_appR (by simp only [List.length_append, List.length_cons, List.length_nil, sdC_len]; omega)]
  rfl
@[go_sem 1300] theorem rm_u_i1 {x : UInt16} : (rmC s i0 i1 sk atP won bad).set 21 (.val (.int .u16 (U16 x))) = (rmC s i0 (x) sk atP won bad) := show spl (rmC s i0 i1 sk atP won bad) 21 [.val (.int .u16 (U16 x))] = _ from rm_s_i1
@[go_sem 1300] theorem rm_s_sk {x : C} : spl (rmC s i0 i1 sk atP won bad) 22 [x] = (rmC s i0 i1 (x) atP won bad) := by
  unfold rmC
  rw [show (22 : Nat) = ((sd s).map D.toC).length + 2 from by first | rfl | rw [sdC_len], spl_appR (by simp only [List.length_append, List.length_cons, List.length_nil, sdC_len]; omega)]
  rfl
@[go_sem 1300] theorem rm_u_sk {x : C} : (rmC s i0 i1 sk atP won bad).set 22 (x) = (rmC s i0 i1 (x) atP won bad) := show spl (rmC s i0 i1 sk atP won bad) 22 [x] = _ from rm_s_sk
@[go_sem 1300] theorem rm_s_atP {x : Int} : spl (rmC s i0 i1 sk atP won bad) 23 [.val (.int .i64 x)] = (rmC s i0 i1 sk (x) won bad) := by
  unfold rmC
  rw [show (23 : Nat) = ((sd s).map D.toC).length + 3 from by first | rfl | rw [sdC_len], spl_appR (by simp only [List.length_append, List.length_cons, List.length_nil, sdC_len]; omega)]
  rfl
@[go_sem 1300] theorem rm_u_atP {x : Int} : (rmC s i0 i1 sk atP won bad).set 23 (.val (.int .i64 x)) = (rmC s i0 i1 sk (x) won bad) := show spl (rmC s i0 i1 sk atP won bad) 23 [.val (.int .i64 x)] = _ from rm_s_atP
@[go_sem 1300] theorem rm_s_won {x : Int} : spl (rmC s i0 i1 sk atP won bad) 24 [.val (.int .i64 x)] = (rmC s i0 i1 sk atP (x) bad) := by
  unfold rmC
  rw [show (24 : Nat) = ((sd s).map D.toC).length + 4 from by first | rfl | rw [sdC_len], spl_appR (by simp only [List.length_append, List.length_cons, List.length_nil, sdC_len]; omega)]
  rfl
@[go_sem 1300] theorem rm_u_won {x : Int} : (rmC s i0 i1 sk atP won bad).set 24 (.val (.int .i64 x)) = (rmC s i0 i1 sk atP (x) bad) := show spl (rmC s i0 i1 sk atP won bad) 24 [.val (.int .i64 x)] = _ from rm_s_won
@[go_sem 1300] theorem rm_s_bad {x : Bool} : spl (rmC s i0 i1 sk atP won bad) 25 [.val (.bool x)] = (rmC s i0 i1 sk atP won (x)) := by
  unfold rmC
  rw [show (25 : Nat) = ((sd s).map D.toC).length + 5 from by first | rfl | rw [sdC_len], spl_appR (by simp only [List.length_append, List.length_cons, List.length_nil, sdC_len]; omega)]
  rfl
@[go_sem 1300] theorem rm_u_bad {x : Bool} : (rmC s i0 i1 sk atP won bad).set 25 (.val (.bool x)) = (rmC s i0 i1 sk atP won (x)) := show spl (rmC s i0 i1 sk atP won bad) 25 [.val (.bool x)] = _ from rm_s_bad
@[go_sem 1300] theorem rm_w20_2 {y0 : UInt16} {y1 : UInt16} : spl (rmC s i0 i1 sk atP won bad) 20 [.val (.int .u16 (U16 y0)), .val (.int .u16 (U16 y1))] = (rmC s y0 y1 sk atP won bad) := by
  first
    | rfl
    | (unfold rmC
       rw [show (20 : Nat) = ((sd s).map D.toC).length + 0 from by rw [sdC_len], spl_appR (by simp only [List.length_cons, List.length_nil]; omega)]
       rfl)
@[go_sem ↓] theorem rm_w {l : List V} {hp : Heap} {i : Id} {off : Nat} {cs : List C} : St.stow ⟨l, hp⟩ i off cs (rmC s i0 i1 sk atP won bad) = ⟨l, hset hp i (spl cs off (rmC s i0 i1 (C.clean (fun _ => false) (fun _ => true) sk) atP won bad))⟩ := by
  rw [stow_big (by rw [rm_l]; omega), rm_k]
@[go_sem ↓ 1300] theorem rm_p : aPt (some true) 26 (rmC s i0 i1 sk atP won bad) 0 V' = V' (.w (.agg (rmC s i0 i1 sk atP won bad))) := by
  have e : ((rmC s i0 i1 sk atP won bad).drop 0).take 26 = (rmC s i0 i1 sk atP won bad) := by rw [List.drop_zero, List.take_of_length_le (by rw [rm_l]; omega)]
  simp only [aPt, rm_l, e, Nat.reduceAdd, Nat.reduceLeDiff, true_and]
theorem rm_le {s' : Sta} {i0' : UInt16} {i1' : UInt16} {sk' : C} {atP' : Int} {won' : Int} {bad' : Bool} (h : s = s' ∧ i0 = i0' ∧ i1 = i1' ∧ leC sk sk' ∧ atP = atP' ∧ won = won' ∧ bad = bad') : leCs (rmC s i0 i1 sk atP won bad) (rmC s' i0' i1' sk' atP' won' bad') := by
  obtain ⟨h0, h1, h2, h3, h4, h5, h6⟩ := h
  subst h0
  subst h1
  subst h2
  subst h4
  subst h5
  subst h6
  unfold rmC
  try simp only [List.cons_append, List.nil_append, List.append_assoc]
  exact (leCs_app (leCs_refl _) ⟨leC_refl _, ⟨leC_refl _, ⟨h3, ⟨leC_refl _, ⟨leC_refl _, ⟨leC_refl _, trivial⟩⟩⟩⟩⟩⟩)
@[go_sem ↓ 1300] theorem rm_ler : leCs (rmC s i0 i1 sk atP won bad) (rmC s i0 i1 sk atP won bad) = True := eq_true (leCs_refl _)
end
end Go.Proofs.Ytamcjecgkfmjkaa

/- Chapter 10: the other machine: its numbers taken and laid, its instructions. (written by gen10d.py) -/
open Go Go.RowKit
namespace Go.Proofs.Ytamcjecgkfmjkaa
set_option linter.unusedSimpArgs false
set_option linter.unusedVariables false
structure Rac where
  st : Sta
  i0 : UInt16
  i1 : UInt16
  sk : List Int
  pc : Int
  won : Int
  bad : Bool
abbrev rB (i : Id) (m : Rac) : List C := rmC m.st m.i0 m.i1 (.stk (.cell i 22) 1 (c32 m.sk)) m.pc m.won m.bad
section
variable {s : Sta} {i0 i1 : UInt16} {sk : C} {atP won : Int} {bad : Bool} {K : C → Prop}
theorem rm_gcell {k : Nat} (h : k < 16) : (rmC s i0 i1 sk atP won bad)[k + 1]? = some (.val (.int .i32 (s.cells.getD k 0))) := by
  unfold rmC
  rw [List.getElem?_append_left (by rw [sdC_len]; omega)]
  exact get_cells h
@[go_sem ↓ 1300] theorem rm_mcell {k : Nat} (h : k < 16) : (∃ c, (rmC s i0 i1 sk atP won bad)[1 + k]? = some c ∧ K c) = K (.val (.int .i32 (s.cells.getD k 0))) := by
  rw [Nat.add_comm]; exact ex_some (rm_gcell h)
@[go_sem ↓ 1300] theorem rm_mcell' {k : Nat} (h : k < 16) : (∃ c, (rmC s i0 i1 sk atP won bad)[1 + k * 1]? = some c ∧ K c) = K (.val (.int .i32 (s.cells.getD k 0))) := by
  rw [Nat.mul_one]; exact rm_mcell h
theorem rm_scell0 {k : Nat} {x : Int} (h : k < 16) : spl (rmC s i0 i1 sk atP won bad) (k + 1) [.val (.int .i32 x)] = rmC (s.wCells k x) i0 i1 sk atP won bad := by
  unfold rmC
  rw [spl_appL (by rw [sdC_len]; simp; omega), spl_cells h]
@[go_sem 1300] theorem rm_scell {k : Nat} {x : Int} (h : k < 16) : (rmC s i0 i1 sk atP won bad).set (1 + k) (.val (.int .i32 x)) = rmC (s.wCells k x) i0 i1 sk atP won bad := by
  rw [Nat.add_comm]; exact rm_scell0 h
@[go_sem 1300] theorem rm_scell' {k : Nat} {x : Int} (h : k < 16) : (rmC s i0 i1 sk atP won bad).set (1 + k * 1) (.val (.int .i32 x)) = rmC (s.wCells k x) i0 i1 sk atP won bad := by
  rw [Nat.mul_one]; exact rm_scell h
end
def rpopV (m : Rac) : Int := m.sk.getD (m.sk.length - 1) 0
def rpopM (m : Rac) : Rac := ⟨m.st, m.i0, m.i1, m.sk.take (m.sk.length - 1), m.pc, m.won, m.bad || decide (m.sk.length = 0)⟩
def rpushM (m : Rac) (x : Int) : Rac := if 32 ≤ m.sk.length then ⟨m.st, m.i0, m.i1, m.sk, m.pc, m.won, true⟩ else ⟨m.st, m.i0, m.i1, m.sk ++ [x], m.pc, m.won, m.bad⟩
theorem rpush_len (m : Rac) (x : Int) : (rpushM m x).sk.length ≤ m.sk.length + 1 := by unfold rpushM; split <;> simp
theorem rpop_h (m : Rac) (hl : m.sk.length ≤ 100000) : Holds Try.prog 68 [.ptr (.arg 0) 0] [(.arg 0, rB (.arg 0) m)] (fun r h' => r = .int .i32 (rpopV m) ∧ h' = [(.arg 0, rB (.arg 0) (rpopM m))]) := by
  obtain ⟨st, i0, i1, sk, pc, won, bad⟩ := m
  simp only at hl
  refine holds_of_awp Try.func68 rfl (by decide +kernel) mixed Try.ntmps68 Try.results68 ?_
  simp only [entrySt, List.map_cons, List.map_nil, List.length_cons, List.length_nil, Nat.reduceAdd, Nat.reduceSub, List.replicate_succ, List.replicate_zero, List.cons_append, List.nil_append]
  simp (maxSteps := 2000000) (disch := omega) only [go_sem, Nat.reduceAdd, Nat.reduceSub, Nat.reduceMul, Nat.reduceBEq, Nat.reduceEqDiff, Nat.reduceLT, Nat.reduceLeDiff, Nat.reduceDiv, reduceIte, reduceCtorEq, Int.reduceLT, Int.reduceLE, Int.reduceEq, Int.reduceNe, Int.reduceAdd, Int.reduceSub, Int.reduceMul, Int.reduceNeg, Int.reduceDiv, Int.reduceMod, Int.reduceTMod, Int.reduceTDiv, Int.reduceFDiv, Int.reducePow, Int.reduceToNat, U64n, BitVec.reduceOfInt, BitVec.reduceAnd, BitVec.reduceToNat, bits_u64, bits_i64]
  refine c_dec (fun h => ?_) (fun h => ?_)
  · have h0 : sk = [] := List.eq_nil_of_length_eq_zero (by omega)
    subst h0
    simp only [rpopV, rpopM, List.length_nil, List.take_nil, List.getD_nil, decide_true, Bool.or_true]
    simp (maxSteps := 2000000) (disch := omega) only [go_sem, Nat.reduceAdd, Nat.reduceSub, Nat.reduceMul, Nat.reduceBEq, Nat.reduceEqDiff, Nat.reduceLT, Nat.reduceLeDiff, Nat.reduceDiv, reduceIte, reduceCtorEq, Int.reduceLT, Int.reduceLE, Int.reduceEq, Int.reduceNe, Int.reduceAdd, Int.reduceSub, Int.reduceMul, Int.reduceNeg, Int.reduceDiv, Int.reduceMod, Int.reduceTMod, Int.reduceTDiv, Int.reduceFDiv, Int.reducePow, Int.reduceToNat, U64n, BitVec.reduceOfInt, BitVec.reduceAnd, BitVec.reduceToNat, bits_u64, bits_i64]
    exact leCs_refl _
  · have e1 : ((sk.length : Int) - 1).toNat = sk.length - 1 := by omega
    have e2 : rpopM ⟨st, i0, i1, sk, pc, won, bad⟩ = ⟨st, i0, i1, sk.take (sk.length - 1), pc, won, bad⟩ := by
      unfold rpopM
      rw [decide_eq_false (show ¬ sk.length = 0 by omega), Bool.or_false]
    rw [e2]
    simp only [rpopV]
    simp (maxSteps := 2000000) (disch := omega) only [go_sem, Nat.reduceAdd, Nat.reduceSub, Nat.reduceMul, Nat.reduceBEq, Nat.reduceEqDiff, Nat.reduceLT, Nat.reduceLeDiff, Nat.reduceDiv, reduceIte, reduceCtorEq, e1]
    omega
theorem rpush_h (m : Rac) (x : Int) (hl : m.sk.length ≤ 100000) : Holds Try.prog 67 [.ptr (.arg 0) 0, .int .i32 x] [(.arg 0, rB (.arg 0) m)] (fun r h' => r = .tup [] ∧ h' = [(.arg 0, rB (.arg 0) (rpushM m x))]) := by
  obtain ⟨st, i0, i1, sk, pc, won, bad⟩ := m
  simp only at hl
  refine holds_of_awp Try.func67 rfl (by decide +kernel) mixed Try.ntmps67 Try.results67 ?_
  simp only [entrySt, List.map_cons, List.map_nil, List.length_cons, List.length_nil, Nat.reduceAdd, Nat.reduceSub, List.replicate_succ, List.replicate_zero, List.cons_append, List.nil_append]
  simp (maxSteps := 2000000) (disch := omega) only [go_sem, Nat.reduceAdd, Nat.reduceSub, Nat.reduceMul, Nat.reduceBEq, Nat.reduceEqDiff, Nat.reduceLT, Nat.reduceLeDiff, Nat.reduceDiv, reduceIte, reduceCtorEq, Int.reduceLT, Int.reduceLE, Int.reduceEq, Int.reduceNe, Int.reduceAdd, Int.reduceSub, Int.reduceMul, Int.reduceNeg, Int.reduceDiv, Int.reduceMod, Int.reduceTMod, Int.reduceTDiv, Int.reduceFDiv, Int.reducePow, Int.reduceToNat, U64n, BitVec.reduceOfInt, BitVec.reduceAnd, BitVec.reduceToNat, bits_u64, bits_i64]
  refine c_dec (fun h => ?_) (fun h => ?_)
  · have e : rpushM ⟨st, i0, i1, sk, pc, won, bad⟩ x = ⟨st, i0, i1, sk, pc, won, true⟩ := by unfold rpushM; exact if_pos (by simp only; omega)
    rw [e]
    simp (maxSteps := 2000000) (disch := omega) only [go_sem, Nat.reduceAdd, Nat.reduceSub, Nat.reduceMul, Nat.reduceBEq, Nat.reduceEqDiff, Nat.reduceLT, Nat.reduceLeDiff, Nat.reduceDiv, reduceIte, reduceCtorEq, Int.reduceLT, Int.reduceLE, Int.reduceEq, Int.reduceNe, Int.reduceAdd, Int.reduceSub, Int.reduceMul, Int.reduceNeg, Int.reduceDiv, Int.reduceMod, Int.reduceTMod, Int.reduceTDiv, Int.reduceFDiv, Int.reducePow, Int.reduceToNat, U64n, BitVec.reduceOfInt, BitVec.reduceAnd, BitVec.reduceToNat, bits_u64, bits_i64]
  · have e : rpushM ⟨st, i0, i1, sk, pc, won, bad⟩ x = ⟨st, i0, i1, sk ++ [x], pc, won, bad⟩ := by unfold rpushM; exact if_neg (by simp only; omega)
    rw [e]
    simp (maxSteps := 2000000) (disch := omega) only [go_sem, Nat.reduceAdd, Nat.reduceSub, Nat.reduceMul, Nat.reduceBEq, Nat.reduceEqDiff, Nat.reduceLT, Nat.reduceLeDiff, Nat.reduceDiv, reduceIte, reduceCtorEq, Int.reduceLT, Int.reduceLE, Int.reduceEq, Int.reduceNe, Int.reduceAdd, Int.reduceSub, Int.reduceMul, Int.reduceNeg, Int.reduceDiv, Int.reduceMod, Int.reduceTMod, Int.reduceTDiv, Int.reduceFDiv, Int.reducePow, Int.reduceToNat, U64n, BitVec.reduceOfInt, BitVec.reduceAnd, BitVec.reduceToNat, bits_u64, bits_i64]
    omega
theorem rtruth_h (b : Bool) : Holds Try.prog 69 [.c (.val (.bool b))] [] (fun r h' => r = .int .i32 (truthV b) ∧ h' = []) := by
  refine holds_of_awp Try.func69 rfl (by decide +kernel) mixed Try.ntmps69 Try.results69 ?_
  simp only [entrySt, List.map_cons, List.map_nil, List.length_cons, List.length_nil, Nat.reduceAdd, Nat.reduceSub, List.replicate_succ, List.replicate_zero, List.cons_append, List.nil_append]
  cases b
  · simp (maxSteps := 2000000) (disch := omega) only [go_sem, Nat.reduceAdd, Nat.reduceSub, Nat.reduceMul, Nat.reduceBEq, Nat.reduceEqDiff, Nat.reduceLT, Nat.reduceLeDiff, Nat.reduceDiv, reduceIte, reduceCtorEq, Int.reduceLT, Int.reduceLE, Int.reduceEq, Int.reduceNe, Int.reduceAdd, Int.reduceSub, Int.reduceMul, Int.reduceNeg, Int.reduceDiv, Int.reduceMod, Int.reduceTMod, Int.reduceTDiv, Int.reduceFDiv, Int.reducePow, Int.reduceToNat, U64n, BitVec.reduceOfInt, BitVec.reduceAnd, BitVec.reduceToNat, bits_u64, bits_i64]
    rfl
  · simp (maxSteps := 2000000) (disch := omega) only [go_sem, Nat.reduceAdd, Nat.reduceSub, Nat.reduceMul, Nat.reduceBEq, Nat.reduceEqDiff, Nat.reduceLT, Nat.reduceLeDiff, Nat.reduceDiv, reduceIte, reduceCtorEq, Int.reduceLT, Int.reduceLE, Int.reduceEq, Int.reduceNe, Int.reduceAdd, Int.reduceSub, Int.reduceMul, Int.reduceNeg, Int.reduceDiv, Int.reduceMod, Int.reduceTMod, Int.reduceTDiv, Int.reduceFDiv, Int.reducePow, Int.reduceToNat, U64n, BitVec.reduceOfInt, BitVec.reduceAnd, BitVec.reduceToNat, bits_u64, bits_i64]
    rfl
@[go_sem ↓ 1160] theorem e_and16 {a : UInt32} {V' : V → Prop} : aInt .and .u32 (U32 a) .u32 65535 V' = V' (.int .u32 (rndV a)) := by
  rw [e_and]
  refine congrArg (fun z => V' (.int .u32 z)) ?_
  unfold rndV U32
  have ha := a.toNat_lt
  have e : BitVec.ofInt IntKind.u32.bits ((a.toNat : Nat) : Int) &&& BitVec.ofInt IntKind.u32.bits 65535 = BitVec.ofNat 32 (a.toNat % 65536) := by
    show BitVec.ofInt 32 _ &&& BitVec.ofInt 32 _ = _
    apply BitVec.eq_of_toNat_eq
    rw [BitVec.toNat_and, BitVec.ofInt_natCast, show (65535 : Int) = ((65535 : Nat) : Int) by rfl, BitVec.ofInt_natCast, BitVec.toNat_ofNat, BitVec.toNat_ofNat, BitVec.toNat_ofNat]
    rw [Nat.mod_eq_of_lt (show a.toNat < 2 ^ 32 by omega), Nat.mod_eq_of_lt (show 65535 < 2 ^ 32 by omega), show 65535 = 2 ^ 16 - 1 by rfl, Nat.and_two_pow_sub_one_eq_mod]
    omega
  rw [e]
  show IntKind.u32.wrap ((BitVec.ofNat 32 (a.toNat % 65536)).toNat : Int) = _
  rw [BitVec.toNat_ofNat]
  simp only [IntKind.wrap, IntKind.bits, IntKind.signed]
  simp
  omega

def takesP (op : Int) : Nat := if op = 3 ∨ op = 12 ∨ op = 13 ∨ op = 15 ∨ op = 19 then 1 else if op = 4 ∨ op = 5 ∨ op = 6 ∨ op = 7 ∨ op = 8 ∨ op = 9 ∨ op = 10 ∨ op = 11 ∨ op = 14 then 2 else 0
theorem takes1_h : Holds Try.prog 66 [.int .i64 1] [] (fun r h' => r = .int .i64 0 ∧ h' = []) := by
  refine holds_of_awp Try.func66 rfl (by decide +kernel) mixed Try.ntmps66 Try.results66 ?_
  simp only [entrySt, List.map_cons, List.map_nil, List.length_cons, List.length_nil, Nat.reduceAdd, Nat.reduceSub, List.replicate_succ, List.replicate_zero, List.cons_append, List.nil_append]
  simp (maxSteps := 2000000) (disch := omega) only [go_sem, Nat.reduceAdd, Nat.reduceSub, Nat.reduceMul, Nat.reduceBEq, Nat.reduceEqDiff, Nat.reduceLT, Nat.reduceLeDiff, Nat.reduceDiv, reduceIte, reduceCtorEq, Int.reduceLT, Int.reduceLE, Int.reduceEq, Int.reduceNe, Int.reduceAdd, Int.reduceSub, Int.reduceMul, Int.reduceNeg, Int.reduceDiv, Int.reduceMod, Int.reduceTMod, Int.reduceTDiv, Int.reduceFDiv, Int.reducePow, Int.reduceToNat, U64n, BitVec.reduceOfInt, BitVec.reduceAnd, BitVec.reduceToNat, bits_u64, bits_i64]
theorem takes2_h : Holds Try.prog 66 [.int .i64 2] [] (fun r h' => r = .int .i64 0 ∧ h' = []) := by
  refine holds_of_awp Try.func66 rfl (by decide +kernel) mixed Try.ntmps66 Try.results66 ?_
  simp only [entrySt, List.map_cons, List.map_nil, List.length_cons, List.length_nil, Nat.reduceAdd, Nat.reduceSub, List.replicate_succ, List.replicate_zero, List.cons_append, List.nil_append]
  simp (maxSteps := 2000000) (disch := omega) only [go_sem, Nat.reduceAdd, Nat.reduceSub, Nat.reduceMul, Nat.reduceBEq, Nat.reduceEqDiff, Nat.reduceLT, Nat.reduceLeDiff, Nat.reduceDiv, reduceIte, reduceCtorEq, Int.reduceLT, Int.reduceLE, Int.reduceEq, Int.reduceNe, Int.reduceAdd, Int.reduceSub, Int.reduceMul, Int.reduceNeg, Int.reduceDiv, Int.reduceMod, Int.reduceTMod, Int.reduceTDiv, Int.reduceFDiv, Int.reducePow, Int.reduceToNat, U64n, BitVec.reduceOfInt, BitVec.reduceAnd, BitVec.reduceToNat, bits_u64, bits_i64]
theorem takes3_h : Holds Try.prog 66 [.int .i64 3] [] (fun r h' => r = .int .i64 1 ∧ h' = []) := by
  refine holds_of_awp Try.func66 rfl (by decide +kernel) mixed Try.ntmps66 Try.results66 ?_
  simp only [entrySt, List.map_cons, List.map_nil, List.length_cons, List.length_nil, Nat.reduceAdd, Nat.reduceSub, List.replicate_succ, List.replicate_zero, List.cons_append, List.nil_append]
  simp (maxSteps := 2000000) (disch := omega) only [go_sem, Nat.reduceAdd, Nat.reduceSub, Nat.reduceMul, Nat.reduceBEq, Nat.reduceEqDiff, Nat.reduceLT, Nat.reduceLeDiff, Nat.reduceDiv, reduceIte, reduceCtorEq, Int.reduceLT, Int.reduceLE, Int.reduceEq, Int.reduceNe, Int.reduceAdd, Int.reduceSub, Int.reduceMul, Int.reduceNeg, Int.reduceDiv, Int.reduceMod, Int.reduceTMod, Int.reduceTDiv, Int.reduceFDiv, Int.reducePow, Int.reduceToNat, U64n, BitVec.reduceOfInt, BitVec.reduceAnd, BitVec.reduceToNat, bits_u64, bits_i64]
theorem takes4_h : Holds Try.prog 66 [.int .i64 4] [] (fun r h' => r = .int .i64 2 ∧ h' = []) := by
  refine holds_of_awp Try.func66 rfl (by decide +kernel) mixed Try.ntmps66 Try.results66 ?_
  simp only [entrySt, List.map_cons, List.map_nil, List.length_cons, List.length_nil, Nat.reduceAdd, Nat.reduceSub, List.replicate_succ, List.replicate_zero, List.cons_append, List.nil_append]
  simp (maxSteps := 2000000) (disch := omega) only [go_sem, Nat.reduceAdd, Nat.reduceSub, Nat.reduceMul, Nat.reduceBEq, Nat.reduceEqDiff, Nat.reduceLT, Nat.reduceLeDiff, Nat.reduceDiv, reduceIte, reduceCtorEq, Int.reduceLT, Int.reduceLE, Int.reduceEq, Int.reduceNe, Int.reduceAdd, Int.reduceSub, Int.reduceMul, Int.reduceNeg, Int.reduceDiv, Int.reduceMod, Int.reduceTMod, Int.reduceTDiv, Int.reduceFDiv, Int.reducePow, Int.reduceToNat, U64n, BitVec.reduceOfInt, BitVec.reduceAnd, BitVec.reduceToNat, bits_u64, bits_i64]
theorem takes5_h : Holds Try.prog 66 [.int .i64 5] [] (fun r h' => r = .int .i64 2 ∧ h' = []) := by
  refine holds_of_awp Try.func66 rfl (by decide +kernel) mixed Try.ntmps66 Try.results66 ?_
  simp only [entrySt, List.map_cons, List.map_nil, List.length_cons, List.length_nil, Nat.reduceAdd, Nat.reduceSub, List.replicate_succ, List.replicate_zero, List.cons_append, List.nil_append]
  simp (maxSteps := 2000000) (disch := omega) only [go_sem, Nat.reduceAdd, Nat.reduceSub, Nat.reduceMul, Nat.reduceBEq, Nat.reduceEqDiff, Nat.reduceLT, Nat.reduceLeDiff, Nat.reduceDiv, reduceIte, reduceCtorEq, Int.reduceLT, Int.reduceLE, Int.reduceEq, Int.reduceNe, Int.reduceAdd, Int.reduceSub, Int.reduceMul, Int.reduceNeg, Int.reduceDiv, Int.reduceMod, Int.reduceTMod, Int.reduceTDiv, Int.reduceFDiv, Int.reducePow, Int.reduceToNat, U64n, BitVec.reduceOfInt, BitVec.reduceAnd, BitVec.reduceToNat, bits_u64, bits_i64]
theorem takes6_h : Holds Try.prog 66 [.int .i64 6] [] (fun r h' => r = .int .i64 2 ∧ h' = []) := by
  refine holds_of_awp Try.func66 rfl (by decide +kernel) mixed Try.ntmps66 Try.results66 ?_
  simp only [entrySt, List.map_cons, List.map_nil, List.length_cons, List.length_nil, Nat.reduceAdd, Nat.reduceSub, List.replicate_succ, List.replicate_zero, List.cons_append, List.nil_append]
  simp (maxSteps := 2000000) (disch := omega) only [go_sem, Nat.reduceAdd, Nat.reduceSub, Nat.reduceMul, Nat.reduceBEq, Nat.reduceEqDiff, Nat.reduceLT, Nat.reduceLeDiff, Nat.reduceDiv, reduceIte, reduceCtorEq, Int.reduceLT, Int.reduceLE, Int.reduceEq, Int.reduceNe, Int.reduceAdd, Int.reduceSub, Int.reduceMul, Int.reduceNeg, Int.reduceDiv, Int.reduceMod, Int.reduceTMod, Int.reduceTDiv, Int.reduceFDiv, Int.reducePow, Int.reduceToNat, U64n, BitVec.reduceOfInt, BitVec.reduceAnd, BitVec.reduceToNat, bits_u64, bits_i64]
theorem takes7_h : Holds Try.prog 66 [.int .i64 7] [] (fun r h' => r = .int .i64 2 ∧ h' = []) := by
  refine holds_of_awp Try.func66 rfl (by decide +kernel) mixed Try.ntmps66 Try.results66 ?_
  simp only [entrySt, List.map_cons, List.map_nil, List.length_cons, List.length_nil, Nat.reduceAdd, Nat.reduceSub, List.replicate_succ, List.replicate_zero, List.cons_append, List.nil_append]
  simp (maxSteps := 2000000) (disch := omega) only [go_sem, Nat.reduceAdd, Nat.reduceSub, Nat.reduceMul, Nat.reduceBEq, Nat.reduceEqDiff, Nat.reduceLT, Nat.reduceLeDiff, Nat.reduceDiv, reduceIte, reduceCtorEq, Int.reduceLT, Int.reduceLE, Int.reduceEq, Int.reduceNe, Int.reduceAdd, Int.reduceSub, Int.reduceMul, Int.reduceNeg, Int.reduceDiv, Int.reduceMod, Int.reduceTMod, Int.reduceTDiv, Int.reduceFDiv, Int.reducePow, Int.reduceToNat, U64n, BitVec.reduceOfInt, BitVec.reduceAnd, BitVec.reduceToNat, bits_u64, bits_i64]
theorem takes8_h : Holds Try.prog 66 [.int .i64 8] [] (fun r h' => r = .int .i64 2 ∧ h' = []) := by
  refine holds_of_awp Try.func66 rfl (by decide +kernel) mixed Try.ntmps66 Try.results66 ?_
  simp only [entrySt, List.map_cons, List.map_nil, List.length_cons, List.length_nil, Nat.reduceAdd, Nat.reduceSub, List.replicate_succ, List.replicate_zero, List.cons_append, List.nil_append]
  simp (maxSteps := 2000000) (disch := omega) only [go_sem, Nat.reduceAdd, Nat.reduceSub, Nat.reduceMul, Nat.reduceBEq, Nat.reduceEqDiff, Nat.reduceLT, Nat.reduceLeDiff, Nat.reduceDiv, reduceIte, reduceCtorEq, Int.reduceLT, Int.reduceLE, Int.reduceEq, Int.reduceNe, Int.reduceAdd, Int.reduceSub, Int.reduceMul, Int.reduceNeg, Int.reduceDiv, Int.reduceMod, Int.reduceTMod, Int.reduceTDiv, Int.reduceFDiv, Int.reducePow, Int.reduceToNat, U64n, BitVec.reduceOfInt, BitVec.reduceAnd, BitVec.reduceToNat, bits_u64, bits_i64]
theorem takes9_h : Holds Try.prog 66 [.int .i64 9] [] (fun r h' => r = .int .i64 2 ∧ h' = []) := by
  refine holds_of_awp Try.func66 rfl (by decide +kernel) mixed Try.ntmps66 Try.results66 ?_
  simp only [entrySt, List.map_cons, List.map_nil, List.length_cons, List.length_nil, Nat.reduceAdd, Nat.reduceSub, List.replicate_succ, List.replicate_zero, List.cons_append, List.nil_append]
  simp (maxSteps := 2000000) (disch := omega) only [go_sem, Nat.reduceAdd, Nat.reduceSub, Nat.reduceMul, Nat.reduceBEq, Nat.reduceEqDiff, Nat.reduceLT, Nat.reduceLeDiff, Nat.reduceDiv, reduceIte, reduceCtorEq, Int.reduceLT, Int.reduceLE, Int.reduceEq, Int.reduceNe, Int.reduceAdd, Int.reduceSub, Int.reduceMul, Int.reduceNeg, Int.reduceDiv, Int.reduceMod, Int.reduceTMod, Int.reduceTDiv, Int.reduceFDiv, Int.reducePow, Int.reduceToNat, U64n, BitVec.reduceOfInt, BitVec.reduceAnd, BitVec.reduceToNat, bits_u64, bits_i64]
theorem takes10_h : Holds Try.prog 66 [.int .i64 10] [] (fun r h' => r = .int .i64 2 ∧ h' = []) := by
  refine holds_of_awp Try.func66 rfl (by decide +kernel) mixed Try.ntmps66 Try.results66 ?_
  simp only [entrySt, List.map_cons, List.map_nil, List.length_cons, List.length_nil, Nat.reduceAdd, Nat.reduceSub, List.replicate_succ, List.replicate_zero, List.cons_append, List.nil_append]
  simp (maxSteps := 2000000) (disch := omega) only [go_sem, Nat.reduceAdd, Nat.reduceSub, Nat.reduceMul, Nat.reduceBEq, Nat.reduceEqDiff, Nat.reduceLT, Nat.reduceLeDiff, Nat.reduceDiv, reduceIte, reduceCtorEq, Int.reduceLT, Int.reduceLE, Int.reduceEq, Int.reduceNe, Int.reduceAdd, Int.reduceSub, Int.reduceMul, Int.reduceNeg, Int.reduceDiv, Int.reduceMod, Int.reduceTMod, Int.reduceTDiv, Int.reduceFDiv, Int.reducePow, Int.reduceToNat, U64n, BitVec.reduceOfInt, BitVec.reduceAnd, BitVec.reduceToNat, bits_u64, bits_i64]
theorem takes11_h : Holds Try.prog 66 [.int .i64 11] [] (fun r h' => r = .int .i64 2 ∧ h' = []) := by
  refine holds_of_awp Try.func66 rfl (by decide +kernel) mixed Try.ntmps66 Try.results66 ?_
  simp only [entrySt, List.map_cons, List.map_nil, List.length_cons, List.length_nil, Nat.reduceAdd, Nat.reduceSub, List.replicate_succ, List.replicate_zero, List.cons_append, List.nil_append]
  simp (maxSteps := 2000000) (disch := omega) only [go_sem, Nat.reduceAdd, Nat.reduceSub, Nat.reduceMul, Nat.reduceBEq, Nat.reduceEqDiff, Nat.reduceLT, Nat.reduceLeDiff, Nat.reduceDiv, reduceIte, reduceCtorEq, Int.reduceLT, Int.reduceLE, Int.reduceEq, Int.reduceNe, Int.reduceAdd, Int.reduceSub, Int.reduceMul, Int.reduceNeg, Int.reduceDiv, Int.reduceMod, Int.reduceTMod, Int.reduceTDiv, Int.reduceFDiv, Int.reducePow, Int.reduceToNat, U64n, BitVec.reduceOfInt, BitVec.reduceAnd, BitVec.reduceToNat, bits_u64, bits_i64]
theorem takes12_h : Holds Try.prog 66 [.int .i64 12] [] (fun r h' => r = .int .i64 1 ∧ h' = []) := by
  refine holds_of_awp Try.func66 rfl (by decide +kernel) mixed Try.ntmps66 Try.results66 ?_
  simp only [entrySt, List.map_cons, List.map_nil, List.length_cons, List.length_nil, Nat.reduceAdd, Nat.reduceSub, List.replicate_succ, List.replicate_zero, List.cons_append, List.nil_append]
  simp (maxSteps := 2000000) (disch := omega) only [go_sem, Nat.reduceAdd, Nat.reduceSub, Nat.reduceMul, Nat.reduceBEq, Nat.reduceEqDiff, Nat.reduceLT, Nat.reduceLeDiff, Nat.reduceDiv, reduceIte, reduceCtorEq, Int.reduceLT, Int.reduceLE, Int.reduceEq, Int.reduceNe, Int.reduceAdd, Int.reduceSub, Int.reduceMul, Int.reduceNeg, Int.reduceDiv, Int.reduceMod, Int.reduceTMod, Int.reduceTDiv, Int.reduceFDiv, Int.reducePow, Int.reduceToNat, U64n, BitVec.reduceOfInt, BitVec.reduceAnd, BitVec.reduceToNat, bits_u64, bits_i64]
theorem takes13_h : Holds Try.prog 66 [.int .i64 13] [] (fun r h' => r = .int .i64 1 ∧ h' = []) := by
  refine holds_of_awp Try.func66 rfl (by decide +kernel) mixed Try.ntmps66 Try.results66 ?_
  simp only [entrySt, List.map_cons, List.map_nil, List.length_cons, List.length_nil, Nat.reduceAdd, Nat.reduceSub, List.replicate_succ, List.replicate_zero, List.cons_append, List.nil_append]
  simp (maxSteps := 2000000) (disch := omega) only [go_sem, Nat.reduceAdd, Nat.reduceSub, Nat.reduceMul, Nat.reduceBEq, Nat.reduceEqDiff, Nat.reduceLT, Nat.reduceLeDiff, Nat.reduceDiv, reduceIte, reduceCtorEq, Int.reduceLT, Int.reduceLE, Int.reduceEq, Int.reduceNe, Int.reduceAdd, Int.reduceSub, Int.reduceMul, Int.reduceNeg, Int.reduceDiv, Int.reduceMod, Int.reduceTMod, Int.reduceTDiv, Int.reduceFDiv, Int.reducePow, Int.reduceToNat, U64n, BitVec.reduceOfInt, BitVec.reduceAnd, BitVec.reduceToNat, bits_u64, bits_i64]
theorem takes14_h : Holds Try.prog 66 [.int .i64 14] [] (fun r h' => r = .int .i64 2 ∧ h' = []) := by
  refine holds_of_awp Try.func66 rfl (by decide +kernel) mixed Try.ntmps66 Try.results66 ?_
  simp only [entrySt, List.map_cons, List.map_nil, List.length_cons, List.length_nil, Nat.reduceAdd, Nat.reduceSub, List.replicate_succ, List.replicate_zero, List.cons_append, List.nil_append]
  simp (maxSteps := 2000000) (disch := omega) only [go_sem, Nat.reduceAdd, Nat.reduceSub, Nat.reduceMul, Nat.reduceBEq, Nat.reduceEqDiff, Nat.reduceLT, Nat.reduceLeDiff, Nat.reduceDiv, reduceIte, reduceCtorEq, Int.reduceLT, Int.reduceLE, Int.reduceEq, Int.reduceNe, Int.reduceAdd, Int.reduceSub, Int.reduceMul, Int.reduceNeg, Int.reduceDiv, Int.reduceMod, Int.reduceTMod, Int.reduceTDiv, Int.reduceFDiv, Int.reducePow, Int.reduceToNat, U64n, BitVec.reduceOfInt, BitVec.reduceAnd, BitVec.reduceToNat, bits_u64, bits_i64]
theorem takes15_h : Holds Try.prog 66 [.int .i64 15] [] (fun r h' => r = .int .i64 1 ∧ h' = []) := by
  refine holds_of_awp Try.func66 rfl (by decide +kernel) mixed Try.ntmps66 Try.results66 ?_
  simp only [entrySt, List.map_cons, List.map_nil, List.length_cons, List.length_nil, Nat.reduceAdd, Nat.reduceSub, List.replicate_succ, List.replicate_zero, List.cons_append, List.nil_append]
  simp (maxSteps := 2000000) (disch := omega) only [go_sem, Nat.reduceAdd, Nat.reduceSub, Nat.reduceMul, Nat.reduceBEq, Nat.reduceEqDiff, Nat.reduceLT, Nat.reduceLeDiff, Nat.reduceDiv, reduceIte, reduceCtorEq, Int.reduceLT, Int.reduceLE, Int.reduceEq, Int.reduceNe, Int.reduceAdd, Int.reduceSub, Int.reduceMul, Int.reduceNeg, Int.reduceDiv, Int.reduceMod, Int.reduceTMod, Int.reduceTDiv, Int.reduceFDiv, Int.reducePow, Int.reduceToNat, U64n, BitVec.reduceOfInt, BitVec.reduceAnd, BitVec.reduceToNat, bits_u64, bits_i64]
theorem takes16_h : Holds Try.prog 66 [.int .i64 16] [] (fun r h' => r = .int .i64 0 ∧ h' = []) := by
  refine holds_of_awp Try.func66 rfl (by decide +kernel) mixed Try.ntmps66 Try.results66 ?_
  simp only [entrySt, List.map_cons, List.map_nil, List.length_cons, List.length_nil, Nat.reduceAdd, Nat.reduceSub, List.replicate_succ, List.replicate_zero, List.cons_append, List.nil_append]
  simp (maxSteps := 2000000) (disch := omega) only [go_sem, Nat.reduceAdd, Nat.reduceSub, Nat.reduceMul, Nat.reduceBEq, Nat.reduceEqDiff, Nat.reduceLT, Nat.reduceLeDiff, Nat.reduceDiv, reduceIte, reduceCtorEq, Int.reduceLT, Int.reduceLE, Int.reduceEq, Int.reduceNe, Int.reduceAdd, Int.reduceSub, Int.reduceMul, Int.reduceNeg, Int.reduceDiv, Int.reduceMod, Int.reduceTMod, Int.reduceTDiv, Int.reduceFDiv, Int.reducePow, Int.reduceToNat, U64n, BitVec.reduceOfInt, BitVec.reduceAnd, BitVec.reduceToNat, bits_u64, bits_i64]
theorem takes17_h : Holds Try.prog 66 [.int .i64 17] [] (fun r h' => r = .int .i64 0 ∧ h' = []) := by
  refine holds_of_awp Try.func66 rfl (by decide +kernel) mixed Try.ntmps66 Try.results66 ?_
  simp only [entrySt, List.map_cons, List.map_nil, List.length_cons, List.length_nil, Nat.reduceAdd, Nat.reduceSub, List.replicate_succ, List.replicate_zero, List.cons_append, List.nil_append]
  simp (maxSteps := 2000000) (disch := omega) only [go_sem, Nat.reduceAdd, Nat.reduceSub, Nat.reduceMul, Nat.reduceBEq, Nat.reduceEqDiff, Nat.reduceLT, Nat.reduceLeDiff, Nat.reduceDiv, reduceIte, reduceCtorEq, Int.reduceLT, Int.reduceLE, Int.reduceEq, Int.reduceNe, Int.reduceAdd, Int.reduceSub, Int.reduceMul, Int.reduceNeg, Int.reduceDiv, Int.reduceMod, Int.reduceTMod, Int.reduceTDiv, Int.reduceFDiv, Int.reducePow, Int.reduceToNat, U64n, BitVec.reduceOfInt, BitVec.reduceAnd, BitVec.reduceToNat, bits_u64, bits_i64]
theorem takes18_h : Holds Try.prog 66 [.int .i64 18] [] (fun r h' => r = .int .i64 0 ∧ h' = []) := by
  refine holds_of_awp Try.func66 rfl (by decide +kernel) mixed Try.ntmps66 Try.results66 ?_
  simp only [entrySt, List.map_cons, List.map_nil, List.length_cons, List.length_nil, Nat.reduceAdd, Nat.reduceSub, List.replicate_succ, List.replicate_zero, List.cons_append, List.nil_append]
  simp (maxSteps := 2000000) (disch := omega) only [go_sem, Nat.reduceAdd, Nat.reduceSub, Nat.reduceMul, Nat.reduceBEq, Nat.reduceEqDiff, Nat.reduceLT, Nat.reduceLeDiff, Nat.reduceDiv, reduceIte, reduceCtorEq, Int.reduceLT, Int.reduceLE, Int.reduceEq, Int.reduceNe, Int.reduceAdd, Int.reduceSub, Int.reduceMul, Int.reduceNeg, Int.reduceDiv, Int.reduceMod, Int.reduceTMod, Int.reduceTDiv, Int.reduceFDiv, Int.reducePow, Int.reduceToNat, U64n, BitVec.reduceOfInt, BitVec.reduceAnd, BitVec.reduceToNat, bits_u64, bits_i64]
theorem takes19_h : Holds Try.prog 66 [.int .i64 19] [] (fun r h' => r = .int .i64 1 ∧ h' = []) := by
  refine holds_of_awp Try.func66 rfl (by decide +kernel) mixed Try.ntmps66 Try.results66 ?_
  simp only [entrySt, List.map_cons, List.map_nil, List.length_cons, List.length_nil, Nat.reduceAdd, Nat.reduceSub, List.replicate_succ, List.replicate_zero, List.cons_append, List.nil_append]
  simp (maxSteps := 2000000) (disch := omega) only [go_sem, Nat.reduceAdd, Nat.reduceSub, Nat.reduceMul, Nat.reduceBEq, Nat.reduceEqDiff, Nat.reduceLT, Nat.reduceLeDiff, Nat.reduceDiv, reduceIte, reduceCtorEq, Int.reduceLT, Int.reduceLE, Int.reduceEq, Int.reduceNe, Int.reduceAdd, Int.reduceSub, Int.reduceMul, Int.reduceNeg, Int.reduceDiv, Int.reduceMod, Int.reduceTMod, Int.reduceTDiv, Int.reduceFDiv, Int.reducePow, Int.reduceToNat, U64n, BitVec.reduceOfInt, BitVec.reduceAnd, BitVec.reduceToNat, bits_u64, bits_i64]
theorem takes20_h : Holds Try.prog 66 [.int .i64 20] [] (fun r h' => r = .int .i64 0 ∧ h' = []) := by
  refine holds_of_awp Try.func66 rfl (by decide +kernel) mixed Try.ntmps66 Try.results66 ?_
  simp only [entrySt, List.map_cons, List.map_nil, List.length_cons, List.length_nil, Nat.reduceAdd, Nat.reduceSub, List.replicate_succ, List.replicate_zero, List.cons_append, List.nil_append]
  simp (maxSteps := 2000000) (disch := omega) only [go_sem, Nat.reduceAdd, Nat.reduceSub, Nat.reduceMul, Nat.reduceBEq, Nat.reduceEqDiff, Nat.reduceLT, Nat.reduceLeDiff, Nat.reduceDiv, reduceIte, reduceCtorEq, Int.reduceLT, Int.reduceLE, Int.reduceEq, Int.reduceNe, Int.reduceAdd, Int.reduceSub, Int.reduceMul, Int.reduceNeg, Int.reduceDiv, Int.reduceMod, Int.reduceTMod, Int.reduceTDiv, Int.reduceFDiv, Int.reducePow, Int.reduceToNat, U64n, BitVec.reduceOfInt, BitVec.reduceAnd, BitVec.reduceToNat, bits_u64, bits_i64]
theorem takes21_h : Holds Try.prog 66 [.int .i64 21] [] (fun r h' => r = .int .i64 0 ∧ h' = []) := by
  refine holds_of_awp Try.func66 rfl (by decide +kernel) mixed Try.ntmps66 Try.results66 ?_
  simp only [entrySt, List.map_cons, List.map_nil, List.length_cons, List.length_nil, Nat.reduceAdd, Nat.reduceSub, List.replicate_succ, List.replicate_zero, List.cons_append, List.nil_append]
  simp (maxSteps := 2000000) (disch := omega) only [go_sem, Nat.reduceAdd, Nat.reduceSub, Nat.reduceMul, Nat.reduceBEq, Nat.reduceEqDiff, Nat.reduceLT, Nat.reduceLeDiff, Nat.reduceDiv, reduceIte, reduceCtorEq, Int.reduceLT, Int.reduceLE, Int.reduceEq, Int.reduceNe, Int.reduceAdd, Int.reduceSub, Int.reduceMul, Int.reduceNeg, Int.reduceDiv, Int.reduceMod, Int.reduceTMod, Int.reduceTDiv, Int.reduceFDiv, Int.reducePow, Int.reduceToNat, U64n, BitVec.reduceOfInt, BitVec.reduceAnd, BitVec.reduceToNat, bits_u64, bits_i64]
theorem takes22_h : Holds Try.prog 66 [.int .i64 22] [] (fun r h' => r = .int .i64 0 ∧ h' = []) := by
  refine holds_of_awp Try.func66 rfl (by decide +kernel) mixed Try.ntmps66 Try.results66 ?_
  simp only [entrySt, List.map_cons, List.map_nil, List.length_cons, List.length_nil, Nat.reduceAdd, Nat.reduceSub, List.replicate_succ, List.replicate_zero, List.cons_append, List.nil_append]
  simp (maxSteps := 2000000) (disch := omega) only [go_sem, Nat.reduceAdd, Nat.reduceSub, Nat.reduceMul, Nat.reduceBEq, Nat.reduceEqDiff, Nat.reduceLT, Nat.reduceLeDiff, Nat.reduceDiv, reduceIte, reduceCtorEq, Int.reduceLT, Int.reduceLE, Int.reduceEq, Int.reduceNe, Int.reduceAdd, Int.reduceSub, Int.reduceMul, Int.reduceNeg, Int.reduceDiv, Int.reduceMod, Int.reduceTMod, Int.reduceTDiv, Int.reduceFDiv, Int.reducePow, Int.reduceToNat, U64n, BitVec.reduceOfInt, BitVec.reduceAnd, BitVec.reduceToNat, bits_u64, bits_i64]
theorem two4_h10 (b a : Int) (hb : B32 b) (ha : B32 a) : Holds Try.prog 70 [.int .i64 4, .int .i32 b, .int .i32 a] [] (fun r h' => r = .int .i32 (held (b + a)) ∧ h' = []) := by
  refine holds_of_awp Try.func70 rfl (by decide +kernel) mixed Try.ntmps70 Try.results70 ?_
  simp only [entrySt, List.map_cons, List.map_nil, List.length_cons, List.length_nil, Nat.reduceAdd, Nat.reduceSub, List.replicate_succ, List.replicate_zero, List.cons_append, List.nil_append]
  simp (maxSteps := 2000000) (disch := omega) only [go_sem, Nat.reduceAdd, Nat.reduceSub, Nat.reduceMul, Nat.reduceBEq, Nat.reduceEqDiff, Nat.reduceLT, Nat.reduceLeDiff, Nat.reduceDiv, reduceIte, reduceCtorEq, Int.reduceLT, Int.reduceLE, Int.reduceEq, Int.reduceNe, Int.reduceAdd, Int.reduceSub, Int.reduceMul, Int.reduceNeg, Int.reduceDiv, Int.reduceMod, Int.reduceTMod, Int.reduceTDiv, Int.reduceFDiv, Int.reducePow, Int.reduceToNat, U64n, BitVec.reduceOfInt, BitVec.reduceAnd, BitVec.reduceToNat, bits_u64, bits_i64]
  refine a_call [] (radd_h b a hb ha) ok0 ?_ ?_ ?_
  · simp (maxSteps := 2000000) (disch := omega) only [go_sem, Nat.reduceAdd, Nat.reduceSub, Nat.reduceMul, Nat.reduceBEq, Nat.reduceEqDiff, Nat.reduceLT, Nat.reduceLeDiff, Nat.reduceDiv, reduceIte, reduceCtorEq]
  · simp (maxSteps := 2000000) (disch := omega) only [go_sem, Nat.reduceAdd, Nat.reduceSub, Nat.reduceMul, Nat.reduceBEq, Nat.reduceEqDiff, Nat.reduceLT, Nat.reduceLeDiff, Nat.reduceDiv, reduceIte, reduceCtorEq]
  rintro _ _ ⟨rfl, rfl⟩
  simp (maxSteps := 2000000) (disch := omega) only [go_sem, Nat.reduceAdd, Nat.reduceSub, Nat.reduceMul, Nat.reduceBEq, Nat.reduceEqDiff, Nat.reduceLT, Nat.reduceLeDiff, Nat.reduceDiv, reduceIte, reduceCtorEq]
theorem two5_h10 (b a : Int) (hb : B32 b) (ha : B32 a) : Holds Try.prog 70 [.int .i64 5, .int .i32 b, .int .i32 a] [] (fun r h' => r = .int .i32 (held (b - a)) ∧ h' = []) := by
  refine holds_of_awp Try.func70 rfl (by decide +kernel) mixed Try.ntmps70 Try.results70 ?_
  simp only [entrySt, List.map_cons, List.map_nil, List.length_cons, List.length_nil, Nat.reduceAdd, Nat.reduceSub, List.replicate_succ, List.replicate_zero, List.cons_append, List.nil_append]
  simp (maxSteps := 2000000) (disch := omega) only [go_sem, Nat.reduceAdd, Nat.reduceSub, Nat.reduceMul, Nat.reduceBEq, Nat.reduceEqDiff, Nat.reduceLT, Nat.reduceLeDiff, Nat.reduceDiv, reduceIte, reduceCtorEq, Int.reduceLT, Int.reduceLE, Int.reduceEq, Int.reduceNe, Int.reduceAdd, Int.reduceSub, Int.reduceMul, Int.reduceNeg, Int.reduceDiv, Int.reduceMod, Int.reduceTMod, Int.reduceTDiv, Int.reduceFDiv, Int.reducePow, Int.reduceToNat, U64n, BitVec.reduceOfInt, BitVec.reduceAnd, BitVec.reduceToNat, bits_u64, bits_i64]
  refine a_call [] (rsub_h b a hb ha) ok0 ?_ ?_ ?_
  · simp (maxSteps := 2000000) (disch := omega) only [go_sem, Nat.reduceAdd, Nat.reduceSub, Nat.reduceMul, Nat.reduceBEq, Nat.reduceEqDiff, Nat.reduceLT, Nat.reduceLeDiff, Nat.reduceDiv, reduceIte, reduceCtorEq]
  · simp (maxSteps := 2000000) (disch := omega) only [go_sem, Nat.reduceAdd, Nat.reduceSub, Nat.reduceMul, Nat.reduceBEq, Nat.reduceEqDiff, Nat.reduceLT, Nat.reduceLeDiff, Nat.reduceDiv, reduceIte, reduceCtorEq]
  rintro _ _ ⟨rfl, rfl⟩
  simp (maxSteps := 2000000) (disch := omega) only [go_sem, Nat.reduceAdd, Nat.reduceSub, Nat.reduceMul, Nat.reduceBEq, Nat.reduceEqDiff, Nat.reduceLT, Nat.reduceLeDiff, Nat.reduceDiv, reduceIte, reduceCtorEq]
theorem two6_h10 (b a : Int) (hb : B32 b) (ha : B32 a) : Holds Try.prog 70 [.int .i64 6, .int .i32 b, .int .i32 a] [] (fun r h' => r = .int .i32 (held (b * a / 65536)) ∧ h' = []) := by
  refine holds_of_awp Try.func70 rfl (by decide +kernel) mixed Try.ntmps70 Try.results70 ?_
  simp only [entrySt, List.map_cons, List.map_nil, List.length_cons, List.length_nil, Nat.reduceAdd, Nat.reduceSub, List.replicate_succ, List.replicate_zero, List.cons_append, List.nil_append]
  simp (maxSteps := 2000000) (disch := omega) only [go_sem, Nat.reduceAdd, Nat.reduceSub, Nat.reduceMul, Nat.reduceBEq, Nat.reduceEqDiff, Nat.reduceLT, Nat.reduceLeDiff, Nat.reduceDiv, reduceIte, reduceCtorEq, Int.reduceLT, Int.reduceLE, Int.reduceEq, Int.reduceNe, Int.reduceAdd, Int.reduceSub, Int.reduceMul, Int.reduceNeg, Int.reduceDiv, Int.reduceMod, Int.reduceTMod, Int.reduceTDiv, Int.reduceFDiv, Int.reducePow, Int.reduceToNat, U64n, BitVec.reduceOfInt, BitVec.reduceAnd, BitVec.reduceToNat, bits_u64, bits_i64]
  refine a_call [] (rmul_h b a hb ha) ok0 ?_ ?_ ?_
  · simp (maxSteps := 2000000) (disch := omega) only [go_sem, Nat.reduceAdd, Nat.reduceSub, Nat.reduceMul, Nat.reduceBEq, Nat.reduceEqDiff, Nat.reduceLT, Nat.reduceLeDiff, Nat.reduceDiv, reduceIte, reduceCtorEq]
  · simp (maxSteps := 2000000) (disch := omega) only [go_sem, Nat.reduceAdd, Nat.reduceSub, Nat.reduceMul, Nat.reduceBEq, Nat.reduceEqDiff, Nat.reduceLT, Nat.reduceLeDiff, Nat.reduceDiv, reduceIte, reduceCtorEq]
  rintro _ _ ⟨rfl, rfl⟩
  simp (maxSteps := 2000000) (disch := omega) only [go_sem, Nat.reduceAdd, Nat.reduceSub, Nat.reduceMul, Nat.reduceBEq, Nat.reduceEqDiff, Nat.reduceLT, Nat.reduceLeDiff, Nat.reduceDiv, reduceIte, reduceCtorEq]
theorem two7_h10 (b a : Int) (hb : B32 b) (ha : B32 a) : Holds Try.prog 70 [.int .i64 7, .int .i32 b, .int .i32 a] [] (fun r h' => r = .int .i32 (divV b a) ∧ h' = []) := by
  refine holds_of_awp Try.func70 rfl (by decide +kernel) mixed Try.ntmps70 Try.results70 ?_
  simp only [entrySt, List.map_cons, List.map_nil, List.length_cons, List.length_nil, Nat.reduceAdd, Nat.reduceSub, List.replicate_succ, List.replicate_zero, List.cons_append, List.nil_append]
  simp (maxSteps := 2000000) (disch := omega) only [go_sem, Nat.reduceAdd, Nat.reduceSub, Nat.reduceMul, Nat.reduceBEq, Nat.reduceEqDiff, Nat.reduceLT, Nat.reduceLeDiff, Nat.reduceDiv, reduceIte, reduceCtorEq, Int.reduceLT, Int.reduceLE, Int.reduceEq, Int.reduceNe, Int.reduceAdd, Int.reduceSub, Int.reduceMul, Int.reduceNeg, Int.reduceDiv, Int.reduceMod, Int.reduceTMod, Int.reduceTDiv, Int.reduceFDiv, Int.reducePow, Int.reduceToNat, U64n, BitVec.reduceOfInt, BitVec.reduceAnd, BitVec.reduceToNat, bits_u64, bits_i64]
  refine a_call [] (rdiv_h b a hb ha) ok0 ?_ ?_ ?_
  · simp (maxSteps := 2000000) (disch := omega) only [go_sem, Nat.reduceAdd, Nat.reduceSub, Nat.reduceMul, Nat.reduceBEq, Nat.reduceEqDiff, Nat.reduceLT, Nat.reduceLeDiff, Nat.reduceDiv, reduceIte, reduceCtorEq]
  · simp (maxSteps := 2000000) (disch := omega) only [go_sem, Nat.reduceAdd, Nat.reduceSub, Nat.reduceMul, Nat.reduceBEq, Nat.reduceEqDiff, Nat.reduceLT, Nat.reduceLeDiff, Nat.reduceDiv, reduceIte, reduceCtorEq]
  rintro _ _ ⟨rfl, rfl⟩
  simp (maxSteps := 2000000) (disch := omega) only [go_sem, Nat.reduceAdd, Nat.reduceSub, Nat.reduceMul, Nat.reduceBEq, Nat.reduceEqDiff, Nat.reduceLT, Nat.reduceLeDiff, Nat.reduceDiv, reduceIte, reduceCtorEq]
theorem two8_h10 (b a : Int) (hb : B32 b) (ha : B32 a) : Holds Try.prog 70 [.int .i64 8, .int .i32 b, .int .i32 a] [] (fun r h' => r = .int .i32 (min b a) ∧ h' = []) := by
  refine holds_of_awp Try.func70 rfl (by decide +kernel) mixed Try.ntmps70 Try.results70 ?_
  simp only [entrySt, List.map_cons, List.map_nil, List.length_cons, List.length_nil, Nat.reduceAdd, Nat.reduceSub, List.replicate_succ, List.replicate_zero, List.cons_append, List.nil_append]
  simp (maxSteps := 2000000) (disch := omega) only [go_sem, Nat.reduceAdd, Nat.reduceSub, Nat.reduceMul, Nat.reduceBEq, Nat.reduceEqDiff, Nat.reduceLT, Nat.reduceLeDiff, Nat.reduceDiv, reduceIte, reduceCtorEq, Int.reduceLT, Int.reduceLE, Int.reduceEq, Int.reduceNe, Int.reduceAdd, Int.reduceSub, Int.reduceMul, Int.reduceNeg, Int.reduceDiv, Int.reduceMod, Int.reduceTMod, Int.reduceTDiv, Int.reduceFDiv, Int.reducePow, Int.reduceToNat, U64n, BitVec.reduceOfInt, BitVec.reduceAnd, BitVec.reduceToNat, bits_u64, bits_i64]
  all_goals (try rw [Int.min_comm])
theorem two9_h10 (b a : Int) (hb : B32 b) (ha : B32 a) : Holds Try.prog 70 [.int .i64 9, .int .i32 b, .int .i32 a] [] (fun r h' => r = .int .i32 (max b a) ∧ h' = []) := by
  refine holds_of_awp Try.func70 rfl (by decide +kernel) mixed Try.ntmps70 Try.results70 ?_
  simp only [entrySt, List.map_cons, List.map_nil, List.length_cons, List.length_nil, Nat.reduceAdd, Nat.reduceSub, List.replicate_succ, List.replicate_zero, List.cons_append, List.nil_append]
  simp (maxSteps := 2000000) (disch := omega) only [go_sem, Nat.reduceAdd, Nat.reduceSub, Nat.reduceMul, Nat.reduceBEq, Nat.reduceEqDiff, Nat.reduceLT, Nat.reduceLeDiff, Nat.reduceDiv, reduceIte, reduceCtorEq, Int.reduceLT, Int.reduceLE, Int.reduceEq, Int.reduceNe, Int.reduceAdd, Int.reduceSub, Int.reduceMul, Int.reduceNeg, Int.reduceDiv, Int.reduceMod, Int.reduceTMod, Int.reduceTDiv, Int.reduceFDiv, Int.reducePow, Int.reduceToNat, U64n, BitVec.reduceOfInt, BitVec.reduceAnd, BitVec.reduceToNat, bits_u64, bits_i64]
  all_goals (try rw [Int.max_comm])
theorem two10_h10 (b a : Int) (hb : B32 b) (ha : B32 a) : Holds Try.prog 70 [.int .i64 10, .int .i32 b, .int .i32 a] [] (fun r h' => r = .int .i32 (truthV (decide (b < a))) ∧ h' = []) := by
  refine holds_of_awp Try.func70 rfl (by decide +kernel) mixed Try.ntmps70 Try.results70 ?_
  simp only [entrySt, List.map_cons, List.map_nil, List.length_cons, List.length_nil, Nat.reduceAdd, Nat.reduceSub, List.replicate_succ, List.replicate_zero, List.cons_append, List.nil_append]
  simp (maxSteps := 2000000) (disch := omega) only [go_sem, Nat.reduceAdd, Nat.reduceSub, Nat.reduceMul, Nat.reduceBEq, Nat.reduceEqDiff, Nat.reduceLT, Nat.reduceLeDiff, Nat.reduceDiv, reduceIte, reduceCtorEq, Int.reduceLT, Int.reduceLE, Int.reduceEq, Int.reduceNe, Int.reduceAdd, Int.reduceSub, Int.reduceMul, Int.reduceNeg, Int.reduceDiv, Int.reduceMod, Int.reduceTMod, Int.reduceTDiv, Int.reduceFDiv, Int.reducePow, Int.reduceToNat, U64n, BitVec.reduceOfInt, BitVec.reduceAnd, BitVec.reduceToNat, bits_u64, bits_i64]
  refine a_call [] (rtruth_h (decide (b < a))) ok0 ?_ ?_ ?_
  · simp (maxSteps := 2000000) (disch := omega) only [go_sem, Nat.reduceAdd, Nat.reduceSub, Nat.reduceMul, Nat.reduceBEq, Nat.reduceEqDiff, Nat.reduceLT, Nat.reduceLeDiff, Nat.reduceDiv, reduceIte, reduceCtorEq]
  · simp (maxSteps := 2000000) (disch := omega) only [go_sem, Nat.reduceAdd, Nat.reduceSub, Nat.reduceMul, Nat.reduceBEq, Nat.reduceEqDiff, Nat.reduceLT, Nat.reduceLeDiff, Nat.reduceDiv, reduceIte, reduceCtorEq]
  rintro _ _ ⟨rfl, rfl⟩
  simp (maxSteps := 2000000) (disch := omega) only [go_sem, Nat.reduceAdd, Nat.reduceSub, Nat.reduceMul, Nat.reduceBEq, Nat.reduceEqDiff, Nat.reduceLT, Nat.reduceLeDiff, Nat.reduceDiv, reduceIte, reduceCtorEq, Int.reduceLT, Int.reduceLE, Int.reduceEq, Int.reduceNe, Int.reduceAdd, Int.reduceSub, Int.reduceMul, Int.reduceNeg, Int.reduceDiv, Int.reduceMod, Int.reduceTMod, Int.reduceTDiv, Int.reduceFDiv, Int.reducePow, Int.reduceToNat, U64n, BitVec.reduceOfInt, BitVec.reduceAnd, BitVec.reduceToNat, bits_u64, bits_i64]
theorem two11_h10 (b a : Int) (hb : B32 b) (ha : B32 a) : Holds Try.prog 70 [.int .i64 11, .int .i32 b, .int .i32 a] [] (fun r h' => r = .int .i32 (truthV (decide (b = a))) ∧ h' = []) := by
  refine holds_of_awp Try.func70 rfl (by decide +kernel) mixed Try.ntmps70 Try.results70 ?_
  simp only [entrySt, List.map_cons, List.map_nil, List.length_cons, List.length_nil, Nat.reduceAdd, Nat.reduceSub, List.replicate_succ, List.replicate_zero, List.cons_append, List.nil_append]
  simp (maxSteps := 2000000) (disch := omega) only [go_sem, Nat.reduceAdd, Nat.reduceSub, Nat.reduceMul, Nat.reduceBEq, Nat.reduceEqDiff, Nat.reduceLT, Nat.reduceLeDiff, Nat.reduceDiv, reduceIte, reduceCtorEq, Int.reduceLT, Int.reduceLE, Int.reduceEq, Int.reduceNe, Int.reduceAdd, Int.reduceSub, Int.reduceMul, Int.reduceNeg, Int.reduceDiv, Int.reduceMod, Int.reduceTMod, Int.reduceTDiv, Int.reduceFDiv, Int.reducePow, Int.reduceToNat, U64n, BitVec.reduceOfInt, BitVec.reduceAnd, BitVec.reduceToNat, bits_u64, bits_i64]
  refine a_call [] (rtruth_h (decide (b = a))) ok0 ?_ ?_ ?_
  · simp (maxSteps := 2000000) (disch := omega) only [go_sem, Nat.reduceAdd, Nat.reduceSub, Nat.reduceMul, Nat.reduceBEq, Nat.reduceEqDiff, Nat.reduceLT, Nat.reduceLeDiff, Nat.reduceDiv, reduceIte, reduceCtorEq]
  · simp (maxSteps := 2000000) (disch := omega) only [go_sem, Nat.reduceAdd, Nat.reduceSub, Nat.reduceMul, Nat.reduceBEq, Nat.reduceEqDiff, Nat.reduceLT, Nat.reduceLeDiff, Nat.reduceDiv, reduceIte, reduceCtorEq]
  rintro _ _ ⟨rfl, rfl⟩
  simp (maxSteps := 2000000) (disch := omega) only [go_sem, Nat.reduceAdd, Nat.reduceSub, Nat.reduceMul, Nat.reduceBEq, Nat.reduceEqDiff, Nat.reduceLT, Nat.reduceLeDiff, Nat.reduceDiv, reduceIte, reduceCtorEq, Int.reduceLT, Int.reduceLE, Int.reduceEq, Int.reduceNe, Int.reduceAdd, Int.reduceSub, Int.reduceMul, Int.reduceNeg, Int.reduceDiv, Int.reduceMod, Int.reduceTMod, Int.reduceTDiv, Int.reduceFDiv, Int.reducePow, Int.reduceToNat, U64n, BitVec.reduceOfInt, BitVec.reduceAnd, BitVec.reduceToNat, bits_u64, bits_i64]
end Go.Proofs.Ytamcjecgkfmjkaa
