/- Parts of a proof: Chapter 9: whether instructions are a program, Chapter 9: the table of the ops. (written by gentbl.py), Chapter 9: Check, in both, Chapters 10 and 18: games, the state at first, a new match, From the logic to the rows of the laws: games, rows of numbers, Chapter 10: the cells of a machine (written by genbox.py), Chapter 10: the table of the doers. (written by gentbl.py), Chapter 10: a frame of a game without instructions, Chapter 8 in the logic: sums, products, quotients, Chapter 10: the machine: its numbers taken and laid, its doers, Chapter 10: an instruction, and a frame's run, Chapter 10: the run of a frame, in the code, Chapter 10: the cells of the other machine (written by genbox.py), Chapter 10: the other machine: its numbers taken and laid, its instructions. (written by gen10d.py), Chapter 10: the other machine's instructions. (written by gen10e.py), Chapter 10: both machines come to the same state. -/
import Derived.Test.YtamcjecgkfmjkaaGreatMPl3
import Derived.Test.YtamcjecgkfmjkaaGreatMPl2
import Derived.Deep.Slices
set_option linter.unusedSimpArgs false
set_option linter.unusedVariables false
open Go Go.RowKit
namespace Go.Proofs.YtamcjecgkfmjkaaGreat
section
/-- may an op have this argument, in a program of so many? -/
def mayP (op arg n : Int) : Bool :=
  if op = 1 then decide (-2147483648 ≤ arg) && decide (arg ≤ 2147483647)
  else if op = 2 ∨ op = 3 then decide (0 ≤ arg) && decide (arg ≤ 15)
  else if op = 16 then decide (0 ≤ arg) && decide (arg ≤ 1)
  else if op = 18 ∨ op = 19 then decide (0 ≤ arg) && decide (arg ≤ n)
  else if op = 20 then decide (0 ≤ arg) && decide (arg ≤ 2)
  else decide (1 ≤ op) && decide (op ≤ 22) && decide (arg = 0)
/-- how many of the first are instructions -/
def firstBad (l : List (Int × Int)) (n : Int) : Nat := (l.takeWhile fun x => mayP x.1 x.2 n).length
theorem mayP_not {op arg n : Int} (h : ¬ (1 ≤ op ∧ op ≤ 22)) : mayP op arg n = false := by
  unfold mayP
  rw [if_neg (by omega), if_neg (by omega), if_neg (by omega), if_neg (by omega), if_neg (by omega)]
  simp
  omega
theorem firstBad_le (l : List (Int × Int)) (n : Int) : firstBad l n ≤ l.length := (List.takeWhile_prefix _).length_le
theorem firstBad_at {l : List (Int × Int)} {n : Int} {i : Nat} (h : i < firstBad l n) : mayP (gi l i).1 (gi l i).2 n = true := by
  induction l generalizing i with
  | nil => simp [firstBad] at h
  | cons x l ih =>
    unfold firstBad at h ih
    rw [List.takeWhile_cons] at h
    split at h
    · rename_i hx
      cases i with
      | zero => simpa [gi] using hx
      | succ i => simpa [gi] using ih (by simpa using h)
    simp at h
theorem firstBad_stop {l : List (Int × Int)} {n : Int} (h : firstBad l n < l.length) : mayP (gi l (firstBad l n)).1 (gi l (firstBad l n)).2 n = false := by
  induction l with
  | nil => simp at h
  | cons x l ih =>
    unfold firstBad at h ih ⊢
    rw [List.takeWhile_cons] at h ⊢
    split
    · rename_i hx
      rw [if_pos hx] at h
      simpa [gi] using ih (by simpa using h)
    rename_i hx
    simpa [gi] using hx
theorem firstBad_up {l : List (Int × Int)} {n : Int} {i : Nat} (h : i ≤ firstBad l n) (hl : i < l.length) (hm : mayP (gi l i).1 (gi l i).2 n = true) : i + 1 ≤ firstBad l n := by
  rcases Nat.lt_or_ge i (firstBad l n) with h2 | h2
  · exact h2
  have e : i = firstBad l n := by omega
  subst e
  rw [firstBad_stop hl] at hm
  cases hm
theorem firstBad_is {l : List (Int × Int)} {n : Int} {i : Nat} (h : i ≤ firstBad l n) (hm : mayP (gi l i).1 (gi l i).2 n = false) : firstBad l n = i := by
  rcases Nat.lt_or_ge i (firstBad l n) with h2 | h2
  · rw [firstBad_at h2] at hm; cases hm
  omega
def chkP (l : List (Int × Int)) : Int × Int :=
  if 256 < l.length then (0, 5) else if firstBad l l.length < l.length then (firstBad l l.length, 3) else (0, 0)
theorem mayP_fin {a b : Bool} (h : a = true ↔ b = true) : a = b := Bool.eq_iff_iff.2 h
theorem chkP_bad {l : List (Int × Int)} {i : Nat} (h : ¬ 256 < l.length) (hb : i ≤ firstBad l l.length) (hl : i < l.length) (hm : mayP (gi l i).1 (gi l i).2 l.length = false) : chkP l = ((i : Int), 3) := by
  have e := firstBad_is hb hm
  unfold chkP
  rw [if_neg h, e, if_pos hl]
theorem chkP_ok {l : List (Int × Int)} (h : ¬ 256 < l.length) (hb : l.length ≤ firstBad l l.length) : chkP l = (0, 0) := by
  have := firstBad_le l l.length
  unfold chkP
  rw [if_neg h, if_neg (by omega)]
theorem chkP_long {l : List (Int × Int)} (h : 256 < l.length) : chkP l = (0, 5) := by unfold chkP; rw [if_pos h]
set_option maxHeartbeats 1000000 in
theorem rmay_h (op arg n : Int) : Holds Tryz.prog 62 [.agg [.val (.int .i64 op), .val (.int .i64 arg)], .int .i64 n] [] (fun r h' => r = V.bool (mayP op arg n) ∧ h' = []) := by
  refine holds_of_awp Tryz.func62 rfl (by decide +kernel) mixed Tryz.ntmps62 Tryz.results62 ?_
  refine zE ?_
  refine zs ?_;try exact trivial
  refine c_dec (fun h1 => ?_) (fun h1 => ?_)
  · cases d : decide (-2147483648 ≤ arg)
    · simp (maxSteps:=2000000) (disch:=omega) only [go_sem,Nat.reduceAdd,Nat.reduceSub,Nat.reduceMul,Nat.reduceBEq,Nat.reduceEqDiff,Nat.reduceLT,Nat.reduceLeDiff,Nat.reduceDiv,reduceIte,reduceCtorEq, d]
      congr 1
      exact mayP_fin (by simp_all [mayP] <;> omega)
    simp (maxSteps:=2000000) (disch:=omega) only [go_sem,Nat.reduceAdd,Nat.reduceSub,Nat.reduceMul,Nat.reduceBEq,Nat.reduceEqDiff,Nat.reduceLT,Nat.reduceLeDiff,Nat.reduceDiv,reduceIte,reduceCtorEq, d]
    congr 1
    exact mayP_fin (by simp_all [mayP] <;> omega)
  refine zs ?_;try exact trivial
  refine c_dec (fun h2 => ?_) (fun h2 => ?_)
  · refine zs ?_;try exact trivial
    refine c_dec (fun _ => ?_) (fun h => absurd h2 h)
    cases d : decide (0 ≤ arg)
    · simp (maxSteps:=2000000) (disch:=omega) only [go_sem,Nat.reduceAdd,Nat.reduceSub,Nat.reduceMul,Nat.reduceBEq,Nat.reduceEqDiff,Nat.reduceLT,Nat.reduceLeDiff,Nat.reduceDiv,reduceIte,reduceCtorEq, d]
      congr 1
      exact mayP_fin (by simp_all [mayP] <;> omega)
    simp (maxSteps:=2000000) (disch:=omega) only [go_sem,Nat.reduceAdd,Nat.reduceSub,Nat.reduceMul,Nat.reduceBEq,Nat.reduceEqDiff,Nat.reduceLT,Nat.reduceLeDiff,Nat.reduceDiv,reduceIte,reduceCtorEq, d]
    congr 1
    exact mayP_fin (by simp_all [mayP] <;> omega)
  refine zs ?_;try exact trivial
  refine c_dec (fun h2' => ?_) (fun h2' => ?_)
  · cases d : decide (0 ≤ arg)
    · simp (maxSteps:=2000000) (disch:=omega) only [go_sem,Nat.reduceAdd,Nat.reduceSub,Nat.reduceMul,Nat.reduceBEq,Nat.reduceEqDiff,Nat.reduceLT,Nat.reduceLeDiff,Nat.reduceDiv,reduceIte,reduceCtorEq, d]
      congr 1
      exact mayP_fin (by simp_all [mayP] <;> omega)
    simp (maxSteps:=2000000) (disch:=omega) only [go_sem,Nat.reduceAdd,Nat.reduceSub,Nat.reduceMul,Nat.reduceBEq,Nat.reduceEqDiff,Nat.reduceLT,Nat.reduceLeDiff,Nat.reduceDiv,reduceIte,reduceCtorEq, d]
    congr 1
    exact mayP_fin (by simp_all [mayP] <;> omega)
  refine zs ?_;try exact trivial
  refine c_dec (fun h3 => ?_) (fun h3 => ?_)
  · cases d : decide (arg = 0)
    · simp (maxSteps:=2000000) (disch:=omega) only [go_sem,Nat.reduceAdd,Nat.reduceSub,Nat.reduceMul,Nat.reduceBEq,Nat.reduceEqDiff,Nat.reduceLT,Nat.reduceLeDiff,Nat.reduceDiv,reduceIte,reduceCtorEq, d]
      congr 1
      exact mayP_fin (by simp_all [mayP] <;> omega)
    simp (maxSteps:=2000000) (disch:=omega) only [go_sem,Nat.reduceAdd,Nat.reduceSub,Nat.reduceMul,Nat.reduceBEq,Nat.reduceEqDiff,Nat.reduceLT,Nat.reduceLeDiff,Nat.reduceDiv,reduceIte,reduceCtorEq, d]
    congr 1
    exact mayP_fin (by simp_all [mayP] <;> omega)
  refine zs ?_;try exact trivial
  refine c_dec (fun h4 => ?_) (fun h4 => ?_)
  · refine zs ?_;try exact trivial
    refine c_dec (fun _ => ?_) (fun h => absurd h4 h)
    cases d : decide (0 ≤ arg)
    · simp (maxSteps:=2000000) (disch:=omega) only [go_sem,Nat.reduceAdd,Nat.reduceSub,Nat.reduceMul,Nat.reduceBEq,Nat.reduceEqDiff,Nat.reduceLT,Nat.reduceLeDiff,Nat.reduceDiv,reduceIte,reduceCtorEq, d]
      congr 1
      exact mayP_fin (by simp_all [mayP] <;> omega)
    simp (maxSteps:=2000000) (disch:=omega) only [go_sem,Nat.reduceAdd,Nat.reduceSub,Nat.reduceMul,Nat.reduceBEq,Nat.reduceEqDiff,Nat.reduceLT,Nat.reduceLeDiff,Nat.reduceDiv,reduceIte,reduceCtorEq, d]
    congr 1
    exact mayP_fin (by simp_all [mayP] <;> omega)
  refine zs ?_;try exact trivial
  refine c_dec (fun h4' => ?_) (fun h4' => ?_)
  · cases d : decide (0 ≤ arg)
    · simp (maxSteps:=2000000) (disch:=omega) only [go_sem,Nat.reduceAdd,Nat.reduceSub,Nat.reduceMul,Nat.reduceBEq,Nat.reduceEqDiff,Nat.reduceLT,Nat.reduceLeDiff,Nat.reduceDiv,reduceIte,reduceCtorEq, d]
      congr 1
      exact mayP_fin (by simp_all [mayP] <;> omega)
    simp (maxSteps:=2000000) (disch:=omega) only [go_sem,Nat.reduceAdd,Nat.reduceSub,Nat.reduceMul,Nat.reduceBEq,Nat.reduceEqDiff,Nat.reduceLT,Nat.reduceLeDiff,Nat.reduceDiv,reduceIte,reduceCtorEq, d]
    congr 1
    exact mayP_fin (by simp_all [mayP] <;> omega)
  refine zs ?_;try exact trivial
  refine c_dec (fun h5 => ?_) (fun h5 => ?_)
  · cases d : decide (0 ≤ arg)
    · simp (maxSteps:=2000000) (disch:=omega) only [go_sem,Nat.reduceAdd,Nat.reduceSub,Nat.reduceMul,Nat.reduceBEq,Nat.reduceEqDiff,Nat.reduceLT,Nat.reduceLeDiff,Nat.reduceDiv,reduceIte,reduceCtorEq, d]
      congr 1
      exact mayP_fin (by simp_all [mayP] <;> omega)
    simp (maxSteps:=2000000) (disch:=omega) only [go_sem,Nat.reduceAdd,Nat.reduceSub,Nat.reduceMul,Nat.reduceBEq,Nat.reduceEqDiff,Nat.reduceLT,Nat.reduceLeDiff,Nat.reduceDiv,reduceIte,reduceCtorEq, d]
    congr 1
    exact mayP_fin (by simp_all [mayP] <;> omega)
  refine zs ?_;try exact trivial
  cases d : decide (1 ≤ op)
  · simp (maxSteps:=2000000) (disch:=omega) only [go_sem,Nat.reduceAdd,Nat.reduceSub,Nat.reduceMul,Nat.reduceBEq,Nat.reduceEqDiff,Nat.reduceLT,Nat.reduceLeDiff,Nat.reduceDiv,reduceIte,reduceCtorEq, d]
    congr 1
    exact mayP_fin (by simp_all [mayP] <;> omega)
  cases d2 : decide (op ≤ 22)
  · simp (maxSteps:=2000000) (disch:=omega) only [go_sem,Nat.reduceAdd,Nat.reduceSub,Nat.reduceMul,Nat.reduceBEq,Nat.reduceEqDiff,Nat.reduceLT,Nat.reduceLeDiff,Nat.reduceDiv,reduceIte,reduceCtorEq, d, d2]
    congr 1
    exact mayP_fin (by simp_all [mayP] <;> omega)
  simp (maxSteps:=2000000) (disch:=omega) only [go_sem,Nat.reduceAdd,Nat.reduceSub,Nat.reduceMul,Nat.reduceBEq,Nat.reduceEqDiff,Nat.reduceLT,Nat.reduceLeDiff,Nat.reduceDiv,reduceIte,reduceCtorEq, d, d2]
  congr 1
  exact mayP_fin (by simp_all [mayP] <;> omega)
theorem isOp_h (op : Int) : Holds Tryz.prog 61 [.int .i64 op] [] (fun r h' => r = V.bool (decide (1 ≤ op) && decide (op ≤ 22)) ∧ h' = []) := by
  refine holds_of_awp Tryz.func61 rfl (by decide +kernel) mixed Tryz.ntmps61 Tryz.results61 ?_
  refine zE ?_
  cases d : decide (1 ≤ op)
  · simp (maxSteps:=2000000) (disch:=omega) only [go_sem,Nat.reduceAdd,Nat.reduceSub,Nat.reduceMul,Nat.reduceBEq,Nat.reduceEqDiff,Nat.reduceLT,Nat.reduceLeDiff,Nat.reduceDiv,reduceIte,reduceCtorEq, d]
    rfl
  simp (maxSteps:=2000000) (disch:=omega) only [go_sem,Nat.reduceAdd,Nat.reduceSub,Nat.reduceMul,Nat.reduceBEq,Nat.reduceEqDiff,Nat.reduceLT,Nat.reduceLeDiff,Nat.reduceDiv,reduceIte,reduceCtorEq, d]
theorem number_h (arg n : Int) : Holds Tryz.prog 71 [.int .i64 arg, .int .i64 n] [] (fun r h' => r = V.bool (decide (-2147483648 ≤ arg) && decide (arg ≤ 2147483647)) ∧ h' = []) := by
  refine holds_of_awp Tryz.func71 rfl (by decide +kernel) mixed Tryz.ntmps71 Tryz.results71 ?_
  refine zE ?_
  cases d : decide (-2147483648 ≤ arg)
  · simp (maxSteps:=2000000) (disch:=omega) only [go_sem,Nat.reduceAdd,Nat.reduceSub,Nat.reduceMul,Nat.reduceBEq,Nat.reduceEqDiff,Nat.reduceLT,Nat.reduceLeDiff,Nat.reduceDiv,reduceIte,reduceCtorEq, d]
    rfl
  simp (maxSteps:=2000000) (disch:=omega) only [go_sem,Nat.reduceAdd,Nat.reduceSub,Nat.reduceMul,Nat.reduceBEq,Nat.reduceEqDiff,Nat.reduceLT,Nat.reduceLeDiff,Nat.reduceDiv,reduceIte,reduceCtorEq, d]
theorem place_h (arg n : Int) : Holds Tryz.prog 72 [.int .i64 arg, .int .i64 n] [] (fun r h' => r = V.bool (decide (0 ≤ arg) && decide (arg ≤ n)) ∧ h' = []) := by
  refine holds_of_awp Tryz.func72 rfl (by decide +kernel) mixed Tryz.ntmps72 Tryz.results72 ?_
  refine zE ?_
  cases d : decide (0 ≤ arg)
  · simp (maxSteps:=2000000) (disch:=omega) only [go_sem,Nat.reduceAdd,Nat.reduceSub,Nat.reduceMul,Nat.reduceBEq,Nat.reduceEqDiff,Nat.reduceLT,Nat.reduceLeDiff,Nat.reduceDiv,reduceIte,reduceCtorEq, d]
    rfl
  simp (maxSteps:=2000000) (disch:=omega) only [go_sem,Nat.reduceAdd,Nat.reduceSub,Nat.reduceMul,Nat.reduceBEq,Nat.reduceEqDiff,Nat.reduceLT,Nat.reduceLeDiff,Nat.reduceDiv,reduceIte,reduceCtorEq, d]
theorem upTo1_h (arg n m : Int) : Holds Tryz.prog 80 [.int .i64 arg, .int .i64 n, .ptr (.arg 0) 0] [(.arg 0, [.val (.int .i64 m)])] (fun r h' => r = V.bool (decide (0 ≤ arg) && decide (arg ≤ m)) ∧ h' = [(.arg 0, [.val (.int .i64 m)])]) := by
  refine holds_of_awp Tryz.func80 rfl (by decide +kernel) mixed Tryz.ntmps80 Tryz.results80 ?_
  refine zE ?_
  cases d : decide (0 ≤ arg)
  · simp (maxSteps:=2000000) (disch:=omega) only [go_sem,Nat.reduceAdd,Nat.reduceSub,Nat.reduceMul,Nat.reduceBEq,Nat.reduceEqDiff,Nat.reduceLT,Nat.reduceLeDiff,Nat.reduceDiv,reduceIte,reduceCtorEq, d]
    rfl
  simp (maxSteps:=2000000) (disch:=omega) only [go_sem,Nat.reduceAdd,Nat.reduceSub,Nat.reduceMul,Nat.reduceBEq,Nat.reduceEqDiff,Nat.reduceLT,Nat.reduceLeDiff,Nat.reduceDiv,reduceIte,reduceCtorEq, d]
theorem upTo_h (m : Int) : Holds Tryz.prog 70 [.int .i64 m] [] (fun r h' => r = V.cell (.fn (.func 80) [] [(.loc [1], 0)]) ∧ h' = [(.loc [1], [.val (.int .i64 m)])]) := by
  refine holds_of_awp Tryz.func70 rfl (by decide +kernel) mixed Tryz.ntmps70 Tryz.results70 ?_
  refine zE ?_
  refine zs ?_;try exact trivial
end
section
set_option maxRecDepth 20000
/-! ### the table's cells, and the boxes that its closures hold -/
def tblC (a b c d e : Id) : List C := [.val (.string { data := #[] }), .val (.bool false), .val .nilFunc, .val (.string (strB [112, 117, 115, 104])), .val (.bool true), .fn (.func 71) [] [], .val (.string (strB [108, 111, 97, 100])), .val (.bool true), .fn (.func 80) [] [(b, 0)], .val (.string (strB [115, 116, 111, 114, 101])), .val (.bool true), .fn (.func 80) [] [(c, 0)], .val (.string (strB [97, 100, 100])), .val (.bool false), .fn (.func 80) [] [(a, 0)], .val (.string (strB [115, 117, 98])), .val (.bool false), .fn (.func 80) [] [(a, 0)], .val (.string (strB [109, 117, 108])), .val (.bool false), .fn (.func 80) [] [(a, 0)], .val (.string (strB [100, 105, 118])), .val (.bool false), .fn (.func 80) [] [(a, 0)], .val (.string (strB [109, 105, 110])), .val (.bool false), .fn (.func 80) [] [(a, 0)], .val (.string (strB [109, 97, 120])), .val (.bool false), .fn (.func 80) [] [(a, 0)], .val (.string (strB [108, 101, 115, 115])), .val (.bool false), .fn (.func 80) [] [(a, 0)], .val (.string (strB [115, 97, 109, 101])), .val (.bool false), .fn (.func 80) [] [(a, 0)], .val (.string (strB [110, 111, 116])), .val (.bool false), .fn (.func 80) [] [(a, 0)], .val (.string (strB [100, 117, 112])), .val (.bool false), .fn (.func 80) [] [(a, 0)], .val (.string (strB [115, 119, 97, 112])), .val (.bool false), .fn (.func 80) [] [(a, 0)], .val (.string (strB [100, 114, 111, 112])), .val (.bool false), .fn (.func 80) [] [(a, 0)], .val (.string (strB [105, 110])), .val (.bool true), .fn (.func 80) [] [(d, 0)], .val (.string (strB [102, 114, 97, 109, 101])), .val (.bool false), .fn (.func 80) [] [(a, 0)], .val (.string (strB [106, 117, 109, 112])), .val (.bool true), .fn (.func 72) [] [], .val (.string (strB [122, 101, 114, 111])), .val (.bool true), .fn (.func 72) [] [], .val (.string (strB [119, 105, 110])), .val (.bool true), .fn (.func 80) [] [(e, 0)], .val (.string (strB [114, 97, 110, 100])), .val (.bool false), .fn (.func 80) [] [(a, 0)], .val (.string (strB [104, 97, 108, 116])), .val (.bool false), .fn (.func 80) [] [(a, 0)]]
def tblU (bi : Id → Bool) (bt : Tag → Bool) (a b c d e : Id) : List C := (tblC a b c d e).map (C.clean bi bt)
section
variable {a b c d e : Id} {V' : V → Prop} {r : List C} {ks : List Id} {m : Nat}
@[go_sem] theorem tbl_k {bi : Id → Bool} {bt : Tag → Bool} : (tblC a b c d e).map (C.clean bi bt) = if (bi a || bi b || bi c || bi d || bi e) = true then tblU bi bt a b c d e else tblC a b c d e := by
  split
  · rfl
  rename_i h
  simp only [Bool.or_eq_true, not_or, Bool.not_eq_true] at h
  simp [tblC, C.clean, h]
@[go_sem] theorem tbl_r : (tblC a b c d e).map (C.ren ks m) = tblC (renI ks m a) (renI ks m b) (renI ks m c) (renI ks m d) (renI ks m e) := nr rfl
@[go_sem] theorem tbl_t {ta tb : Tag} : (tblC a b c d e).map (C.retag ta tb) = tblC a b c d e := nr rfl
@[go_sem] theorem tbl_n : (tblC a b c d e).all known = true := nr rfl
@[go_sem] theorem tbl_l : (tblC a b c d e).length = 69 := nr rfl
@[go_sem 1300] theorem tbl_s : spl [.val (.string { data := #[] }), .val (.bool false), .val .nilFunc, .val (.string { data := #[] }), .val (.bool false), .val .nilFunc, .val (.string { data := #[] }), .val (.bool false), .val .nilFunc, .val (.string { data := #[] }), .val (.bool false), .val .nilFunc, .val (.string { data := #[] }), .val (.bool false), .val .nilFunc, .val (.string { data := #[] }), .val (.bool false), .val .nilFunc, .val (.string { data := #[] }), .val (.bool false), .val .nilFunc, .val (.string { data := #[] }), .val (.bool false), .val .nilFunc, .val (.string { data := #[] }), .val (.bool false), .val .nilFunc, .val (.string { data := #[] }), .val (.bool false), .val .nilFunc, .val (.string { data := #[] }), .val (.bool false), .val .nilFunc, .val (.string { data := #[] }), .val (.bool false), .val .nilFunc, .val (.string { data := #[] }), .val (.bool false), .val .nilFunc, .val (.string { data := #[] }), .val (.bool false), .val .nilFunc, .val (.string { data := #[] }), .val (.bool false), .val .nilFunc, .val (.string { data := #[] }), .val (.bool false), .val .nilFunc, .val (.string { data := #[] }), .val (.bool false), .val .nilFunc, .val (.string { data := #[] }), .val (.bool false), .val .nilFunc, .val (.string { data := #[] }), .val (.bool false), .val .nilFunc, .val (.string { data := #[] }), .val (.bool false), .val .nilFunc, .val (.string { data := #[] }), .val (.bool false), .val .nilFunc, .val (.string { data := #[] }), .val (.bool false), .val .nilFunc, .val (.string { data := #[] }), .val (.bool false), .val .nilFunc] 0 (tblC a b c d e) = tblC a b c d e := spl_all rfl
@[go_sem ↓] theorem tbl_w {l : List V} {hp : Heap} {i : Id} {off : Nat} {cs : List C} : St.stow ⟨l, hp⟩ i off cs (tblC a b c d e) = ⟨l, hset hp i (spl cs off (tblC a b c d e))⟩ := by
  have eq : (tblC a b c d e).map (C.clean (fun _ => false) fun _ => true) = tblC a b c d e := by rw [tbl_k]; rfl
  rw [stow_big (show 2 ≤ (tblC a b c d e).length by rw [tbl_l]; omega), eq]
@[go_sem 1300] theorem tbl_td : List.take 69 (List.drop 0 (tblC a b c d e)) = tblC a b c d e := nr rfl
@[go_sem 1300] theorem tbl_ta : List.take 69 (tblC a b c d e) = tblC a b c d e := nr rfl
@[go_sem ↓ 1300] theorem tbl_p : aPt (some true) 69 (tblC a b c d e) 0 V' = V' (.w (.agg (tblC a b c d e))) := by
  simp only [aPt, tbl_l, tbl_td]
  simp
@[go_sem ↓ 1300] theorem tbl_le : leCs (tblC a b c d e) (tblC a b c d e) = True := eq_true (leCs_refl _)
end
abbrev tblH (a b c d e : Id) : Heap := [(e, [.val (.int .i64 2)]), (d, [.val (.int .i64 1)]), (c, [.val (.int .i64 15)]), (b, [.val (.int .i64 15)]), (a, [.val (.int .i64 0)])]
/-- what tells which argument an op may have -/
def mayC (a b c d e : Id) (op : Nat) : C :=
  if op = 1 then .fn (.func 71) [] []
  else if op = 2 then .fn (.func 80) [] [(b, 0)]
  else if op = 3 then .fn (.func 80) [] [(c, 0)]
  else if op = 16 then .fn (.func 80) [] [(d, 0)]
  else if op = 18 ∨ op = 19 then .fn (.func 72) [] []
  else if op = 20 then .fn (.func 80) [] [(e, 0)]
  else .fn (.func 80) [] [(a, 0)]
theorem tbl_may {a b c d e : Id} {op : Nat} (h1 : 1 ≤ op) (h2 : op ≤ 22) : (tblC a b c d e)[op * 3 + 2]? = some (mayC a b c d e op) := by
  have : op = 1 ∨ op = 2 ∨ op = 3 ∨ op = 4 ∨ op = 5 ∨ op = 6 ∨ op = 7 ∨ op = 8 ∨ op = 9 ∨ op = 10 ∨ op = 11 ∨ op = 12 ∨ op = 13 ∨ op = 14 ∨ op = 15 ∨ op = 16 ∨ op = 17 ∨ op = 18 ∨ op = 19 ∨ op = 20 ∨ op = 21 ∨ op = 22 := by omega
  rcases this with rfl | rfl | rfl | rfl | rfl | rfl | rfl | rfl | rfl | rfl | rfl | rfl | rfl | rfl | rfl | rfl | rfl | rfl | rfl | rfl | rfl | rfl <;> rfl
theorem ex_some9 {α : Type} {q : Option α} {x : α} {K : α → Prop} (h : q = some x) : (∃ c, q = some c ∧ K c) = K x := by subst h; simp
@[go_sem ↓ 1300] theorem m_may {a b c d e : Id} {op : Nat} {K : C → Prop} (h1 : 1 ≤ op) (h2 : op ≤ 22) : (∃ x, (tblC a b c d e)[op * 3 + 2]? = some x ∧ K x) = K (mayC a b c d e op) := ex_some9 (tbl_may h1 h2)
set_option maxHeartbeats 2000000 in
theorem table_h : Holds Tryz.prog 60 [] [] (fun r h' => r = .w (.agg (tblC (.loc [2, 0, 1]) (.loc [4, 0, 1]) (.loc [6, 0, 1]) (.loc [32, 0, 1]) (.loc [38, 0, 1]))) ∧ h' = tblH (.loc [2, 0, 1]) (.loc [4, 0, 1]) (.loc [6, 0, 1]) (.loc [32, 0, 1]) (.loc [38, 0, 1])) := by
  refine holds_of_awp Tryz.func60 rfl (by decide +kernel) mixed Tryz.ntmps60 Tryz.results60 ?_
  refine zE ?_
  unfold tblC
  refine zs ?_;try exact trivial
  refine a_call [] (upTo_h 0) ok0 ?_ ?_ ?_
  · refine zs ?_;try exact trivial
  · refine zs ?_;try exact trivial
  rintro _ _ ⟨rfl, rfl⟩
  refine zs ?_;try exact trivial
  refine a_call [] (upTo_h 15) ok0 ?_ ?_ ?_
  · refine zs ?_;try exact trivial
  · refine zs ?_;try exact trivial
  rintro _ _ ⟨rfl, rfl⟩
  refine zs ?_;try exact trivial
  refine a_call [] (upTo_h 15) ok0 ?_ ?_ ?_
  · refine zs ?_;try exact trivial
  · refine zs ?_;try exact trivial
  rintro _ _ ⟨rfl, rfl⟩
  refine zs ?_;try exact trivial
  refine a_call [] (upTo_h 1) ok0 ?_ ?_ ?_
  · refine zs ?_;try exact trivial
  · refine zs ?_;try exact trivial
  rintro _ _ ⟨rfl, rfl⟩
  refine zs ?_;try exact trivial
  refine a_call [] (upTo_h 2) ok0 ?_ ?_ ?_
  · refine zs ?_;try exact trivial
  · refine zs ?_;try exact trivial
  rintro _ _ ⟨rfl, rfl⟩
  refine zs ?_;try exact trivial
  try (refine zs ?_; try exact trivial)
  exact leCs_refl _
end
section
theorem rcheck_h (l : List (Int × Int)) (hl : l.length ≤ 9223372036854775807) : Holds Tryz.prog 37 [.c (.lst .no none 2 (ins l))] [] (fun r h' => r = .tup [.int .i64 (chkP l).1, .int .i64 (chkP l).2] ∧ h' = []) := by
  refine holds_of_awp Tryz.func37 rfl (by decide +kernel) mixed Tryz.ntmps37 Tryz.results37 ?_
  refine zE ?_
  refine zs ?_;try exact trivial
  refine c_dec (fun h => ?_) (fun h => ?_)
  · rw [chkP_long (by omega)]
    refine zs ?_;try exact trivial
  refine a_loopk (fun i : Nat => ⟨[V.cell (.lst .no none 2 (ins l)), U, U, U, V.int .i64 i, U, U, U, U, U, U, U, U, U, U, U, U, U, U, U, U, U, .undef], []⟩) (fun i => i ≤ l.length ∧ i ≤ firstBad l l.length) (l.length - ·) 0 ⟨by omega, by omega⟩ ?_ ?_
  · try (refine zs ?_; try exact trivial)
  rintro i ⟨hi, hb⟩
  refine zs ?_;try exact trivial
  refine c_dec (fun h2 => ?_) (fun h2 => ?_)
  · refine zs ?_;try exact trivial
    refine a_call [] (rmay_h (gi l i).1 (gi l i).2 l.length) ok0 ?_ ?_ ?_
    · refine zs ?_;try exact trivial
    · refine zs ?_;try exact trivial
    rintro _ _ ⟨rfl, rfl⟩
    cases dm : mayP (gi l i).1 (gi l i).2 l.length
    · have e := chkP_bad (by omega) hb (by omega) dm
      rw [e]
      simp (maxSteps:=2000000) (disch:=omega) only [go_sem,Nat.reduceAdd,Nat.reduceSub,Nat.reduceMul,Nat.reduceBEq,Nat.reduceEqDiff,Nat.reduceLT,Nat.reduceLeDiff,Nat.reduceDiv,reduceIte,reduceCtorEq, dm]
    simp (maxSteps:=2000000) (disch:=omega) only [go_sem,Nat.reduceAdd,Nat.reduceSub,Nat.reduceMul,Nat.reduceBEq,Nat.reduceEqDiff,Nat.reduceLT,Nat.reduceLeDiff,Nat.reduceDiv,reduceIte,reduceCtorEq, dm]
    exact ⟨i + 1, by omega, ⟨by omega, firstBad_up hb (by omega) dm⟩, by congr 1⟩
  have e : i = l.length := by omega
  subst e
  rw [chkP_ok (by omega) hb]
  refine zs ?_;try exact trivial
set_option maxRecDepth 20000 in
set_option maxHeartbeats 2000000 in
theorem check_h9 (l : List (Int × Int)) (hl : l.length ≤ 9223372036854775807) : Holds Tryz.prog 36 [.c (.lst .no none 2 (ins l))] [] (fun r h' => r = .tup [.int .i64 (chkP l).1, .int .i64 (chkP l).2] ∧ h' = []) := by
  refine holds_of_awp Tryz.func36 rfl (by decide +kernel) mixed Tryz.ntmps36 Tryz.results36 ?_
  refine zE ?_
  refine zs ?_;try exact trivial
  refine c_dec (fun h => ?_) (fun h => ?_)
  · rw [chkP_long (by omega)]
    refine zs ?_;try exact trivial
  refine zs ?_;try exact trivial
  refine a_call [] (table_h) ok0 ?_ ?_ ?_
  · refine zs ?_;try exact trivial
  · refine zs ?_;try exact trivial
  rintro _ _ ⟨rfl, rfl⟩
  refine zs ?_;try exact trivial
  refine a_loopk (fun i : Nat => ⟨[V.cell (.lst .no none 2 (ins l)), U, U, U, V.cell (.ptr (.loc [4]) 0), U, U, U, U, U, U, V.cell (.lst .no none 2 (ins l)), V.int .i64 l.length, V.int .i64 i, U, U, U, U, U, U, U, U, U, U, U, U, U, U, U, U, U, U, U, U, U, U, .undef], (.loc [4], tblC (.loc [10, 0, 2, 0, 1]) (.loc [10, 0, 4, 0, 1]) (.loc [10, 0, 6, 0, 1]) (.loc [10, 0, 32, 0, 1]) (.loc [10, 0, 38, 0, 1])) :: tblH (.loc [10, 0, 2, 0, 1]) (.loc [10, 0, 4, 0, 1]) (.loc [10, 0, 6, 0, 1]) (.loc [10, 0, 32, 0, 1]) (.loc [10, 0, 38, 0, 1])⟩) (fun i => i ≤ l.length ∧ i ≤ firstBad l l.length) (l.length - ·) 0 ⟨by omega, by omega⟩ ?_ ?_
  · try (refine zs ?_; try exact trivial)
  rintro i ⟨hi, hb⟩
  refine zs ?_;try exact trivial
  refine c_dec (fun h2 => ?_) (fun h2 => ?_)
  · have hs := firstBad_up hb (by omega)
    have hx := chkP_bad (l := l) (i := i) (by omega) hb (by omega)
    refine zs ?_;try exact trivial
    generalize gi l i = x at *
    obtain ⟨op, arg⟩ := x
    refine a_drawC (⟨[V.cell (.lst .no none 2 (ins l)), U, U, U, V.cell (.ptr (.loc [4]) 0), V.int .i64 i, U, U, U, U, U, V.cell (.lst .no none 2 (ins l)), V.int .i64 l.length, V.int .i64 i, U, U, U, U, U, U, U, U, U, U, U, U, U, U, U, U, U, U, U, U, V.bool (!mayP op arg l.length), .undef, .undef], (.loc [4], tblC (.loc [10, 0, 2, 0, 1]) (.loc [10, 0, 4, 0, 1]) (.loc [10, 0, 6, 0, 1]) (.loc [10, 0, 32, 0, 1]) (.loc [10, 0, 38, 0, 1])) :: tblH (.loc [10, 0, 2, 0, 1]) (.loc [10, 0, 4, 0, 1]) (.loc [10, 0, 6, 0, 1]) (.loc [10, 0, 32, 0, 1]) (.loc [10, 0, 38, 0, 1])⟩) (.take 0 (.both [(1, .both [(2, .take 3 (.take 4 (.take 5 (.take 10 (.take 12 (.take 13 (.both [(6, .take 7 (.take 8 (.both [(9, .both [(11, .both [(14, .take 15 (.take 16 (.done)))])]), (11, .both [(9, .both [(14, .take 15 (.take 16 (.done)))])])]))), (11, .both [(6, .take 7 (.take 8 (.both [(9, .both [(14, .take 15 (.take 16 (.done)))])])))])])))))))])])) (by kernel_rfl) (by kernel_rfl) ?_ ?_
    · refine zs ?_;try exact trivial
      refine a_call [] (isOp_h op) ok0 ?_ ?_ ?_
      · refine zs ?_;try exact trivial
      · refine zs ?_;try exact trivial
      rintro _ _ ⟨rfl, rfl⟩
      by_cases ho : 1 ≤ op ∧ op ≤ 22
      · have d : (decide (1 ≤ op) && decide (op ≤ 22)) = true := by simp [ho]
        have ho1 := ho.1
        have ho2 := ho.2
        simp (maxSteps:=2000000) (disch:=omega) only [go_sem,Nat.reduceAdd,Nat.reduceSub,Nat.reduceMul,Nat.reduceBEq,Nat.reduceEqDiff,Nat.reduceLT,Nat.reduceLeDiff,Nat.reduceDiv,reduceIte,reduceCtorEq, d]
        by_cases q1 : op = 1
        · have hm : mayC (.loc [10, 0, 2, 0, 1]) (.loc [10, 0, 4, 0, 1]) (.loc [10, 0, 6, 0, 1]) (.loc [10, 0, 32, 0, 1]) (.loc [10, 0, 38, 0, 1]) op.toNat = .fn (.func 71) [] [] := by
            have q' : op.toNat = 1 := by omega
            simp [mayC, q']
          have dm : mayP op arg l.length = (decide (-2147483648 ≤ arg) && decide (arg ≤ 2147483647)) := by simp [mayP, q1]
          simp (maxSteps:=2000000) (disch:=omega) only [go_sem,Nat.reduceAdd,Nat.reduceSub,Nat.reduceMul,Nat.reduceBEq,Nat.reduceEqDiff,Nat.reduceLT,Nat.reduceLeDiff,Nat.reduceDiv,reduceIte,reduceCtorEq, hm]
          refine a_call [] (number_h arg l.length) ok0 ?_ ?_ ?_
          · refine zs ?_;try exact trivial
          · refine zs ?_;try exact trivial
          rintro _ _ ⟨rfl, rfl⟩
          simp (maxSteps:=2000000) (disch:=omega) only [go_sem,Nat.reduceAdd,Nat.reduceSub,Nat.reduceMul,Nat.reduceBEq,Nat.reduceEqDiff,Nat.reduceLT,Nat.reduceLeDiff,Nat.reduceDiv,reduceIte,reduceCtorEq, dm]
        by_cases q2 : op = 2
        · have hm : mayC (.loc [10, 0, 2, 0, 1]) (.loc [10, 0, 4, 0, 1]) (.loc [10, 0, 6, 0, 1]) (.loc [10, 0, 32, 0, 1]) (.loc [10, 0, 38, 0, 1]) op.toNat = .fn (.func 80) [] [(.loc [10, 0, 4, 0, 1], 0)] := by
            have q' : op.toNat = 2 := by omega
            simp [mayC, q']
          have dm : mayP op arg l.length = (decide (0 ≤ arg) && decide (arg ≤ 15)) := by simp [mayP, q2]
          simp (maxSteps:=2000000) (disch:=omega) only [go_sem,Nat.reduceAdd,Nat.reduceSub,Nat.reduceMul,Nat.reduceBEq,Nat.reduceEqDiff,Nat.reduceLT,Nat.reduceLeDiff,Nat.reduceDiv,reduceIte,reduceCtorEq, hm]
          refine a_call [.loc [10, 0, 4, 0, 1]] (upTo1_h arg l.length 15) (ok1 rfl) ?_ ?_ ?_
          · refine zs ?_;try exact trivial
          · refine zs ?_;try exact trivial
          rintro _ _ ⟨rfl, rfl⟩
          simp (maxSteps:=2000000) (disch:=omega) only [go_sem,Nat.reduceAdd,Nat.reduceSub,Nat.reduceMul,Nat.reduceBEq,Nat.reduceEqDiff,Nat.reduceLT,Nat.reduceLeDiff,Nat.reduceDiv,reduceIte,reduceCtorEq, dm]
        by_cases q3 : op = 3
        · have hm : mayC (.loc [10, 0, 2, 0, 1]) (.loc [10, 0, 4, 0, 1]) (.loc [10, 0, 6, 0, 1]) (.loc [10, 0, 32, 0, 1]) (.loc [10, 0, 38, 0, 1]) op.toNat = .fn (.func 80) [] [(.loc [10, 0, 6, 0, 1], 0)] := by
            have q' : op.toNat = 3 := by omega
            simp [mayC, q']
          have dm : mayP op arg l.length = (decide (0 ≤ arg) && decide (arg ≤ 15)) := by simp [mayP, q3]
          simp (maxSteps:=2000000) (disch:=omega) only [go_sem,Nat.reduceAdd,Nat.reduceSub,Nat.reduceMul,Nat.reduceBEq,Nat.reduceEqDiff,Nat.reduceLT,Nat.reduceLeDiff,Nat.reduceDiv,reduceIte,reduceCtorEq, hm]
          refine a_call [.loc [10, 0, 6, 0, 1]] (upTo1_h arg l.length 15) (ok1 rfl) ?_ ?_ ?_
          · refine zs ?_;try exact trivial
          · refine zs ?_;try exact trivial
          rintro _ _ ⟨rfl, rfl⟩
          simp (maxSteps:=2000000) (disch:=omega) only [go_sem,Nat.reduceAdd,Nat.reduceSub,Nat.reduceMul,Nat.reduceBEq,Nat.reduceEqDiff,Nat.reduceLT,Nat.reduceLeDiff,Nat.reduceDiv,reduceIte,reduceCtorEq, dm]
        by_cases q16 : op = 16
        · have hm : mayC (.loc [10, 0, 2, 0, 1]) (.loc [10, 0, 4, 0, 1]) (.loc [10, 0, 6, 0, 1]) (.loc [10, 0, 32, 0, 1]) (.loc [10, 0, 38, 0, 1]) op.toNat = .fn (.func 80) [] [(.loc [10, 0, 32, 0, 1], 0)] := by
            have q' : op.toNat = 16 := by omega
            simp [mayC, q']
          have dm : mayP op arg l.length = (decide (0 ≤ arg) && decide (arg ≤ 1)) := by simp [mayP, q16]
          simp (maxSteps:=2000000) (disch:=omega) only [go_sem,Nat.reduceAdd,Nat.reduceSub,Nat.reduceMul,Nat.reduceBEq,Nat.reduceEqDiff,Nat.reduceLT,Nat.reduceLeDiff,Nat.reduceDiv,reduceIte,reduceCtorEq, hm]
          refine a_call [.loc [10, 0, 32, 0, 1]] (upTo1_h arg l.length 1) (ok1 rfl) ?_ ?_ ?_
          · refine zs ?_;try exact trivial
          · refine zs ?_;try exact trivial
          rintro _ _ ⟨rfl, rfl⟩
          simp (maxSteps:=2000000) (disch:=omega) only [go_sem,Nat.reduceAdd,Nat.reduceSub,Nat.reduceMul,Nat.reduceBEq,Nat.reduceEqDiff,Nat.reduceLT,Nat.reduceLeDiff,Nat.reduceDiv,reduceIte,reduceCtorEq, dm]
        by_cases q18 : op = 18 ∨ op = 19
        · have hm : mayC (.loc [10, 0, 2, 0, 1]) (.loc [10, 0, 4, 0, 1]) (.loc [10, 0, 6, 0, 1]) (.loc [10, 0, 32, 0, 1]) (.loc [10, 0, 38, 0, 1]) op.toNat = .fn (.func 72) [] [] := by
            have q' : op.toNat = 18 ∨ op.toNat = 19 := by omega
            have q'' : ¬ op.toNat = 1 ∧ ¬ op.toNat = 2 ∧ ¬ op.toNat = 3 ∧ ¬ op.toNat = 16 := by omega
            simp [mayC, q', q'']
          have dm : mayP op arg l.length = (decide (0 ≤ arg) && decide (arg ≤ l.length)) := by simp [mayP, q18, q1, q2, q3, q16]
          simp (maxSteps:=2000000) (disch:=omega) only [go_sem,Nat.reduceAdd,Nat.reduceSub,Nat.reduceMul,Nat.reduceBEq,Nat.reduceEqDiff,Nat.reduceLT,Nat.reduceLeDiff,Nat.reduceDiv,reduceIte,reduceCtorEq, hm]
          refine a_call [] (place_h arg l.length) ok0 ?_ ?_ ?_
          · refine zs ?_;try exact trivial
          · refine zs ?_;try exact trivial
          rintro _ _ ⟨rfl, rfl⟩
          simp (maxSteps:=2000000) (disch:=omega) only [go_sem,Nat.reduceAdd,Nat.reduceSub,Nat.reduceMul,Nat.reduceBEq,Nat.reduceEqDiff,Nat.reduceLT,Nat.reduceLeDiff,Nat.reduceDiv,reduceIte,reduceCtorEq, dm]
        by_cases q20 : op = 20
        · have hm : mayC (.loc [10, 0, 2, 0, 1]) (.loc [10, 0, 4, 0, 1]) (.loc [10, 0, 6, 0, 1]) (.loc [10, 0, 32, 0, 1]) (.loc [10, 0, 38, 0, 1]) op.toNat = .fn (.func 80) [] [(.loc [10, 0, 38, 0, 1], 0)] := by
            have q' : op.toNat = 20 := by omega
            simp [mayC, q']
          have dm : mayP op arg l.length = (decide (0 ≤ arg) && decide (arg ≤ 2)) := by simp [mayP, q20]
          simp (maxSteps:=2000000) (disch:=omega) only [go_sem,Nat.reduceAdd,Nat.reduceSub,Nat.reduceMul,Nat.reduceBEq,Nat.reduceEqDiff,Nat.reduceLT,Nat.reduceLeDiff,Nat.reduceDiv,reduceIte,reduceCtorEq, hm]
          refine a_call [.loc [10, 0, 38, 0, 1]] (upTo1_h arg l.length 2) (ok1 rfl) ?_ ?_ ?_
          · refine zs ?_;try exact trivial
          · refine zs ?_;try exact trivial
          rintro _ _ ⟨rfl, rfl⟩
          simp (maxSteps:=2000000) (disch:=omega) only [go_sem,Nat.reduceAdd,Nat.reduceSub,Nat.reduceMul,Nat.reduceBEq,Nat.reduceEqDiff,Nat.reduceLT,Nat.reduceLeDiff,Nat.reduceDiv,reduceIte,reduceCtorEq, dm]
        have hm : mayC (.loc [10, 0, 2, 0, 1]) (.loc [10, 0, 4, 0, 1]) (.loc [10, 0, 6, 0, 1]) (.loc [10, 0, 32, 0, 1]) (.loc [10, 0, 38, 0, 1]) op.toNat = .fn (.func 80) [] [(.loc [10, 0, 2, 0, 1], 0)] := by
          have : ¬ op.toNat = 1 ∧ ¬ op.toNat = 2 ∧ ¬ op.toNat = 3 ∧ ¬ op.toNat = 16 ∧ ¬ (op.toNat = 18 ∨ op.toNat = 19) ∧ ¬ op.toNat = 20 := by omega
          simp [mayC, this]
        have dm : mayP op arg l.length = (decide (0 ≤ arg) && decide (arg ≤ 0)) := by
          unfold mayP
          rw [if_neg q1, if_neg (by omega), if_neg q16, if_neg q18, if_neg q20, d, Bool.true_and]
          rw [Bool.eq_iff_iff]
          simp
          omega
        simp (maxSteps:=2000000) (disch:=omega) only [go_sem,Nat.reduceAdd,Nat.reduceSub,Nat.reduceMul,Nat.reduceBEq,Nat.reduceEqDiff,Nat.reduceLT,Nat.reduceLeDiff,Nat.reduceDiv,reduceIte,reduceCtorEq, hm]
        refine a_call [.loc [10, 0, 2, 0, 1]] (upTo1_h arg l.length 0) (ok1 rfl) ?_ ?_ ?_
        · refine zs ?_;try exact trivial
        · refine zs ?_;try exact trivial
        rintro _ _ ⟨rfl, rfl⟩
        simp (maxSteps:=2000000) (disch:=omega) only [go_sem,Nat.reduceAdd,Nat.reduceSub,Nat.reduceMul,Nat.reduceBEq,Nat.reduceEqDiff,Nat.reduceLT,Nat.reduceLeDiff,Nat.reduceDiv,reduceIte,reduceCtorEq, dm]
      have d : (decide (1 ≤ op) && decide (op ≤ 22)) = false := by
        have := mayP_not (arg := 0) (n := 0) ho
        simp; omega
      have dm := mayP_not (arg := arg) (n := l.length) ho
      simp (maxSteps:=2000000) (disch:=omega) only [go_sem,Nat.reduceAdd,Nat.reduceSub,Nat.reduceMul,Nat.reduceBEq,Nat.reduceEqDiff,Nat.reduceLT,Nat.reduceLeDiff,Nat.reduceDiv,reduceIte,reduceCtorEq, d, dm]
    cases dm : mayP op arg l.length
    · rw [hx dm]
      simp (maxSteps:=2000000) (disch:=omega) only [go_sem,Nat.reduceAdd,Nat.reduceSub,Nat.reduceMul,Nat.reduceBEq,Nat.reduceEqDiff,Nat.reduceLT,Nat.reduceLeDiff,Nat.reduceDiv,reduceIte,reduceCtorEq, dm]
    simp (maxSteps:=2000000) (disch:=omega) only [go_sem,Nat.reduceAdd,Nat.reduceSub,Nat.reduceMul,Nat.reduceBEq,Nat.reduceEqDiff,Nat.reduceLT,Nat.reduceLeDiff,Nat.reduceDiv,reduceIte,reduceCtorEq, dm]
    exact ⟨i + 1, by omega, ⟨by omega, hs dm⟩, by congr 1⟩
  have e : i = l.length := by omega
  subst e
  rw [chkP_ok (by omega) hb]
  refine zs ?_;try exact trivial
end
section
/-- what is wrong with a game -/
def gameP (l : List (Int × Int)) (cap fuel : Int) : Int := if (chkP l).2 ≠ 0 then (chkP l).2 else if cap < 1 ∨ 600 < cap ∨ fuel < 1 ∨ 2000 < fuel then 1 else 0
abbrev W.game (l : List (Int × Int)) (cap fuel : Int) : W := .agg [.lst .no none 2 (ins l), .val (.int .i64 cap), .val (.int .i64 fuel)]
def startS (seed : UInt32) : Sta := stz 0 (UInt32.ofNat (max 1 (U32 seed)).toNat)
theorem gcheck_h (l : List (Int × Int)) (cap fuel : Int) (hl : l.length ≤ 9223372036854775807) : Holds Tryz.prog 19 [.game l cap fuel] [] (fun r h' => r = .int .i64 (gameP l cap fuel) ∧ h' = []) := by
  refine holds_of_awp Tryz.func19 rfl (by decide +kernel) mixed Tryz.ntmps19 Tryz.results19 ?_
  refine zE ?_
  refine zs ?_;try exact trivial
  refine a_call [] (check_h9 l hl) ok0 ?_ ?_ ?_
  · refine zs ?_;try exact trivial
  · refine zs ?_;try exact trivial
  rintro _ _ ⟨rfl, rfl⟩
  refine zs ?_;try exact trivial
  refine c_dec (fun h => ?_) (fun h => ?_)
  · have e : gameP l cap fuel = (chkP l).2 := by unfold gameP; rw [if_pos h]
    rw [e]
    refine zs ?_;try exact trivial
  have e0 : ¬ (chkP l).2 ≠ 0 := h
  refine zs ?_;try exact trivial
  cases d1 : decide (cap < 1)
  · cases d2 : decide (600 < cap)
    · cases d3 : decide (fuel < 1)
      · simp (maxSteps:=2000000) (disch:=omega) only [go_sem,Nat.reduceAdd,Nat.reduceSub,Nat.reduceMul,Nat.reduceBEq,Nat.reduceEqDiff,Nat.reduceLT,Nat.reduceLeDiff,Nat.reduceDiv,reduceIte,reduceCtorEq, d1, d2, d3]
        have f1 := of_decide_eq_false d1
        have f2 := of_decide_eq_false d2
        have f3 := of_decide_eq_false d3
        refine c_dec (fun h => ?_) (fun h => ?_)
        · have e : gameP l cap fuel = 1 := by unfold gameP; rw [if_neg e0, if_pos (by omega)]
          rw [e]
          refine zs ?_;try exact trivial
        have e : gameP l cap fuel = 0 := by unfold gameP; rw [if_neg e0, if_neg (by omega)]
        rw [e]
        refine zs ?_;try exact trivial
      have f := of_decide_eq_true d3
      have e : gameP l cap fuel = 1 := by unfold gameP; rw [if_neg e0, if_pos (by omega)]
      rw [e]
      simp (maxSteps:=2000000) (disch:=omega) only [go_sem,Nat.reduceAdd,Nat.reduceSub,Nat.reduceMul,Nat.reduceBEq,Nat.reduceEqDiff,Nat.reduceLT,Nat.reduceLeDiff,Nat.reduceDiv,reduceIte,reduceCtorEq, d1, d2, d3]
    have f := of_decide_eq_true d2
    have e : gameP l cap fuel = 1 := by unfold gameP; rw [if_neg e0, if_pos (by omega)]
    rw [e]
    simp (maxSteps:=2000000) (disch:=omega) only [go_sem,Nat.reduceAdd,Nat.reduceSub,Nat.reduceMul,Nat.reduceBEq,Nat.reduceEqDiff,Nat.reduceLT,Nat.reduceLeDiff,Nat.reduceDiv,reduceIte,reduceCtorEq, d1, d2]
  have f := of_decide_eq_true d1
  have e : gameP l cap fuel = 1 := by unfold gameP; rw [if_neg e0, if_pos (by omega)]
  rw [e]
  simp (maxSteps:=2000000) (disch:=omega) only [go_sem,Nat.reduceAdd,Nat.reduceSub,Nat.reduceMul,Nat.reduceBEq,Nat.reduceEqDiff,Nat.reduceLT,Nat.reduceLeDiff,Nat.reduceDiv,reduceIte,reduceCtorEq, d1]
theorem start_h (seed : UInt32) : Holds Tryz.prog 20 [.c (.val (.int .u32 (U32 seed)))] [] (fun r h' => r = .w (.agg ((sd (startS seed)).map D.toC)) ∧ h' = []) := by
  have hb : 0 ≤ max 1 (U32 seed) ∧ max 1 (U32 seed) < 4294967296 := by
    have := seed.toNat_lt
    unfold U32
    omega
  refine holds_of_awp Tryz.func20 rfl (by decide +kernel) mixed Tryz.ntmps20 Tryz.results20 ?_
  refine zE ?_
  refine zs ?_;try exact trivial
  have e : U32 (UInt32.ofNat (max 1 (U32 seed)).toNat) = max 1 (U32 seed) := by
    have h : ∀ z : Int, 0 ≤ z ∧ z < 4294967296 → U32 (UInt32.ofNat z.toNat) = z := fun z hz => by unfold U32; rw [UInt32.toNat_ofNat']; omega
    exact h _ hb
  simp only [startS, sd, stz]
  rw [e]
  exact leCs_refl _
theorem start0_h : Holds Tryz.prog 20 [.c (.val (.int .u32 0))] [] (fun r h' => r = .w (.agg ((sd (startS 0)).map D.toC)) ∧ h' = []) := start_h 0
/-- a match of a game that is right -/
def ctNew (l : List (Int × Int)) (cap fuel : Int) : Ct := ⟨l, cap, fuel, 0, 0, 0, 0, 0, false, 0, 0, false, [], [], [], startS 0, []⟩
theorem new_bad18 (l : List (Int × Int)) (cap fuel : Int) (hl : l.length ≤ 9223372036854775807) (hg : gameP l cap fuel ≠ 0) : Holds Tryz.prog 6 [.game l cap fuel] [] (fun r h' => r = .tup [.c (.val (.pointer none)), .int .i64 (gameP l cap fuel)] ∧ h' = []) := by
  refine holds_of_awp Tryz.func6 rfl (by decide +kernel) mixed Tryz.ntmps6 Tryz.results6 ?_
  refine zE ?_
  refine zs ?_;try exact trivial
  refine a_call [] (gcheck_h l cap fuel hl) ok0 ?_ ?_ ?_
  · refine zs ?_;try exact trivial
  · refine zs ?_;try exact trivial
  rintro _ _ ⟨rfl, rfl⟩
  refine zs ?_;try exact trivial
  refine c_dec (fun h => ?_) (fun h => ?_)
  · refine zs ?_;try exact trivial
  exact (h hg).elim
theorem game_len {l : List (Int × Int)} {cap fuel : Int} (hg : gameP l cap fuel = 0) : l.length ≤ 256 := by
  rcases Nat.lt_or_ge 256 l.length with q | q
  · unfold gameP at hg
    rw [chkP_long q] at hg
    simp at hg
  exact q
theorem nil_row {τ : Tag} {sz : Nat} (h : (Own.tag τ).lax = true) (h0 : 0 < sz) : leC (.lst (.tag τ) none sz []) (.lst .full (some true) 1 []) := by
  simp [leC, h, h0]
theorem no_row {o : Own} {nl : Option Bool} {sz : Nat} {xs : List D} : leC (.lst .no none sz xs) (.lst o nl sz xs) := by
  simp [leC]
@[go_sem 1300] theorem ct_lit {rc r0 r1 rp re : C} {cap fuel : Int} {s : Sta} : spl [rc, .val (.int .i64 cap), .val (.int .i64 fuel), .val (.int .i64 0), .val (.int .i64 0), .val (.int .u32 0), .val (.int .i64 0), .val (.int .i64 0), .val (.int .i64 0), .val (.int .i64 0), .val (.bool false), .val (.int .i64 0), .val (.int .i64 0), .val (.bool false), r0, r1, rp, .val (.int .i64 0), .val (.int .i32 0), .val (.int .i32 0), .val (.int .i32 0), .val (.int .i32 0), .val (.int .i32 0), .val (.int .i32 0), .val (.int .i32 0), .val (.int .i32 0), .val (.int .i32 0), .val (.int .i32 0), .val (.int .i32 0), .val (.int .i32 0), .val (.int .i32 0), .val (.int .i32 0), .val (.int .i32 0), .val (.int .i32 0), .val (.int .u32 0), .val (.bool false), .val (.int .i64 0), re] 17 ((sd s).map D.toC) = ctC rc cap fuel 0 0 0 0 0 0 0 false 0 0 false r0 r1 rp s re := by
  show spl (ctC rc cap fuel 0 0 0 0 0 0 0 false 0 0 false r0 r1 rp (stz 0 0) re) 17 ((sd s).map D.toC) = _
  exact ct_ss
set_option maxHeartbeats 1000000 in
theorem new_ok18 (l : List (Int × Int)) (cap fuel : Int) (hl : l.length ≤ 9223372036854775807) (hg : gameP l cap fuel = 0) : Holds Tryz.prog 6 [.game l cap fuel] [] (fun r h' => r = .tup [.c (.ptr (.loc [14]) 0), .int .i64 0] ∧ h' = [(.loc [14], ctB (.loc [14]) (ctNew l cap fuel))]) := by
  have hl2 := game_len hg
  refine holds_of_awp Tryz.func6 rfl (by decide +kernel) mixed Tryz.ntmps6 Tryz.results6 ?_
  refine zE ?_
  refine zs ?_;try exact trivial
  refine a_call [] (gcheck_h l cap fuel hl) ok0 ?_ ?_ ?_
  · refine zs ?_;try exact trivial
  · refine zs ?_;try exact trivial
  rintro _ _ ⟨rfl, rfl⟩
  rw [hg]
  refine zc ?_;try exact trivial
  refine a_drawC (⟨[.undef, V.cell (.ptr (.loc [1]) 0), U, U, U, V.cell (.ptr (.loc [14]) 0), U, U, U, U, U, U, U, U, U, U, U, U, U, U, U, U, .undef], [(.loc [14], ctB (.loc [14]) (ctNew l cap fuel)), (.loc [1], [.lst .no none 2 (ins l), .val (.int .i64 cap), .val (.int .i64 fuel)])]⟩) (.both [(0, .both [(1, .both [(2, .both [(3, .take 4 (.done))])])]), (1, .both [(0, .both [(2, .both [(3, .take 4 (.done))])])])]) (by kernel_rfl) (by kernel_rfl) ?_ ?_
  · refine zc ?_;try exact trivial
    repeat' (with_reducible apply And.intro)
    all_goals (
      refine a_call [] (start0_h) ok0 ?_ ?_ ?_
      · refine zs ?_;try exact trivial
      · refine zs ?_;try exact trivial
      rintro _ _ ⟨rfl, rfl⟩
      refine zc ?_;try exact trivial
      exact ct_le ⟨leC_refl _, rfl, rfl, rfl, rfl, rfl, rfl, rfl, rfl, rfl, rfl, rfl, rfl, rfl, nil_row rfl (by omega), nil_row rfl (by omega), nil_row rfl (by omega), rfl, nil_row rfl (by omega)⟩)
  refine zc ?_;try exact trivial
  refine a_call [] (cloneI_h l (by omega)) ok0 ?_ ?_ ?_
  · refine zs ?_;try exact trivial
  · refine zs ?_;try exact trivial
  rintro _ _ ⟨rfl, rfl⟩
  refine zc ?_;try exact trivial
  exact ct_le ⟨no_row, rfl, rfl, rfl, rfl, rfl, rfl, rfl, rfl, rfl, rfl, rfl, rfl, rfl, leC_refl _, leC_refl _, leC_refl _, rfl, leC_refl _⟩
end
section
open Go Go.RowKit Go.ChangeShapes Go.WideShapes
theorem trod_flats {H : Type} {enc : TypeId × Value → H} {P : Program} {W : World} {t e : TypeId} {ks : List (Option IntKind)} {cs : List Value} {x : DataW H × List MemPlace} {fuel sz : Nat}
    (hu : P.underlying t = some (.slice e)) (hk : flatK P 8 e = some ks) (hsz : ks.length = sz) (h0 : 0 < sz)
    (hf : DataW.trod enc P W 0 (fun _ => true) true fuel t cs = some x) :
    ∃ (v : Value) (L : List (List Value)), cs = [v] ∧ (∀ q ∈ L, All2 okV ks q) ∧ L.length ≤ maxLen ∧ RelC (ghOf W) (.lst .no none sz (L.flatten.map D.val)) v := by
  rcases Go.Deep.open_slice hu hf with ⟨rfl, _⟩ | ⟨x, l, c, m, n, D', Pl, rfl, _, hl, hm, hmm, _, hx⟩
  · exact ⟨_, [], rfl, by simp, by simp, ⟨RelD.nil (by simp) h0, trivial⟩⟩
  have hlm : l ≤ m := by rw [hmm]; simp only [if_true]; exact hl
  have hV : ∀ i, i < l → ∃ cs' : List Value, (∀ j, j < sz → W.cell? (x.add (i * sz + j)) = cs'[j]?) ∧ All2 okV ks cs' := by
    intro i hi
    obtain ⟨cs', h1, h2⟩ := hx i (by omega)
    have h3 := flat_trod 8 hk h2
    obtain ⟨_, h4, h5⟩ := World.cells?_some h1
    have h6 : P.cellsOf e = sz := by rw [← h4, ← h3.length, hsz]
    rw [h6] at h5
    refine ⟨cs', fun j hj => ?_, h3⟩
    rw [← add_of_add]
    exact h5 j hj
  obtain ⟨V, hV⟩ := Go.Deep.choose_lt hV
  have hL : ∀ q ∈ (List.range l).map V, All2 okV ks q := by
    intro q hq
    simp only [List.mem_map, List.mem_range] at hq
    obtain ⟨i, hi, rfl⟩ := hq
    exact (hV i hi).2
  have hl2 : ∀ q ∈ (List.range l).map V, q.length = sz := fun q hq => by rw [← (hL q hq).length, hsz]
  obtain ⟨f1, f2⟩ := flat_row _ hl2
  rw [List.length_map, List.length_range] at f1
  refine ⟨_, (List.range l).map V, rfl, hL, by simp; omega, ⟨RelD.mk (by simp) h0 (by simp only [List.length_map, f1]) hl hm ?_, trivial⟩⟩
  intro i dd hi
  rw [List.getElem?_map, Option.map_eq_some_iff] at hi
  obtain ⟨u, hu2, rfl⟩ := hi
  have hlt := (List.getElem?_eq_some_iff.1 hu2).1
  rw [f1] at hlt
  have e1 : i / sz * sz + i % sz = i := by rw [Nat.mul_comm]; exact Nat.div_add_mod i sz
  have e2 : i / sz < l := Nat.div_lt_of_lt_mul (by rw [Nat.mul_comm]; exact hlt)
  have e3 : i % sz < sz := Nat.mod_lt _ h0
  have h7 := f2 (i / sz) (i % sz) e3
  rw [e1, hu2] at h7
  have h8 := (hV _ e2).1 _ e3
  rw [e1] at h8
  rw [List.getElem?_map, List.getElem?_range e2] at h7
  simp only [Option.map_some, Option.bind_some] at h7
  refine ⟨u, by rw [show (ghOf W).M = fun a => W.cell? a from rfl]; dsimp only; rw [h8, ← h7], .val ?_⟩
  exact okW_all (hV _ e2).2 u (List.mem_of_getElem? h7.symm)
theorem ins_rows : ∀ {L : List (List Value)}, (∀ q ∈ L, All2 okV [some .i64, some .i64] q) → ∃ l : List (Int × Int), L.flatten.map D.val = ins l ∧ l.length = L.length
  | [], _ => ⟨[], rfl, rfl⟩
  | q :: L, h => by
    obtain ⟨v, q', rfl, ⟨n, rfl, hn⟩, hq⟩ := (h q (List.mem_cons_self ..)).cons_inv
    obtain ⟨v2, q2, rfl, ⟨m, rfl, hm⟩, hq2⟩ := hq.cons_inv
    obtain rfl := hq2.nil_inv
    obtain ⟨l, h1, h2⟩ := ins_rows (L := L) fun q hq => h q (List.mem_cons_of_mem _ hq)
    refine ⟨(n, m) :: l, ?_, by simp [h2]⟩
    rw [List.flatten_cons, List.map_append, h1]; rfl
theorem flatIns : flatK Tryz.prog 8 66 = some [some .i64, some .i64] := by kernel_rfl
theorem trod_f3 {H : Type} {enc : TypeId × Value → H} {P : Program} {W : World} {t : TypeId} {f0 f1 f2 : Field} {cs : List Value} {x : DataW H × List MemPlace} {fuel : Nat}
    (ht : P.underlying t = some (.struct #[f0, f1, f2])) (hc : P.cellsOf t = 3) (o0 : f0.offset = 0) (o1 : f1.offset = 1) (o2 : f2.offset = 2) (c0 : P.cellsOf f0.type = 1) (c1 : P.cellsOf f1.type = 1) (c2 : P.cellsOf f2.type = 1)
    (hx : DataW.trod enc P W 0 (fun _ => true) true fuel t cs = some x) :
    ∃ v0 v1 v2 y0 y1 y2 n, cs = [v0, v1, v2] ∧ DataW.trod enc P W 0 (fun _ => true) true n f0.type [v0] = some y0 ∧ DataW.trod enc P W 0 (fun _ => true) true n f1.type [v1] = some y1 ∧ DataW.trod enc P W 0 (fun _ => true) true n f2.type [v2] = some y2 := by
  obtain ⟨xs, m, _, _, hlen, hxl, hall⟩ := DataW.trod_struct ht hx
  rw [hc] at hlen
  have a0 := hall 0 f0 rfl
  have a1 := hall 1 f1 rfl
  have a2 := hall 2 f2 rfl
  have hxl' : xs.length = 3 := hxl
  rw [List.getElem?_eq_getElem (by omega)] at a0 a1 a2
  match cs, hlen with
  | [v0, v1, v2], _ =>
    rw [c0, o0] at a0
    rw [c1, o1] at a1
    rw [c2, o2] at a2
    exact ⟨v0, v1, v2, _, _, _, m, rfl, a0, a1, a2⟩
set_option maxRecDepth 100000 in
theorem game_cells {cs : List Value} {W : World} {H : Type} {enc : TypeId × Value → H} {fuel : Nat} {x : DataW H × List MemPlace} (hx : DataW.trod enc Tryz.prog W 0 (fun _ => true) true fuel 24 cs = some x) :
    ∃ (code : List (Int × Int)) (cap fu : Int), code.length ≤ maxLen ∧ i64B cap ∧ i64B fu ∧ All2 (RelC (ghOf W)) [.lst .no none 2 (ins code), .val (.int .i64 cap), .val (.int .i64 fu)] cs := by
  obtain ⟨v0, v1, v2, _, _, _, m, rfl, a0, a1, a2⟩ := trod_f3 Tryz.underlying24 (by kernel_rfl) rfl rfl rfl (by kernel_rfl) (by kernel_rfl) (by kernel_rfl) hx
  obtain ⟨v, L, e, h1, h2, h3⟩ := trod_flats (sz := 2) Tryz.underlying22 flatIns rfl (by omega) a0
  obtain ⟨code, e2, h4⟩ := ins_rows h1
  rw [e2] at h3
  obtain ⟨n, e3, _, hn⟩ := DataW.trod_int Tryz.underlying3 a1
  obtain ⟨k, e4, _, hk⟩ := DataW.trod_int Tryz.underlying3 a2
  obtain rfl : v0 = v := by simpa using e
  obtain rfl : v1 = .int .i64 n := by simpa using e3
  obtain rfl : v2 = .int .i64 k := by simpa using e4
  exact ⟨code, n, k, by omega, i64_wf hn, i64_wf hk, .cons h3 (.cons ⟨rfl, rfl⟩ (.cons ⟨rfl, rfl⟩ .nil))⟩
set_option maxRecDepth 100000 in
theorem open_game {H : Type} {enc : TypeId × Value → H} {W : World} {v : Value} {d : DataW H} {ps : List MemPlace} {r : Reach} {b0 : Nat}
    (hv : Value.okWide Tryz.prog W r b0 24 v) (h : DataW.Trod enc Tryz.prog W 0 (fun _ => true) true 24 v d ps) :
    ∃ (code : List (Int × Int)) (cap fu : Int), RelW (ghOf W) (.game code cap fu) v ∧ code.length ≤ maxLen ∧ i64B cap ∧ i64B fu := by
  obtain ⟨cs, rfl, _⟩ := okWide_struct Tryz.underlying24 hv
  obtain ⟨fuel, hf⟩ := h
  obtain ⟨code, cap, fu, h1, h2, h3, h4⟩ := game_cells hf
  exact ⟨code, cap, fu, ⟨cs, rfl, h4⟩, h1, h2, h3⟩
end
section
set_option maxRecDepth 20000
def mcC (s : Sta) (i0 : UInt16) (i1 : UInt16) (sk : C) (atP : Int) (en : Bool) (bad : Bool) : List C := ((sd s).map D.toC ++ [.val (.int .u16 (U16 i0)), .val (.int .u16 (U16 i1)), sk, .val (.int .i64 atP), .val (.bool en), .val (.bool bad)])
section
variable {s : Sta} {i0 : UInt16} {i1 : UInt16} {sk : C} {atP : Int} {en : Bool} {bad : Bool} {V' : V → Prop} {K : C → Prop} {ks : List Id} {m : Nat}
@[go_sem] theorem mc_l : (mcC s i0 i1 sk atP en bad).length = 26 := by
  unfold mcC
  simp only [List.length_append, List.length_map, sd_len, List.length_cons, List.length_nil]
@[go_sem] theorem mc_k {bi : Id → Bool} {bt : Tag → Bool} : (mcC s i0 i1 sk atP en bad).map (C.clean bi bt) = (mcC s i0 i1 (C.clean bi bt sk) atP en bad) := by
  unfold mcC
  simp only [List.map_append, List.map_cons, List.map_nil, go_sem]
@[go_sem] theorem mc_r  : (mcC s i0 i1 sk atP en bad).map (C.ren ks m) = (mcC s i0 i1 (C.ren ks m sk) atP en bad) := by
  unfold mcC
  simp only [List.map_append, List.map_cons, List.map_nil, go_sem]
@[go_sem] theorem mc_t {ta tb : Tag} : (mcC s i0 i1 sk atP en bad).map (C.retag ta tb) = (mcC s i0 i1 (C.retag ta tb sk) atP en bad) := by
  unfold mcC
  simp only [List.map_append, List.map_cons, List.map_nil, go_sem]
@[go_sem] theorem mc_n : (mcC s i0 i1 sk atP en bad).all known = (known sk) := by
  unfold mcC
  simp only [List.all_append, List.all_cons, List.all_nil, go_sem, Bool.true_and, Bool.and_true, Bool.and_assoc]
theorem mc_gs_frame : (mcC s i0 i1 sk atP en bad)[0]? = some (.val (.int .i64 s.frame)) := by
  unfold mcC
  first | exact get_frame | (rw [List.getElem?_append_left (by rw [sdC_len]; omega)]; exact get_frame)
@[go_sem ↓ 1300] theorem mc_ms_frame : (∃ c, (mcC s i0 i1 sk atP en bad)[0]? = some c ∧ K c) = K (.val (.int .i64 s.frame)) := ex_some mc_gs_frame
theorem mc_gs_seed : (mcC s i0 i1 sk atP en bad)[17]? = some (.val (.int .u32 (U32 s.seed))) := by
  unfold mcC
  first | exact get_seed | (rw [List.getElem?_append_left (by rw [sdC_len]; omega)]; exact get_seed)
@[go_sem ↓ 1300] theorem mc_ms_seed : (∃ c, (mcC s i0 i1 sk atP en bad)[17]? = some c ∧ K c) = K (.val (.int .u32 (U32 s.seed))) := ex_some mc_gs_seed
theorem mc_gs_over : (mcC s i0 i1 sk atP en bad)[18]? = some (.val (.bool s.over)) := by
  unfold mcC
  first | exact get_over | (rw [List.getElem?_append_left (by rw [sdC_len]; omega)]; exact get_over)
@[go_sem ↓ 1300] theorem mc_ms_over : (∃ c, (mcC s i0 i1 sk atP en bad)[18]? = some c ∧ K c) = K (.val (.bool s.over)) := ex_some mc_gs_over
theorem mc_gs_win : (mcC s i0 i1 sk atP en bad)[19]? = some (.val (.int .i64 s.win)) := by
  unfold mcC
  first | exact get_win | (rw [List.getElem?_append_left (by rw [sdC_len]; omega)]; exact get_win)
@[go_sem ↓ 1300] theorem mc_ms_win : (∃ c, (mcC s i0 i1 sk atP en bad)[19]? = some c ∧ K c) = K (.val (.int .i64 s.win)) := ex_some mc_gs_win
@[go_sem 1300] theorem mc_as : ((mcC s i0 i1 sk atP en bad).drop 0).take 20 = (sd s).map D.toC := by
  unfold mcC
  show List.take 20 ((sd s).map D.toC ++ _) = _
  rw [List.take_left' sdC_len]
@[go_sem ↓ 1300] theorem mc_ps : aPt (some true) 20 (mcC s i0 i1 sk atP en bad) 0 V' = V' (.w (.agg ((sd s).map D.toC))) := by
  simp only [aPt, mc_l, mc_as, Nat.reduceAdd, Nat.reduceLeDiff, true_and]
@[go_sem ↓ 1300] theorem mc_m_i0 : (∃ c, (mcC s i0 i1 sk atP en bad)[20]? = some c ∧ K c) = K (.val (.int .u16 (U16 i0))) := ex_some (by
  unfold mcC
  rw [List.getElem?_append_right (by first | simp only [List.length_cons, List.length_nil, List.length_map, sd_len]; omega | simp [sd_len])]
  simp only [List.length_cons, List.length_nil, List.length_map, sd_len, Nat.reduceAdd, Nat.reduceSub]
  first | rfl | (rw [List.getElem?_append_left (by simp)]; rfl))
@[go_sem ↓ 1300] theorem mc_m_i1 : (∃ c, (mcC s i0 i1 sk atP en bad)[21]? = some c ∧ K c) = K (.val (.int .u16 (U16 i1))) := ex_some (by
  unfold mcC
  rw [List.getElem?_append_right (by first | simp only [List.length_cons, List.length_nil, List.length_map, sd_len]; omega | simp [sd_len])]
  simp only [List.length_cons, List.length_nil, List.length_map, sd_len, Nat.reduceAdd, Nat.reduceSub]
  first | rfl | (rw [List.getElem?_append_left (by simp)]; rfl))
@[go_sem ↓ 1300] theorem mc_m_sk : (∃ c, (mcC s i0 i1 sk atP en bad)[22]? = some c ∧ K c) = K (sk) := ex_some (by
  unfold mcC
  rw [List.getElem?_append_right (by first | simp only [List.length_cons, List.length_nil, List.length_map, sd_len]; omega | simp [sd_len])]
  simp only [List.length_cons, List.length_nil, List.length_map, sd_len, Nat.reduceAdd, Nat.reduceSub]
  first | rfl | (rw [List.getElem?_append_left (by simp)]; rfl))
@[go_sem ↓ 1300] theorem mc_m_atP : (∃ c, (mcC s i0 i1 sk atP en bad)[23]? = some c ∧ K c) = K (.val (.int .i64 atP)) := ex_some (by
  unfold mcC
  rw [List.getElem?_append_right (by first | simp only [List.length_cons, List.length_nil, List.length_map, sd_len]; omega | simp [sd_len])]
  simp only [List.length_cons, List.length_nil, List.length_map, sd_len, Nat.reduceAdd, Nat.reduceSub]
  first | rfl | (rw [List.getElem?_append_left (by simp)]; rfl))
@[go_sem ↓ 1300] theorem mc_m_en : (∃ c, (mcC s i0 i1 sk atP en bad)[24]? = some c ∧ K c) = K (.val (.bool en)) := ex_some (by
  unfold mcC
  rw [List.getElem?_append_right (by first | simp only [List.length_cons, List.length_nil, List.length_map, sd_len]; omega | simp [sd_len])]
  simp only [List.length_cons, List.length_nil, List.length_map, sd_len, Nat.reduceAdd, Nat.reduceSub]
  first | rfl | (rw [List.getElem?_append_left (by simp)]; rfl))
@[go_sem ↓ 1300] theorem mc_m_bad : (∃ c, (mcC s i0 i1 sk atP en bad)[25]? = some c ∧ K c) = K (.val (.bool bad)) := ex_some (by
  unfold mcC
  rw [List.getElem?_append_right (by first | simp only [List.length_cons, List.length_nil, List.length_map, sd_len]; omega | simp [sd_len])]
  simp only [List.length_cons, List.length_nil, List.length_map, sd_len, Nat.reduceAdd, Nat.reduceSub]
  first | rfl | (rw [List.getElem?_append_left (by simp)]; rfl))
@[go_sem 1300] theorem mc_d20_2 : ((mcC s i0 i1 sk atP en bad).drop 20).take 2 = [.val (.int .u16 (U16 i0)), .val (.int .u16 (U16 i1))] := by
    first
      | rfl
      | (unfold mcC
         rw [show (20 : Nat) = ((sd s).map D.toC).length + 0 from by rw [sdC_len], List.drop_append, List.drop_eq_nil_of_le (by omega), Nat.add_sub_cancel_left]
         rfl)
@[go_sem ↓ 1300] theorem mc_p20_2 : aPt (some true) 2 (mcC s i0 i1 sk atP en bad) 20 V' = V' (.w (.agg [.val (.int .u16 (U16 i0)), .val (.int .u16 (U16 i1))])) := by
  simp only [aPt, mc_l, mc_d20_2, Nat.reduceAdd, Nat.reduceLeDiff, true_and]
@[go_sem 1300] theorem mc_ss_frame {x : Int} : spl (mcC s i0 i1 sk atP en bad) 0 [.val (.int .i64 x)] = (mcC (s.wFrame x) i0 i1 sk atP en bad) := by
  unfold mcC
  rw [spl_appL (by simp only [List.length_cons, List.length_nil, sdC_len]; omega), spl_frame]
@[go_sem 1300] theorem mc_us_frame {x : Int} : (mcC s i0 i1 sk atP en bad).set 0 (.val (.int .i64 x)) = (mcC (s.wFrame x) i0 i1 sk atP en bad) := show spl (mcC s i0 i1 sk atP en bad) 0 [.val (.int .i64 x)] = _ from mc_ss_frame
@[go_sem 1300] theorem mc_ss_seed {x : UInt32} : spl (mcC s i0 i1 sk atP en bad) 17 [.val (.int .u32 (U32 x))] = (mcC (s.wSeed x) i0 i1 sk atP en bad) := by
  unfold mcC
  rw [spl_appL (by simp only [List.length_cons, List.length_nil, sdC_len]; omega), spl_seed]
@[go_sem 1300] theorem mc_us_seed {x : UInt32} : (mcC s i0 i1 sk atP en bad).set 17 (.val (.int .u32 (U32 x))) = (mcC (s.wSeed x) i0 i1 sk atP en bad) := show spl (mcC s i0 i1 sk atP en bad) 17 [.val (.int .u32 (U32 x))] = _ from mc_ss_seed
@[go_sem 1300] theorem mc_ss_over {x : Bool} : spl (mcC s i0 i1 sk atP en bad) 18 [.val (.bool x)] = (mcC (s.wOver x) i0 i1 sk atP en bad) := by
  unfold mcC
  rw [spl_appL (by simp only [List.length_cons, List.length_nil, sdC_len]; omega), spl_over]
@[go_sem 1300] theorem mc_us_over {x : Bool} : (mcC s i0 i1 sk atP en bad).set 18 (.val (.bool x)) = (mcC (s.wOver x) i0 i1 sk atP en bad) := show spl (mcC s i0 i1 sk atP en bad) 18 [.val (.bool x)] = _ from mc_ss_over
@[go_sem 1300] theorem mc_ss_win {x : Int} : spl (mcC s i0 i1 sk atP en bad) 19 [.val (.int .i64 x)] = (mcC (s.wWin x) i0 i1 sk atP en bad) := by
  unfold mcC
  rw [spl_appL (by simp only [List.length_cons, List.length_nil, sdC_len]; omega), spl_win]
@[go_sem 1300] theorem mc_us_win {x : Int} : (mcC s i0 i1 sk atP en bad).set 19 (.val (.int .i64 x)) = (mcC (s.wWin x) i0 i1 sk atP en bad) := show spl (mcC s i0 i1 sk atP en bad) 19 [.val (.int .i64 x)] = _ from mc_ss_win
@[go_sem 1300] theorem mc_ss {x : Sta} : spl (mcC s i0 i1 sk atP en bad) 0 ((sd x).map D.toC) = (mcC (x) i0 i1 sk atP en bad) := by
  unfold mcC
  rw [spl_appL (by simp only [sdC_len]; omega), spl_all (by simp only [sdC_len])]
@[go_sem 1300] theorem mc_s_i0 {x : UInt16} : spl (mcC s i0 i1 sk atP en bad) 20 [.val (.int .u16 (U16 x))] = (mcC s (x) i1 sk atP en bad) := by
  unfold mcC
  rw [show (20 : Nat) = ((sd s).map D.toC).length + 0 from by first | rfl | rw [sdC_len], spl_appR (by simp only [List.length_append, List.length_cons, List.length_nil, sdC_len]; omega)]
  rfl
@[go_sem 1300] theorem mc_u_i0 {x : UInt16} : (mcC s i0 i1 sk atP en bad).set 20 (.val (.int .u16 (U16 x))) = (mcC s (x) i1 sk atP en bad) := show spl (mcC s i0 i1 sk atP en bad) 20 [.val (.int .u16 (U16 x))] = _ from mc_s_i0
@[go_sem 1300] theorem mc_s_i1 {x : UInt16} : spl (mcC s i0 i1 sk atP en bad) 21 [.val (.int .u16 (U16 x))] = (mcC s i0 (x) sk atP en bad) := by
  unfold mcC
  rw [show (21 : Nat) = ((sd s).map D.toC).length + 1 from by first | rfl | rw [sdC_len], spl_appR (by simp only [List.length_append, List.length_cons, List.length_nil, sdC_len]; omega)]
  rfl
@[go_sem 1300] theorem mc_u_i1 {x : UInt16} : (mcC s i0 i1 sk atP en bad).set 21 (.val (.int .u16 (U16 x))) = (mcC s i0 (x) sk atP en bad) := show spl (mcC s i0 i1 sk atP en bad) 21 [.val (.int .u16 (U16 x))] = _ from mc_s_i1
@[go_sem 1300] theorem mc_s_sk {x : C} : spl (mcC s i0 i1 sk atP en bad) 22 [x] = (mcC s i0 i1 (x) atP en bad) := by
  unfold mcC
  rw [show (22 : Nat) = ((sd s).map D.toC).length + 2 from by first | rfl | rw [sdC_len], spl_appR (by simp only [List.length_append, List.length_cons, List.length_nil, sdC_len]; omega)]
  rfl
@[go_sem 1300] theorem mc_u_sk {x : C} : (mcC s i0 i1 sk atP en bad).set 22 (x) = (mcC s i0 i1 (x) atP en bad) := show spl (mcC s i0 i1 sk atP en bad) 22 [x] = _ from mc_s_sk
@[go_sem 1300] theorem mc_s_atP {x : Int} : spl (mcC s i0 i1 sk atP en bad) 23 [.val (.int .i64 x)] = (mcC s i0 i1 sk (x) en bad) := by
  unfold mcC
  rw [show (23 : Nat) = ((sd s).map D.toC).length + 3 from by first | rfl | rw [sdC_len], spl_appR (by simp only [List.length_append, List.length_cons, List.length_nil, sdC_len]; omega)]
  rfl
@[go_sem 1300] theorem mc_u_atP {x : Int} : (mcC s i0 i1 sk atP en bad).set 23 (.val (.int .i64 x)) = (mcC s i0 i1 sk (x) en bad) := show spl (mcC s i0 i1 sk atP en bad) 23 [.val (.int .i64 x)] = _ from mc_s_atP
@[go_sem 1300] theorem mc_s_en {x : Bool} : spl (mcC s i0 i1 sk atP en bad) 24 [.val (.bool x)] = (mcC s i0 i1 sk atP (x) bad) := by
  unfold mcC
  rw [show (24 : Nat) = ((sd s).map D.toC).length + 4 from by first | rfl | rw [sdC_len], spl_appR (by simp only [List.length_append, List.length_cons, List.length_nil, sdC_len]; omega)]
  rfl
@[go_sem 1300] theorem mc_u_en {x : Bool} : (mcC s i0 i1 sk atP en bad).set 24 (.val (.bool x)) = (mcC s i0 i1 sk atP (x) bad) := show spl (mcC s i0 i1 sk atP en bad) 24 [.val (.bool x)] = _ from mc_s_en
@[go_sem 1300] theorem mc_s_bad {x : Bool} : spl (mcC s i0 i1 sk atP en bad) 25 [.val (.bool x)] = (mcC s i0 i1 sk atP en (x)) := by
  unfold mcC
  rw [show (25 : Nat) = ((sd s).map D.toC).length + 5 from by first | rfl | rw [sdC_len], spl_appR (by simp only [List.length_append, List.length_cons, List.length_nil, sdC_len]; omega)]
  rfl
@[go_sem 1300] theorem mc_u_bad {x : Bool} : (mcC s i0 i1 sk atP en bad).set 25 (.val (.bool x)) = (mcC s i0 i1 sk atP en (x)) := show spl (mcC s i0 i1 sk atP en bad) 25 [.val (.bool x)] = _ from mc_s_bad
@[go_sem 1300] theorem mc_w20_2 {y0 : UInt16} {y1 : UInt16} : spl (mcC s i0 i1 sk atP en bad) 20 [.val (.int .u16 (U16 y0)), .val (.int .u16 (U16 y1))] = (mcC s y0 y1 sk atP en bad) := by
  first
    | rfl
    | (unfold mcC
       rw [show (20 : Nat) = ((sd s).map D.toC).length + 0 from by rw [sdC_len], spl_appR (by simp only [List.length_cons, List.length_nil]; omega)]
       rfl)
@[go_sem ↓] theorem mc_w {l : List V} {hp : Heap} {i : Id} {off : Nat} {cs : List C} : St.stow ⟨l, hp⟩ i off cs (mcC s i0 i1 sk atP en bad) = ⟨l, hset hp i (spl cs off (mcC s i0 i1 (C.clean (fun _ => false) (fun _ => true) sk) atP en bad))⟩ := by
  rw [stow_big (by rw [mc_l]; omega), mc_k]
@[go_sem ↓ 1300] theorem mc_p : aPt (some true) 26 (mcC s i0 i1 sk atP en bad) 0 V' = V' (.w (.agg (mcC s i0 i1 sk atP en bad))) := by
  have e : ((mcC s i0 i1 sk atP en bad).drop 0).take 26 = (mcC s i0 i1 sk atP en bad) := by rw [List.drop_zero, List.take_of_length_le (by rw [mc_l]; omega)]
  simp only [aPt, mc_l, e, Nat.reduceAdd, Nat.reduceLeDiff, true_and]
theorem mc_le {s' : Sta} {i0' : UInt16} {i1' : UInt16} {sk' : C} {atP' : Int} {en' : Bool} {bad' : Bool} (h : s = s' ∧ i0 = i0' ∧ i1 = i1' ∧ leC sk sk' ∧ atP = atP' ∧ en = en' ∧ bad = bad') : leCs (mcC s i0 i1 sk atP en bad) (mcC s' i0' i1' sk' atP' en' bad') := by
  obtain ⟨h0, h1, h2, h3, h4, h5, h6⟩ := h
  subst h0
  subst h1
  subst h2
  subst h4
  subst h5
  subst h6
  unfold mcC
  try simp only [List.cons_append, List.nil_append, List.append_assoc]
  exact (leCs_app (leCs_refl _) ⟨leC_refl _, ⟨leC_refl _, ⟨h3, ⟨leC_refl _, ⟨leC_refl _, ⟨leC_refl _, trivial⟩⟩⟩⟩⟩⟩)
@[go_sem ↓ 1300] theorem mc_ler : leCs (mcC s i0 i1 sk atP en bad) (mcC s i0 i1 sk atP en bad) = True := eq_true (leCs_refl _)
end
end
section
set_option maxRecDepth 20000
def doeC (a b c d e f g h : Id) : List C := [.val .nilFunc, .fn (.func 86) [] [], .fn (.func 87) [] [], .fn (.func 88) [] [], .fn (.func 112) [] [(a, 0)], .fn (.func 112) [] [(b, 0)], .fn (.func 112) [] [(c, 0)], .fn (.func 112) [] [(d, 0)], .fn (.func 112) [] [(e, 0)], .fn (.func 112) [] [(f, 0)], .fn (.func 112) [] [(g, 0)], .fn (.func 112) [] [(h, 0)], .fn (.func 98) [] [], .fn (.func 99) [] [], .fn (.func 100) [] [], .fn (.func 101) [] [], .fn (.func 102) [] [], .fn (.func 103) [] [], .fn (.func 104) [] [], .fn (.func 105) [] [], .fn (.func 106) [] [], .fn (.func 107) [] [], .fn (.func 108) [] []]
def doeU (bi : Id → Bool) (bt : Tag → Bool) (a b c d e f g h : Id) : List C := (doeC a b c d e f g h).map (C.clean bi bt)
section
variable {a b c d e f g h : Id} {V' : V → Prop} {r : List C} {ks : List Id} {m : Nat}
@[go_sem] theorem doe_k {bi : Id → Bool} {bt : Tag → Bool} : (doeC a b c d e f g h).map (C.clean bi bt) = if (bi a || bi b || bi c || bi d || bi e || bi f || bi g || bi h) = true then doeU bi bt a b c d e f g h else doeC a b c d e f g h := by
  split
  · rfl
  rename_i h
  simp only [Bool.or_eq_true, not_or, Bool.not_eq_true] at h
  simp [doeC, C.clean, h]
@[go_sem] theorem doe_r : (doeC a b c d e f g h).map (C.ren ks m) = doeC (renI ks m a) (renI ks m b) (renI ks m c) (renI ks m d) (renI ks m e) (renI ks m f) (renI ks m g) (renI ks m h) := nr rfl
@[go_sem] theorem doe_t {ta tb : Tag} : (doeC a b c d e f g h).map (C.retag ta tb) = doeC a b c d e f g h := nr rfl
@[go_sem] theorem doe_n : (doeC a b c d e f g h).all known = true := nr rfl
@[go_sem] theorem doe_l : (doeC a b c d e f g h).length = 23 := nr rfl
@[go_sem 1300] theorem doe_s : spl [.val .nilFunc, .val .nilFunc, .val .nilFunc, .val .nilFunc, .val .nilFunc, .val .nilFunc, .val .nilFunc, .val .nilFunc, .val .nilFunc, .val .nilFunc, .val .nilFunc, .val .nilFunc, .val .nilFunc, .val .nilFunc, .val .nilFunc, .val .nilFunc, .val .nilFunc, .val .nilFunc, .val .nilFunc, .val .nilFunc, .val .nilFunc, .val .nilFunc, .val .nilFunc] 0 (doeC a b c d e f g h) = doeC a b c d e f g h := spl_all rfl
@[go_sem ↓] theorem doe_w {l : List V} {hp : Heap} {i : Id} {off : Nat} {cs : List C} : St.stow ⟨l, hp⟩ i off cs (doeC a b c d e f g h) = ⟨l, hset hp i (spl cs off (doeC a b c d e f g h))⟩ := by
  have eq : (doeC a b c d e f g h).map (C.clean (fun _ => false) fun _ => true) = doeC a b c d e f g h := by rw [doe_k]; rfl
  rw [stow_big (show 2 ≤ (doeC a b c d e f g h).length by rw [doe_l]; omega), eq]
@[go_sem 1300] theorem doe_td : List.take 23 (List.drop 0 (doeC a b c d e f g h)) = doeC a b c d e f g h := nr rfl
@[go_sem 1300] theorem doe_ta : List.take 23 (doeC a b c d e f g h) = doeC a b c d e f g h := nr rfl
@[go_sem ↓ 1300] theorem doe_p : aPt (some true) 23 (doeC a b c d e f g h) 0 V' = V' (.w (.agg (doeC a b c d e f g h))) := by
  simp only [aPt, doe_l, doe_td]
  simp
@[go_sem ↓ 1300] theorem doe_le : leCs (doeC a b c d e f g h) (doeC a b c d e f g h) = True := eq_true (leCs_refl _)
end
abbrev doeH (a b c d e f g h : Id) : Heap := [(h, [.fn (.func 97) [] []]), (g, [.fn (.func 96) [] []]), (f, [.fn (.func 95) [] []]), (e, [.fn (.func 94) [] []]), (d, [.fn (.func 93) [] []]), (c, [.fn (.func 92) [] []]), (b, [.fn (.func 91) [] []]), (a, [.fn (.func 90) [] []])]
theorem two_h (k : Nat) : Holds Tryz.prog 89 [.c (.fn (.func k) [] [])] [] (fun r h' => r = V.cell (.fn (.func 112) [] [(.loc [1], 0)]) ∧ h' = [(.loc [1], [.fn (.func k) [] []])]) := by
  refine holds_of_awp Tryz.func89 rfl (by decide +kernel) mixed Tryz.ntmps89 Tryz.results89 ?_
  refine zE ?_
  refine zs ?_;try exact trivial
theorem two0_h : Holds Tryz.prog 89 [.c (.fn (.func 90) [] [])] [] (fun r h' => r = V.cell (.fn (.func 112) [] [(.loc [1], 0)]) ∧ h' = [(.loc [1], [.fn (.func 90) [] []])]) := two_h 90
theorem two1_h : Holds Tryz.prog 89 [.c (.fn (.func 91) [] [])] [] (fun r h' => r = V.cell (.fn (.func 112) [] [(.loc [1], 0)]) ∧ h' = [(.loc [1], [.fn (.func 91) [] []])]) := two_h 91
theorem two2_h : Holds Tryz.prog 89 [.c (.fn (.func 92) [] [])] [] (fun r h' => r = V.cell (.fn (.func 112) [] [(.loc [1], 0)]) ∧ h' = [(.loc [1], [.fn (.func 92) [] []])]) := two_h 92
theorem two3_h : Holds Tryz.prog 89 [.c (.fn (.func 93) [] [])] [] (fun r h' => r = V.cell (.fn (.func 112) [] [(.loc [1], 0)]) ∧ h' = [(.loc [1], [.fn (.func 93) [] []])]) := two_h 93
theorem two4_h : Holds Tryz.prog 89 [.c (.fn (.func 94) [] [])] [] (fun r h' => r = V.cell (.fn (.func 112) [] [(.loc [1], 0)]) ∧ h' = [(.loc [1], [.fn (.func 94) [] []])]) := two_h 94
theorem two5_h : Holds Tryz.prog 89 [.c (.fn (.func 95) [] [])] [] (fun r h' => r = V.cell (.fn (.func 112) [] [(.loc [1], 0)]) ∧ h' = [(.loc [1], [.fn (.func 95) [] []])]) := two_h 95
theorem two6_h : Holds Tryz.prog 89 [.c (.fn (.func 96) [] [])] [] (fun r h' => r = V.cell (.fn (.func 112) [] [(.loc [1], 0)]) ∧ h' = [(.loc [1], [.fn (.func 96) [] []])]) := two_h 96
theorem two7_h : Holds Tryz.prog 89 [.c (.fn (.func 97) [] [])] [] (fun r h' => r = V.cell (.fn (.func 112) [] [(.loc [1], 0)]) ∧ h' = [(.loc [1], [.fn (.func 97) [] []])]) := two_h 97
set_option maxHeartbeats 2000000 in
theorem doers_h : Holds Tryz.prog 81 [] [] (fun r h' => r = .w (.agg (doeC (.loc [1, 0, 1]) (.loc [2, 0, 1]) (.loc [3, 0, 1]) (.loc [4, 0, 1]) (.loc [5, 0, 1]) (.loc [6, 0, 1]) (.loc [7, 0, 1]) (.loc [8, 0, 1]))) ∧ h' = doeH (.loc [1, 0, 1]) (.loc [2, 0, 1]) (.loc [3, 0, 1]) (.loc [4, 0, 1]) (.loc [5, 0, 1]) (.loc [6, 0, 1]) (.loc [7, 0, 1]) (.loc [8, 0, 1])) := by
  refine holds_of_awp Tryz.func81 rfl (by decide +kernel) mixed Tryz.ntmps81 Tryz.results81 ?_
  refine zE ?_
  unfold doeC
  refine zs ?_;try exact trivial
  refine a_call [] (two0_h) ok0 ?_ ?_ ?_
  · refine zs ?_;try exact trivial
  · refine zs ?_;try exact trivial
  rintro _ _ ⟨rfl, rfl⟩
  refine zs ?_;try exact trivial
  refine a_call [] (two1_h) ok0 ?_ ?_ ?_
  · refine zs ?_;try exact trivial
  · refine zs ?_;try exact trivial
  rintro _ _ ⟨rfl, rfl⟩
  refine zs ?_;try exact trivial
  refine a_call [] (two2_h) ok0 ?_ ?_ ?_
  · refine zs ?_;try exact trivial
  · refine zs ?_;try exact trivial
  rintro _ _ ⟨rfl, rfl⟩
  refine zs ?_;try exact trivial
  refine a_call [] (two3_h) ok0 ?_ ?_ ?_
  · refine zs ?_;try exact trivial
  · refine zs ?_;try exact trivial
  rintro _ _ ⟨rfl, rfl⟩
  refine zs ?_;try exact trivial
  refine a_call [] (two4_h) ok0 ?_ ?_ ?_
  · refine zs ?_;try exact trivial
  · refine zs ?_;try exact trivial
  rintro _ _ ⟨rfl, rfl⟩
  refine zs ?_;try exact trivial
  refine a_call [] (two5_h) ok0 ?_ ?_ ?_
  · refine zs ?_;try exact trivial
  · refine zs ?_;try exact trivial
  rintro _ _ ⟨rfl, rfl⟩
  refine zs ?_;try exact trivial
  refine a_call [] (two6_h) ok0 ?_ ?_ ?_
  · refine zs ?_;try exact trivial
  · refine zs ?_;try exact trivial
  rintro _ _ ⟨rfl, rfl⟩
  refine zs ?_;try exact trivial
  refine a_call [] (two7_h) ok0 ?_ ?_ ?_
  · refine zs ?_;try exact trivial
  · refine zs ?_;try exact trivial
  rintro _ _ ⟨rfl, rfl⟩
  refine zs ?_;try exact trivial
  try (refine zs ?_; try exact trivial)
  exact leCs_refl _
end
section
@[go_sem ↓ 1150] theorem e_lenN {P : Program} {t : TypeId} {o : Own} {nl : Option Bool} {sz : Nat} {V' : V → Prop} : aLen P t (.cell (.lst o nl sz [])) V' = (isSlcT P t = true ∧ V' (.int .i64 0)) := by
  simp [aLen]
@[go_sem 1200] theorem set_frame {s : Sta} {x : Int} : ((sd s).map D.toC).set 0 (.val (.int .i64 x)) = (sd (s.wFrame x)).map D.toC := spl_frame
@[go_sem 1200] theorem set_over {s : Sta} {x : Bool} : ((sd s).map D.toC).set 18 (.val (.bool x)) = (sd (s.wOver x)).map D.toC := spl_over
@[go_sem 1200] theorem set_win {s : Sta} {x : Int} : ((sd s).map D.toC).set 19 (.val (.int .i64 x)) = (sd (s.wWin x)).map D.toC := spl_win
def isP (s : Sta) : Bool := decide (0 ≤ s.frame) && decide (s.frame ≤ 600) && decide (0 ≤ s.win) && decide (s.win ≤ 2) && (s.over || decide (s.win = 0))
theorem isState_h (s : Sta) : Holds Tryz.prog 73 [.agg ((sd s).map D.toC)] [] (fun r h' => r = V.bool (isP s) ∧ h' = []) := by
  refine holds_of_awp Tryz.func73 rfl (by decide +kernel) mixed Tryz.ntmps73 Tryz.results73 ?_
  refine zE ?_
  unfold isP
  cases d1 : decide (0 ≤ s.frame)
  · simp (maxSteps:=2000000) (disch:=omega) only [go_sem,Nat.reduceAdd,Nat.reduceSub,Nat.reduceMul,Nat.reduceBEq,Nat.reduceEqDiff,Nat.reduceLT,Nat.reduceLeDiff,Nat.reduceDiv,reduceIte,reduceCtorEq, d1]
    simp
  cases d2 : decide (s.frame ≤ 600)
  · simp (maxSteps:=2000000) (disch:=omega) only [go_sem,Nat.reduceAdd,Nat.reduceSub,Nat.reduceMul,Nat.reduceBEq,Nat.reduceEqDiff,Nat.reduceLT,Nat.reduceLeDiff,Nat.reduceDiv,reduceIte,reduceCtorEq, d1, d2]
    simp
  cases d3 : decide (0 ≤ s.win)
  · simp (maxSteps:=2000000) (disch:=omega) only [go_sem,Nat.reduceAdd,Nat.reduceSub,Nat.reduceMul,Nat.reduceBEq,Nat.reduceEqDiff,Nat.reduceLT,Nat.reduceLeDiff,Nat.reduceDiv,reduceIte,reduceCtorEq, d1, d2, d3]
    simp
  cases d4 : decide (s.win ≤ 2)
  · simp (maxSteps:=2000000) (disch:=omega) only [go_sem,Nat.reduceAdd,Nat.reduceSub,Nat.reduceMul,Nat.reduceBEq,Nat.reduceEqDiff,Nat.reduceLT,Nat.reduceLeDiff,Nat.reduceDiv,reduceIte,reduceCtorEq, d1, d2, d3, d4]
    simp
  cases d5 : s.over
  · simp (maxSteps:=2000000) (disch:=omega) only [go_sem,Nat.reduceAdd,Nat.reduceSub,Nat.reduceMul,Nat.reduceBEq,Nat.reduceEqDiff,Nat.reduceLT,Nat.reduceLeDiff,Nat.reduceDiv,reduceIte,reduceCtorEq, d1, d2, d3, d4, d5]
  simp (maxSteps:=2000000) (disch:=omega) only [go_sem,Nat.reduceAdd,Nat.reduceSub,Nat.reduceMul,Nat.reduceBEq,Nat.reduceEqDiff,Nat.reduceLT,Nat.reduceLeDiff,Nat.reduceDiv,reduceIte,reduceCtorEq, d1, d2, d3, d4, d5]
@[go_sem 1300] theorem mc_lit {sk : C} {s : Sta} : spl [.val (.int .i64 0), .val (.int .i32 0), .val (.int .i32 0), .val (.int .i32 0), .val (.int .i32 0), .val (.int .i32 0), .val (.int .i32 0), .val (.int .i32 0), .val (.int .i32 0), .val (.int .i32 0), .val (.int .i32 0), .val (.int .i32 0), .val (.int .i32 0), .val (.int .i32 0), .val (.int .i32 0), .val (.int .i32 0), .val (.int .i32 0), .val (.int .u32 0), .val (.bool false), .val (.int .i64 0), .val (.int .u16 0), .val (.int .u16 0), sk, .val (.int .i64 0), .val (.bool false), .val (.bool false)] 0 ((sd s).map D.toC) = mcC s 0 0 sk 0 false false := by
  show spl (mcC (stz 0 0) 0 0 sk 0 false false) 0 ((sd s).map D.toC) = _
  exact mc_ss
end
section
def held (v : Int) : Int := max (-2147483648) (min 2147483647 v)
theorem held_b (v : Int) : B32 (held v) := by unfold held B32; omega
theorem held_h (v : Int) (h1 : -9223372036854775808 ≤ v) (h2 : v ≤ 9223372036854775807) : Holds Tryz.prog 113 [.int .i64 v] [] (fun r h' => r = V.int .i32 (held v) ∧ h' = []) := by
  refine holds_of_awp Tryz.func113 rfl (by decide +kernel) mixed Tryz.ntmps113 Tryz.results113 ?_
  refine zE ?_
  have hb := held_b v
  unfold B32 at hb
  refine zs ?_;try exact trivial
  rfl
theorem rheld_h (v : Int) (h1 : -9223372036854775808 ≤ v) (h2 : v ≤ 9223372036854775807) : Holds Tryz.prog 109 [.int .i64 v] [] (fun r h' => r = V.int .i32 (held v) ∧ h' = []) := by
  refine holds_of_awp Tryz.func109 rfl (by decide +kernel) mixed Tryz.ntmps109 Tryz.results109 ?_
  refine zE ?_
  refine zs ?_;try exact trivial
  refine c_dec (fun h => ?_) (fun h => ?_)
  · have e : held v = 2147483647 := by unfold held; omega
    rw [e]
    refine zs ?_;try exact trivial
  refine zs ?_;try exact trivial
  refine c_dec (fun h3 => ?_) (fun h3 => ?_)
  · have e : held v = -2147483648 := by unfold held; omega
    rw [e]
    refine zs ?_;try exact trivial
  have e : held v = v := by unfold held; omega
  rw [e]
  refine zs ?_;try exact trivial
def divV (a b : Int) : Int := if b = 0 then (if 0 < a then 2147483647 else if a < 0 then -2147483648 else 0) else held ((a * 65536).tdiv b)
theorem add_h (a b : Int) (ha : B32 a) (hb : B32 b) : Holds Tryz.prog 90 [.int .i32 a, .int .i32 b] [] (fun r h' => r = V.int .i32 (held (a + b)) ∧ h' = []) := by
  unfold B32 at ha hb
  refine holds_of_awp Tryz.func90 rfl (by decide +kernel) mixed Tryz.ntmps90 Tryz.results90 ?_
  refine zE ?_
  refine zs ?_;try exact trivial
  refine a_call [] (held_h (a + b) (by omega) (by omega)) ok0 ?_ ?_ ?_
  · refine zs ?_;try exact trivial
  · refine zs ?_;try exact trivial
  rintro _ _ ⟨rfl, rfl⟩
  refine zs ?_;try exact trivial
theorem sub_h (a b : Int) (ha : B32 a) (hb : B32 b) : Holds Tryz.prog 91 [.int .i32 a, .int .i32 b] [] (fun r h' => r = V.int .i32 (held (a - b)) ∧ h' = []) := by
  unfold B32 at ha hb
  refine holds_of_awp Tryz.func91 rfl (by decide +kernel) mixed Tryz.ntmps91 Tryz.results91 ?_
  refine zE ?_
  refine zs ?_;try exact trivial
  refine a_call [] (held_h (a - b) (by omega) (by omega)) ok0 ?_ ?_ ?_
  · refine zs ?_;try exact trivial
  · refine zs ?_;try exact trivial
  rintro _ _ ⟨rfl, rfl⟩
  refine zs ?_;try exact trivial
theorem mul_h (a b : Int) (ha : B32 a) (hb : B32 b) : Holds Tryz.prog 92 [.int .i32 a, .int .i32 b] [] (fun r h' => r = V.int .i32 (held (a * b / 65536)) ∧ h' = []) := by
  have hm := mul_bound ha hb
  unfold B32 at ha hb
  refine holds_of_awp Tryz.func92 rfl (by decide +kernel) mixed Tryz.ntmps92 Tryz.results92 ?_
  refine zE ?_
  refine zs ?_;try exact trivial
  refine a_call [] (held_h (a * b / 65536) (by omega) (by omega)) ok0 ?_ ?_ ?_
  · refine zs ?_;try exact trivial
  · refine zs ?_;try exact trivial
  rintro _ _ ⟨rfl, rfl⟩
  refine zs ?_;try exact trivial
theorem radd_h (a b : Int) (ha : B32 a) (hb : B32 b) : Holds Tryz.prog 82 [.int .i32 a, .int .i32 b] [] (fun r h' => r = V.int .i32 (held (a + b)) ∧ h' = []) := by
  unfold B32 at ha hb
  refine holds_of_awp Tryz.func82 rfl (by decide +kernel) mixed Tryz.ntmps82 Tryz.results82 ?_
  refine zE ?_
  refine zs ?_;try exact trivial
  refine a_call [] (rheld_h (a + b) (by omega) (by omega)) ok0 ?_ ?_ ?_
  · refine zs ?_;try exact trivial
  · refine zs ?_;try exact trivial
  rintro _ _ ⟨rfl, rfl⟩
  refine zs ?_;try exact trivial
theorem rsub_h (a b : Int) (ha : B32 a) (hb : B32 b) : Holds Tryz.prog 83 [.int .i32 a, .int .i32 b] [] (fun r h' => r = V.int .i32 (held (a - b)) ∧ h' = []) := by
  unfold B32 at ha hb
  refine holds_of_awp Tryz.func83 rfl (by decide +kernel) mixed Tryz.ntmps83 Tryz.results83 ?_
  refine zE ?_
  refine zs ?_;try exact trivial
  refine a_call [] (rheld_h (a - b) (by omega) (by omega)) ok0 ?_ ?_ ?_
  · refine zs ?_;try exact trivial
  · refine zs ?_;try exact trivial
  rintro _ _ ⟨rfl, rfl⟩
  refine zs ?_;try exact trivial
theorem rmul_h (a b : Int) (ha : B32 a) (hb : B32 b) : Holds Tryz.prog 84 [.int .i32 a, .int .i32 b] [] (fun r h' => r = V.int .i32 (held (a * b / 65536)) ∧ h' = []) := by
  have hm := mul_bound ha hb
  unfold B32 at ha hb
  refine holds_of_awp Tryz.func84 rfl (by decide +kernel) mixed Tryz.ntmps84 Tryz.results84 ?_
  refine zE ?_
  refine zs ?_;try exact trivial
  refine a_call [] (rheld_h (a * b / 65536) (by omega) (by omega)) ok0 ?_ ?_ ?_
  · refine zs ?_;try exact trivial
  · refine zs ?_;try exact trivial
  rintro _ _ ⟨rfl, rfl⟩
  refine zs ?_;try exact trivial
theorem div_h (a b : Int) (ha : B32 a) (hb : B32 b) : Holds Tryz.prog 93 [.int .i32 a, .int .i32 b] [] (fun r h' => r = V.int .i32 (divV a b) ∧ h' = []) := by
  unfold B32 at ha hb
  have ht := tdiv_bound (a := a * 65536) (b := b) (m := 140737488355328) (by omega) (by omega)
  refine holds_of_awp Tryz.func93 rfl (by decide +kernel) mixed Tryz.ntmps93 Tryz.results93 ?_
  refine zE ?_
  refine zs ?_;try exact trivial
  refine c_dec (fun h => ?_) (fun h => ?_)
  · have e : divV a b = held ((a * 65536).tdiv b) := by unfold divV; rw [if_neg h]
    rw [e]
    refine zs ?_;try exact trivial
    refine a_call [] (held_h ((a * 65536).tdiv b) (by omega) (by omega)) ok0 ?_ ?_ ?_
    · refine zs ?_;try exact trivial
    · refine zs ?_;try exact trivial
    rintro _ _ ⟨rfl, rfl⟩
    refine zs ?_;try exact trivial
  have hb0 : b = 0 := by omega
  refine zs ?_;try exact trivial
  refine c_dec (fun h2 => ?_) (fun h2 => ?_)
  · have e : divV a b = 2147483647 := by unfold divV; rw [if_pos hb0, if_pos h2]
    rw [e]
    refine zs ?_;try exact trivial
  refine zs ?_;try exact trivial
  refine c_dec (fun h3 => ?_) (fun h3 => ?_)
  · have e : divV a b = -2147483648 := by unfold divV; rw [if_pos hb0, if_neg h2, if_pos h3]
    rw [e]
    refine zs ?_;try exact trivial
  have e : divV a b = 0 := by unfold divV; rw [if_pos hb0, if_neg h2, if_neg h3]
  rw [e]
  refine zs ?_;try exact trivial
theorem rdiv_h (a b : Int) (ha : B32 a) (hb : B32 b) : Holds Tryz.prog 85 [.int .i32 a, .int .i32 b] [] (fun r h' => r = V.int .i32 (divV a b) ∧ h' = []) := by
  unfold B32 at ha hb
  have ht := tdiv_bound (a := a * 65536) (b := b) (m := 140737488355328) (by omega) (by omega)
  refine holds_of_awp Tryz.func85 rfl (by decide +kernel) mixed Tryz.ntmps85 Tryz.results85 ?_
  refine zE ?_
  refine zs ?_;try exact trivial
  refine c_dec (fun h => ?_) (fun h => ?_)
  · refine zs ?_;try exact trivial
    refine c_dec (fun h2 => ?_) (fun h2 => ?_)
    · have e : divV a b = 2147483647 := by unfold divV; rw [if_pos h, if_pos h2]
      rw [e]
      refine zs ?_;try exact trivial
    refine zs ?_;try exact trivial
    refine c_dec (fun h3 => ?_) (fun h3 => ?_)
    · have e : divV a b = -2147483648 := by unfold divV; rw [if_pos h, if_neg h2, if_pos h3]
      rw [e]
      refine zs ?_;try exact trivial
    have e : divV a b = 0 := by unfold divV; rw [if_pos h, if_neg h2, if_neg h3]
    rw [e]
    refine zs ?_;try exact trivial
  have e : divV a b = held ((a * 65536).tdiv b) := by unfold divV; rw [if_neg h]
  rw [e]
  refine zs ?_;try exact trivial
  refine a_call [] (rheld_h ((a * 65536).tdiv b) (by omega) (by omega)) ok0 ?_ ?_ ?_
  · refine zs ?_;try exact trivial
  · refine zs ?_;try exact trivial
  rintro _ _ ⟨rfl, rfl⟩
  refine zs ?_;try exact trivial
end
section
structure Mac where
  st : Sta
  i0 : UInt16
  i1 : UInt16
  sk : List Int
  pc : Int
  en : Bool
  bad : Bool
abbrev mB (i : Id) (m : Mac) : List C := mcC m.st m.i0 m.i1 (.stk (.cell i 22) 1 (c32 m.sk)) m.pc m.en m.bad
@[go_sem] theorem c32_nil : c32 [] = [] := nr rfl
@[go_sem 1200] theorem c32_app1 {l : List Int} {x : Int} : c32 l ++ [.val (.int .i32 x)] = c32 (l ++ [x]) := by simp [c32]
@[go_sem 1200] theorem c32_app2 {l : List Int} {x y : Int} : c32 l ++ [.val (.int .i32 x), .val (.int .i32 y)] = c32 (l ++ [x, y]) := by simp [c32]
@[go_sem 1200] theorem c32_take {l : List Int} {n : Nat} : (c32 l).take n = c32 (l.take n) := by simp [c32]
@[go_sem ↓ 1200] theorem e_IA3c {τ : Tag} {l : List Int} {t : TypeId} {i : Int} {V' : V → Prop} (h0 : 0 ≤ i) (h1 : i < l.length) : aIA (some (none, t, 1)) (.cell (.stk τ 1 (c32 l))) i V' = V' (.cell (.sptr τ i.toNat 1 (c32 l))) := e_IA3k h0 (by rw [c32_len]; exact h1)
theorem c32_get {l : List Int} {n : Nat} (h : n < l.length) : ((c32 l).map D.toC)[n]? = some (.val (.int .i32 (l.getD n 0))) := by
  simp [c32, h, D.toC]
@[go_sem ↓ 1200] theorem c32_ex {l : List Int} {n : Nat} {K : C → Prop} (h : n < l.length) : (∃ c, ((c32 l).map D.toC)[n]? = some c ∧ K c) = K (.val (.int .i32 (l.getD n 0))) := ex_some (c32_get h)
section
variable {s : Sta} {i0 i1 : UInt16} {sk : C} {atP : Int} {en bad : Bool} {K : C → Prop}
theorem mc_gcell {k : Nat} (h : k < 16) : (mcC s i0 i1 sk atP en bad)[k + 1]? = some (.val (.int .i32 (s.cells.getD k 0))) := by
  unfold mcC
  rw [List.getElem?_append_left (by rw [sdC_len]; omega)]
  exact get_cells h
@[go_sem ↓ 1300] theorem mc_mcell {k : Nat} (h : k < 16) : (∃ c, (mcC s i0 i1 sk atP en bad)[1 + k]? = some c ∧ K c) = K (.val (.int .i32 (s.cells.getD k 0))) := by
  rw [Nat.add_comm]; exact ex_some (mc_gcell h)
@[go_sem ↓ 1300] theorem mc_mcell' {k : Nat} (h : k < 16) : (∃ c, (mcC s i0 i1 sk atP en bad)[1 + k * 1]? = some c ∧ K c) = K (.val (.int .i32 (s.cells.getD k 0))) := by
  rw [Nat.mul_one]; exact mc_mcell h
theorem mc_scell0 {k : Nat} {x : Int} (h : k < 16) : spl (mcC s i0 i1 sk atP en bad) (k + 1) [.val (.int .i32 x)] = mcC (s.wCells k x) i0 i1 sk atP en bad := by
  unfold mcC
  rw [spl_appL (by rw [sdC_len]; simp; omega), spl_cells h]
@[go_sem 1300] theorem mc_scell {k : Nat} {x : Int} (h : k < 16) : (mcC s i0 i1 sk atP en bad).set (1 + k) (.val (.int .i32 x)) = mcC (s.wCells k x) i0 i1 sk atP en bad := by
  rw [Nat.add_comm]; exact mc_scell0 h
@[go_sem 1300] theorem mc_scell' {k : Nat} {x : Int} (h : k < 16) : (mcC s i0 i1 sk atP en bad).set (1 + k * 1) (.val (.int .i32 x)) = mcC (s.wCells k x) i0 i1 sk atP en bad := by
  rw [Nat.mul_one]; exact mc_scell h
end
theorem U16_b (v : UInt16) : 0 ≤ U16 v ∧ U16 v ≤ 65535 := ⟨U16_lo v, by have := U16_hi v; omega⟩
def popV (m : Mac) : Int := m.sk.getD (m.sk.length - 1) 0
def popM (m : Mac) : Mac := ⟨m.st, m.i0, m.i1, m.sk.take (m.sk.length - 1), m.pc, m.en, m.bad || decide (m.sk.length = 0)⟩
def pushM (m : Mac) (l : List Int) : Mac := ⟨m.st, m.i0, m.i1, m.sk ++ l, m.pc, m.en, m.bad || decide (32 < m.sk.length + l.length)⟩
def truthV (b : Bool) : Int := if b then 65536 else 0
theorem pop_h (m : Mac) (hl : m.sk.length ≤ 100000) : Holds Tryz.prog 111 [.ptr (.arg 0) 0] [(.arg 0, mB (.arg 0) m)] (fun r h' => r = .int .i32 (popV m) ∧ h' = [(.arg 0, mB (.arg 0) (popM m))]) := by
  obtain ⟨st, i0, i1, sk, pc, en, bad⟩ := m
  simp only at hl
  refine holds_of_awp Tryz.func111 rfl (by decide +kernel) mixed Tryz.ntmps111 Tryz.results111 ?_
  refine zE ?_
  refine zc ?_;try exact trivial
  refine c_dec (fun h => ?_) (fun h => ?_)
  · have h0 : sk = [] := List.eq_nil_of_length_eq_zero (by omega)
    subst h0
    simp only [popV, popM, List.length_nil, List.take_nil, List.getD_nil, decide_true, Bool.or_true]
    refine zc ?_;try exact trivial
    all_goals exact leCs_refl _
  have e1 : ((sk.length : Int) - 1).toNat = sk.length - 1 := by omega
  have e2 : popM ⟨st, i0, i1, sk, pc, en, bad⟩ = ⟨st, i0, i1, sk.take (sk.length - 1), pc, en, bad⟩ := by
    unfold popM
    rw [decide_eq_false (show ¬ sk.length = 0 by omega), Bool.or_false]
  rw [e2]
  simp only [popV]
  simp (maxSteps:=2000000) (disch:=omega) only [go_sem,Nat.reduceAdd,Nat.reduceSub,Nat.reduceMul,Nat.reduceBEq,Nat.reduceEqDiff,Nat.reduceLT,Nat.reduceLeDiff,Nat.reduceDiv,reduceIte,reduceCtorEq, e1]
  omega
theorem push1_h (m : Mac) (x : Int) (hl : m.sk.length ≤ 100000) : Holds Tryz.prog 110 [.ptr (.arg 0) 0, .c (.lst .no none 1 [.val (.int .i32 x)])] [(.arg 0, mB (.arg 0) m)] (fun r h' => r = .tup [] ∧ h' = [(.arg 0, mB (.arg 0) (pushM m [x]))]) := by
  obtain ⟨st, i0, i1, sk, pc, en, bad⟩ := m
  simp only at hl
  refine holds_of_awp Tryz.func110 rfl (by decide +kernel) mixed Tryz.ntmps110 Tryz.results110 ?_
  refine zE ?_
  refine zc ?_;try exact trivial
  refine ⟨by omega, c_dec (fun h => ?_) (fun h => ?_)⟩
  · have d : decide (32 < sk.length + 1) = true := decide_eq_true (by omega)
    have e : pushM ⟨st, i0, i1, sk, pc, en, bad⟩ [x] = ⟨st, i0, i1, sk ++ [x], pc, en, true⟩ := by
      unfold pushM; simp only [List.length_cons, List.length_nil, Nat.zero_add, Nat.reduceAdd, d, Bool.or_true]
    rw [e]
    refine zc ?_;try exact trivial
    all_goals exact leCs_refl _
  have d : decide (32 < sk.length + 1) = false := decide_eq_false (by omega)
  have e : pushM ⟨st, i0, i1, sk, pc, en, bad⟩ [x] = ⟨st, i0, i1, sk ++ [x], pc, en, bad⟩ := by
    unfold pushM; simp only [List.length_cons, List.length_nil, Nat.zero_add, Nat.reduceAdd, d, Bool.or_false]
  rw [e]
  refine zc ?_;try exact trivial
  all_goals exact leCs_refl _
theorem push2_h (m : Mac) (x y : Int) (hl : m.sk.length ≤ 100000) : Holds Tryz.prog 110 [.ptr (.arg 0) 0, .c (.lst .no none 1 [.val (.int .i32 x), .val (.int .i32 y)])] [(.arg 0, mB (.arg 0) m)] (fun r h' => r = .tup [] ∧ h' = [(.arg 0, mB (.arg 0) (pushM m [x, y]))]) := by
  obtain ⟨st, i0, i1, sk, pc, en, bad⟩ := m
  simp only at hl
  refine holds_of_awp Tryz.func110 rfl (by decide +kernel) mixed Tryz.ntmps110 Tryz.results110 ?_
  refine zE ?_
  refine zc ?_;try exact trivial
  refine ⟨by omega, c_dec (fun h => ?_) (fun h => ?_)⟩
  · have d : decide (32 < sk.length + 2) = true := decide_eq_true (by omega)
    have e : pushM ⟨st, i0, i1, sk, pc, en, bad⟩ [x, y] = ⟨st, i0, i1, sk ++ [x, y], pc, en, true⟩ := by
      unfold pushM; simp only [List.length_cons, List.length_nil, Nat.zero_add, Nat.reduceAdd, d, Bool.or_true]
    rw [e]
    refine zc ?_;try exact trivial
    all_goals exact leCs_refl _
  have d : decide (32 < sk.length + 2) = false := decide_eq_false (by omega)
  have e : pushM ⟨st, i0, i1, sk, pc, en, bad⟩ [x, y] = ⟨st, i0, i1, sk ++ [x, y], pc, en, bad⟩ := by
    unfold pushM; simp only [List.length_cons, List.length_nil, Nat.zero_add, Nat.reduceAdd, d, Bool.or_false]
  rw [e]
  refine zc ?_;try exact trivial
  all_goals exact leCs_refl _
theorem truth_h (b : Bool) : Holds Tryz.prog 114 [.c (.val (.bool b))] [] (fun r h' => r = .int .i32 (truthV b) ∧ h' = []) := by
  refine holds_of_awp Tryz.func114 rfl (by decide +kernel) mixed Tryz.ntmps114 Tryz.results114 ?_
  refine zE ?_
  cases b
  · refine zc ?_;try exact trivial
    rfl
  refine zc ?_;try exact trivial
  rfl
theorem least_h (b a : Int) : Holds Tryz.prog 94 [.int .i32 b, .int .i32 a] [] (fun r h' => r = .int .i32 (min b a) ∧ h' = []) := by
  refine holds_of_awp Tryz.func94 rfl (by decide +kernel) mixed Tryz.ntmps94 Tryz.results94 ?_
  refine zE ?_
  refine zs ?_;try exact trivial
  all_goals exact leCs_refl _
theorem greatest_h (b a : Int) : Holds Tryz.prog 95 [.int .i32 b, .int .i32 a] [] (fun r h' => r = .int .i32 (max b a) ∧ h' = []) := by
  refine holds_of_awp Tryz.func95 rfl (by decide +kernel) mixed Tryz.ntmps95 Tryz.results95 ?_
  refine zE ?_
  refine zs ?_;try exact trivial
  all_goals exact leCs_refl _
theorem less_h (b a : Int) : Holds Tryz.prog 96 [.int .i32 b, .int .i32 a] [] (fun r h' => r = .int .i32 (truthV (decide (b < a))) ∧ h' = []) := by
  refine holds_of_awp Tryz.func96 rfl (by decide +kernel) mixed Tryz.ntmps96 Tryz.results96 ?_
  refine zE ?_
  refine zs ?_;try exact trivial
  refine a_call [] (truth_h (decide (b < a))) ok0 ?_ ?_ ?_
  · refine zs ?_;try exact trivial
  · refine zs ?_;try exact trivial
  rintro _ _ ⟨rfl, rfl⟩
  refine zs ?_;try exact trivial
  all_goals exact leCs_refl _
theorem same10_h (b a : Int) : Holds Tryz.prog 97 [.int .i32 b, .int .i32 a] [] (fun r h' => r = .int .i32 (truthV (decide (b = a))) ∧ h' = []) := by
  refine holds_of_awp Tryz.func97 rfl (by decide +kernel) mixed Tryz.ntmps97 Tryz.results97 ?_
  refine zE ?_
  refine zs ?_;try exact trivial
  refine a_call [] (truth_h (decide (b = a))) ok0 ?_ ?_ ?_
  · refine zs ?_;try exact trivial
  · refine zs ?_;try exact trivial
  rintro _ _ ⟨rfl, rfl⟩
  refine zs ?_;try exact trivial
  all_goals exact leCs_refl _
/-! ### the doers -/
def number10 (m : Mac) (arg : Int) : Mac := pushM m [arg]
def load10 (m : Mac) (arg : Int) : Mac := pushM m [m.st.cells.getD arg.toNat 0]
def store10 (m : Mac) (arg : Int) : Mac := ⟨m.st.wCells arg.toNat (popV m), m.i0, m.i1, (popM m).sk, m.pc, m.en, (popM m).bad⟩
def not10 (m : Mac) : Mac := pushM (popM m) [truthV (decide (popV m = 0))]
def dup10 (m : Mac) : Mac := pushM (popM m) [popV m, popV m]
def swap10 (m : Mac) : Mac := pushM (popM (popM m)) [popV m, popV (popM m)]
def input10 (m : Mac) (arg : Int) : Mac := pushM m [if arg = 0 then (U16 m.i0 : Int) else U16 m.i1]
def frame10 (m : Mac) : Mac := pushM m [m.st.frame]
def jump10 (m : Mac) (arg : Int) : Mac := ⟨m.st, m.i0, m.i1, m.sk, arg, m.en, m.bad⟩
def zero10 (m : Mac) (arg : Int) : Mac := if popV m = 0 then jump10 (popM m) arg else popM m
def win10 (m : Mac) (arg : Int) : Mac := ⟨(m.st.wOver true).wWin arg, m.i0, m.i1, m.sk, m.pc, true, m.bad⟩
def halt10 (m : Mac) : Mac := ⟨m.st, m.i0, m.i1, m.sk, m.pc, true, m.bad⟩
def mixS (a : UInt32) : UInt32 := xor32 (xor32 (xor32 a (shl32 a 13)) (shr32 (xor32 a (shl32 a 13)) 17)) (shl32 (xor32 (xor32 a (shl32 a 13)) (shr32 (xor32 a (shl32 a 13)) 17)) 5)
def rndV (a : UInt32) : Int := (U32 a) % 65536
def rand10 (m : Mac) : Mac := pushM ⟨m.st.wSeed (mixS m.st.seed), m.i0, m.i1, m.sk, m.pc, m.en, m.bad⟩ [rndV (mixS m.st.seed)]
def two10 (f : Int → Int → Int) (m : Mac) : Mac := pushM (popM (popM m)) [f (popV (popM m)) (popV m)]
theorem rndV_b (a : UInt32) : 0 ≤ rndV a ∧ rndV a ≤ 65535 := by unfold rndV; omega
@[go_sem ↓ 1150] theorem e_rem16 {a : UInt32} {V' : V → Prop} : aInt .rem .u32 (U32 a) .u32 65536 V' = V' (.int .u32 (rndV a)) := by
  rw [e_rem (by omega)]
  unfold rndV
  rw [Int.tmod_eq_emod_of_nonneg (by unfold U32; omega)]
section
variable (m : Mac) (hl : m.sk.length ≤ 1000)
include hl
theorem number_h10 (arg : Int) (ha : B32 arg) : Holds Tryz.prog 86 [.ptr (.arg 0) 0, .int .i64 arg] [(.arg 0, mB (.arg 0) m)] (fun r h' => r = .tup [] ∧ h' = [(.arg 0, mB (.arg 0) (number10 m arg))]) := by
  obtain ⟨ha, hb⟩ := ha
  refine holds_of_awp Tryz.func86 rfl (by decide +kernel) mixed Tryz.ntmps86 Tryz.results86 ?_
  refine zE ?_
  refine zc ?_;try exact trivial
  refine a_call [.arg 0] (push1_h m arg (by omega)) (ok1 rfl) ?_ ?_ ?_
  · refine zs ?_;try exact trivial
  · refine zs ?_;try exact trivial
  rintro _ _ ⟨rfl, rfl⟩
  refine zs ?_;try exact trivial
  all_goals exact leCs_refl _
theorem load_h10 (arg : Int) (h0 : 0 ≤ arg) (h1 : arg ≤ 15) : Holds Tryz.prog 87 [.ptr (.arg 0) 0, .int .i64 arg] [(.arg 0, mB (.arg 0) m)] (fun r h' => r = .tup [] ∧ h' = [(.arg 0, mB (.arg 0) (load10 m arg))]) := by
  refine holds_of_awp Tryz.func87 rfl (by decide +kernel) mixed Tryz.ntmps87 Tryz.results87 ?_
  refine zE ?_
  refine zc ?_;try exact trivial
  refine a_call [.arg 0] (push1_h m (m.st.cells.getD arg.toNat 0) (by omega)) (ok1 rfl) ?_ ?_ ?_
  · refine zs ?_;try exact trivial
  · refine zs ?_;try exact trivial
  rintro _ _ ⟨rfl, rfl⟩
  refine zs ?_;try exact trivial
  all_goals exact leCs_refl _
theorem store_h10 (arg : Int) (h0 : 0 ≤ arg) (h1 : arg ≤ 15) : Holds Tryz.prog 88 [.ptr (.arg 0) 0, .int .i64 arg] [(.arg 0, mB (.arg 0) m)] (fun r h' => r = .tup [] ∧ h' = [(.arg 0, mB (.arg 0) (store10 m arg))]) := by
  refine holds_of_awp Tryz.func88 rfl (by decide +kernel) mixed Tryz.ntmps88 Tryz.results88 ?_
  refine zE ?_
  refine a_draw (.take 0 (.take 1 (.take 2 (.take 4 (.take 5 (.take 6 (.both [(3, .take 7 (.both [(8, .done)]))]))))))) (by kernel_rfl) (by kernel_rfl) ?_
  refine zc ?_;try exact trivial
  refine a_call [.arg 0] (pop_h m (by omega)) (ok1 rfl) ?_ ?_ ?_
  · refine zs ?_;try exact trivial
  · refine zs ?_;try exact trivial
  rintro _ _ ⟨rfl, rfl⟩
  refine zc ?_;try exact trivial
  all_goals exact ⟨by omega, leCs_refl _⟩
theorem not_h10 (arg : Int) : Holds Tryz.prog 98 [.ptr (.arg 0) 0, .int .i64 arg] [(.arg 0, mB (.arg 0) m)] (fun r h' => r = .tup [] ∧ h' = [(.arg 0, mB (.arg 0) (not10 m))]) := by
  refine holds_of_awp Tryz.func98 rfl (by decide +kernel) mixed Tryz.ntmps98 Tryz.results98 ?_
  refine zE ?_
  refine zc ?_;try exact trivial
  refine a_call [.arg 0] (pop_h m (by omega)) (ok1 rfl) ?_ ?_ ?_
  · refine zs ?_;try exact trivial
  · refine zs ?_;try exact trivial
  rintro _ _ ⟨rfl, rfl⟩
  refine zc ?_;try exact trivial
  refine a_call [] (truth_h (decide (popV m = 0))) ok0 ?_ ?_ ?_
  · refine zs ?_;try exact trivial
  · refine zs ?_;try exact trivial
  rintro _ _ ⟨rfl, rfl⟩
  refine zc ?_;try exact trivial
  refine a_call [.arg 0] (push1_h (popM m) (truthV (decide (popV m = 0))) (by simp [popM]; omega)) (ok1 rfl) ?_ ?_ ?_
  · refine zs ?_;try exact trivial
  · refine zs ?_;try exact trivial
  rintro _ _ ⟨rfl, rfl⟩
  refine zs ?_;try exact trivial
  all_goals exact leCs_refl _
theorem dup_h10 (arg : Int) : Holds Tryz.prog 99 [.ptr (.arg 0) 0, .int .i64 arg] [(.arg 0, mB (.arg 0) m)] (fun r h' => r = .tup [] ∧ h' = [(.arg 0, mB (.arg 0) (dup10 m))]) := by
  refine holds_of_awp Tryz.func99 rfl (by decide +kernel) mixed Tryz.ntmps99 Tryz.results99 ?_
  refine zE ?_
  refine zc ?_;try exact trivial
  refine a_call [.arg 0] (pop_h m (by omega)) (ok1 rfl) ?_ ?_ ?_
  · refine zs ?_;try exact trivial
  · refine zs ?_;try exact trivial
  rintro _ _ ⟨rfl, rfl⟩
  refine zc ?_;try exact trivial
  refine a_call [.arg 0] (push2_h (popM m) (popV m) (popV m) (by simp [popM]; omega)) (ok1 rfl) ?_ ?_ ?_
  · refine zs ?_;try exact trivial
  · refine zs ?_;try exact trivial
  rintro _ _ ⟨rfl, rfl⟩
  refine zs ?_;try exact trivial
  all_goals exact leCs_refl _
theorem swap_h10 (arg : Int) : Holds Tryz.prog 100 [.ptr (.arg 0) 0, .int .i64 arg] [(.arg 0, mB (.arg 0) m)] (fun r h' => r = .tup [] ∧ h' = [(.arg 0, mB (.arg 0) (swap10 m))]) := by
  refine holds_of_awp Tryz.func100 rfl (by decide +kernel) mixed Tryz.ntmps100 Tryz.results100 ?_
  refine zE ?_
  refine zc ?_;try exact trivial
  refine a_call [.arg 0] (pop_h m (by omega)) (ok1 rfl) ?_ ?_ ?_
  · refine zs ?_;try exact trivial
  · refine zs ?_;try exact trivial
  rintro _ _ ⟨rfl, rfl⟩
  refine zc ?_;try exact trivial
  refine a_call [.arg 0] (pop_h (popM m) (by simp [popM]; omega)) (ok1 rfl) ?_ ?_ ?_
  · refine zs ?_;try exact trivial
  · refine zs ?_;try exact trivial
  rintro _ _ ⟨rfl, rfl⟩
  refine zc ?_;try exact trivial
  refine a_call [.arg 0] (push2_h (popM (popM m)) (popV m) (popV (popM m)) (by simp [popM]; omega)) (ok1 rfl) ?_ ?_ ?_
  · refine zs ?_;try exact trivial
  · refine zs ?_;try exact trivial
  rintro _ _ ⟨rfl, rfl⟩
  refine zs ?_;try exact trivial
  all_goals exact leCs_refl _
theorem drop_h10 (arg : Int) : Holds Tryz.prog 101 [.ptr (.arg 0) 0, .int .i64 arg] [(.arg 0, mB (.arg 0) m)] (fun r h' => r = .tup [] ∧ h' = [(.arg 0, mB (.arg 0) (popM m))]) := by
  refine holds_of_awp Tryz.func101 rfl (by decide +kernel) mixed Tryz.ntmps101 Tryz.results101 ?_
  refine zE ?_
  refine zc ?_;try exact trivial
  refine a_call [.arg 0] (pop_h m (by omega)) (ok1 rfl) ?_ ?_ ?_
  · refine zs ?_;try exact trivial
  · refine zs ?_;try exact trivial
  rintro _ _ ⟨rfl, rfl⟩
  refine zs ?_;try exact trivial
  all_goals exact leCs_refl _
theorem input_h10 (arg : Int) (h0 : arg = 0 ∨ arg = 1) : Holds Tryz.prog 102 [.ptr (.arg 0) 0, .int .i64 arg] [(.arg 0, mB (.arg 0) m)] (fun r h' => r = .tup [] ∧ h' = [(.arg 0, mB (.arg 0) (input10 m arg))]) := by
  have u0 := U16_b m.i0
  have u1 := U16_b m.i1
  refine holds_of_awp Tryz.func102 rfl (by decide +kernel) mixed Tryz.ntmps102 Tryz.results102 ?_
  refine zE ?_
  rcases h0 with rfl | rfl
  · refine zc ?_;try exact trivial
    refine a_call [.arg 0] (push1_h m (U16 m.i0) (by omega)) (ok1 rfl) ?_ ?_ ?_
    · refine zs ?_;try exact trivial
    · refine zs ?_;try exact trivial
    rintro _ _ ⟨rfl, rfl⟩
    refine zs ?_;try exact trivial
    all_goals exact leCs_refl _
  refine zc ?_;try exact trivial
  refine a_call [.arg 0] (push1_h m (U16 m.i1) (by omega)) (ok1 rfl) ?_ ?_ ?_
  · refine zs ?_;try exact trivial
  · refine zs ?_;try exact trivial
  rintro _ _ ⟨rfl, rfl⟩
  refine zs ?_;try exact trivial
  all_goals exact leCs_refl _
theorem frame_h10 (arg : Int) (h0 : 0 ≤ m.st.frame) (h1 : m.st.frame ≤ 600) : Holds Tryz.prog 103 [.ptr (.arg 0) 0, .int .i64 arg] [(.arg 0, mB (.arg 0) m)] (fun r h' => r = .tup [] ∧ h' = [(.arg 0, mB (.arg 0) (frame10 m))]) := by
  refine holds_of_awp Tryz.func103 rfl (by decide +kernel) mixed Tryz.ntmps103 Tryz.results103 ?_
  refine zE ?_
  refine zc ?_;try exact trivial
  refine a_call [.arg 0] (push1_h m m.st.frame (by omega)) (ok1 rfl) ?_ ?_ ?_
  · refine zs ?_;try exact trivial
  · refine zs ?_;try exact trivial
  rintro _ _ ⟨rfl, rfl⟩
  refine zs ?_;try exact trivial
  all_goals exact leCs_refl _
omit hl in
theorem jump_h10 (arg : Int) : Holds Tryz.prog 104 [.ptr (.arg 0) 0, .int .i64 arg] [(.arg 0, mB (.arg 0) m)] (fun r h' => r = .tup [] ∧ h' = [(.arg 0, mB (.arg 0) (jump10 m arg))]) := by
  refine holds_of_awp Tryz.func104 rfl (by decide +kernel) mixed Tryz.ntmps104 Tryz.results104 ?_
  refine zE ?_
  refine zc ?_;try exact trivial
  all_goals exact leCs_refl _
theorem zero_h10 (arg : Int) : Holds Tryz.prog 105 [.ptr (.arg 0) 0, .int .i64 arg] [(.arg 0, mB (.arg 0) m)] (fun r h' => r = .tup [] ∧ h' = [(.arg 0, mB (.arg 0) (zero10 m arg))]) := by
  refine holds_of_awp Tryz.func105 rfl (by decide +kernel) mixed Tryz.ntmps105 Tryz.results105 ?_
  refine zE ?_
  refine zc ?_;try exact trivial
  refine a_call [.arg 0] (pop_h m (by omega)) (ok1 rfl) ?_ ?_ ?_
  · refine zs ?_;try exact trivial
  · refine zs ?_;try exact trivial
  rintro _ _ ⟨rfl, rfl⟩
  refine zc ?_;try exact trivial
  refine c_dec (fun h => ?_) (fun h => ?_)
  · unfold zero10
    rw [if_pos h]
    refine zc ?_;try exact trivial
    all_goals exact leCs_refl _
  unfold zero10
  rw [if_neg h]
  refine zc ?_;try exact trivial
  all_goals exact leCs_refl _
omit hl in
theorem win_h10 (arg : Int) : Holds Tryz.prog 106 [.ptr (.arg 0) 0, .int .i64 arg] [(.arg 0, mB (.arg 0) m)] (fun r h' => r = .tup [] ∧ h' = [(.arg 0, mB (.arg 0) (win10 m arg))]) := by
  refine holds_of_awp Tryz.func106 rfl (by decide +kernel) mixed Tryz.ntmps106 Tryz.results106 ?_
  refine zE ?_
  refine zc ?_;try exact trivial
  all_goals exact leCs_refl _
omit hl in
theorem halt_h10 (arg : Int) : Holds Tryz.prog 108 [.ptr (.arg 0) 0, .int .i64 arg] [(.arg 0, mB (.arg 0) m)] (fun r h' => r = .tup [] ∧ h' = [(.arg 0, mB (.arg 0) (halt10 m))]) := by
  refine holds_of_awp Tryz.func108 rfl (by decide +kernel) mixed Tryz.ntmps108 Tryz.results108 ?_
  refine zE ?_
  refine zc ?_;try exact trivial
  all_goals exact leCs_refl _
theorem rand_h10 (arg : Int) : Holds Tryz.prog 107 [.ptr (.arg 0) 0, .int .i64 arg] [(.arg 0, mB (.arg 0) m)] (fun r h' => r = .tup [] ∧ h' = [(.arg 0, mB (.arg 0) (rand10 m))]) := by
  have hb := rndV_b (mixS m.st.seed)
  refine holds_of_awp Tryz.func107 rfl (by decide +kernel) mixed Tryz.ntmps107 Tryz.results107 ?_
  refine zE ?_
  refine zc ?_;try exact trivial
  have em : (xor32 (xor32 (xor32 m.st.seed (shl32 m.st.seed 13)) (shr32 (xor32 m.st.seed (shl32 m.st.seed 13)) 17)) (shl32 (xor32 (xor32 m.st.seed (shl32 m.st.seed 13)) (shr32 (xor32 m.st.seed (shl32 m.st.seed 13)) 17)) 5)) = mixS m.st.seed := rfl
  simp only [em]
  refine zc ?_;try exact trivial
  refine a_call [.arg 0] (push1_h ⟨m.st.wSeed (mixS m.st.seed), m.i0, m.i1, m.sk, m.pc, m.en, m.bad⟩ (rndV (mixS m.st.seed)) (by simp; omega)) (ok1 rfl) ?_ ?_ ?_
  · refine zs ?_;try exact trivial
  · refine zs ?_;try exact trivial
  rintro _ _ ⟨rfl, rfl⟩
  refine zs ?_;try exact trivial
  all_goals exact leCs_refl _
theorem two1_h10 (k : Nat) (f : Int → Int → Int) (hf : Holds Tryz.prog k [.int .i32 (popV (popM m)), .int .i32 (popV m)] [] (fun r h' => r = .int .i32 (f (popV (popM m)) (popV m)) ∧ h' = [])) (arg : Int) :
    Holds Tryz.prog 112 [.ptr (.arg 0) 0, .int .i64 arg, .ptr (.arg 1) 0] [(.arg 0, mB (.arg 0) m), (.arg 1, [.fn (.func k) [] []])] (fun r h' => r = .tup [] ∧ h' = [(.arg 0, mB (.arg 0) (two10 f m)), (.arg 1, [.fn (.func k) [] []])]) := by
  refine holds_of_awp Tryz.func112 rfl (by decide +kernel) mixed Tryz.ntmps112 Tryz.results112 ?_
  refine zE ?_
  refine zc ?_;try exact trivial
  refine a_call [.arg 0] (pop_h m (by omega)) (ok1 rfl) ?_ ?_ ?_
  · refine zs ?_;try exact trivial
  · refine zs ?_;try exact trivial
  rintro _ _ ⟨rfl, rfl⟩
  refine zc ?_;try exact trivial
  refine a_call [.arg 0] (pop_h (popM m) (by simp [popM]; omega)) (ok1 rfl) ?_ ?_ ?_
  · refine zs ?_;try exact trivial
  · refine zs ?_;try exact trivial
  rintro _ _ ⟨rfl, rfl⟩
  refine zc ?_;try exact trivial
  refine a_call [] (hf) ok0 ?_ ?_ ?_
  · refine zs ?_;try exact trivial
  · refine zs ?_;try exact trivial
  rintro _ _ ⟨rfl, rfl⟩
  refine zc ?_;try exact trivial
  refine a_call [.arg 0] (push1_h (popM (popM m)) (f (popV (popM m)) (popV m)) (by simp [popM]; omega)) (ok1 rfl) ?_ ?_ ?_
  · refine zs ?_;try exact trivial
  · refine zs ?_;try exact trivial
  rintro _ _ ⟨rfl, rfl⟩
  refine zs ?_;try exact trivial
  all_goals exact leCs_refl _
end
end
section
def f4 (b a : Int) : Int := held (b + a)
def f5 (b a : Int) : Int := held (b - a)
def f6 (b a : Int) : Int := held (b * a / 65536)
def f7 (b a : Int) : Int := divV b a
def f8 (b a : Int) : Int := min b a
def f9 (b a : Int) : Int := max b a
def f10 (b a : Int) : Int := truthV (decide (b < a))
def f11 (b a : Int) : Int := truthV (decide (b = a))
/-- an instruction -/
def doM (op arg : Int) (m : Mac) : Mac :=
  if op = 1 then number10 m arg
  else if op = 2 then load10 m arg
  else if op = 3 then store10 m arg
  else if op = 4 then two10 f4 m
  else if op = 5 then two10 f5 m
  else if op = 6 then two10 f6 m
  else if op = 7 then two10 f7 m
  else if op = 8 then two10 f8 m
  else if op = 9 then two10 f9 m
  else if op = 10 then two10 f10 m
  else if op = 11 then two10 f11 m
  else if op = 12 then not10 m
  else if op = 13 then dup10 m
  else if op = 14 then swap10 m
  else if op = 15 then popM m
  else if op = 16 then input10 m arg
  else if op = 17 then frame10 m
  else if op = 18 then jump10 m arg
  else if op = 19 then zero10 m arg
  else if op = 20 then win10 m arg
  else if op = 21 then rand10 m
  else halt10 m
/-- what holds of a machine all the while -/
structure okM (n : Int) (m : Mac) : Prop where
  pc0 : 0 ≤ m.pc
  pc1 : m.pc ≤ n
  len : m.sk.length ≤ 32
  sk : ∀ x ∈ m.sk, B32 x
  cells : ∀ x ∈ m.st.cells, B32 x
  fr0 : 0 ≤ m.st.frame
  fr1 : m.st.frame ≤ 600
theorem B32_0 : B32 0 := by unfold B32; omega
theorem getD_B32 {l : List Int} (h : ∀ x ∈ l, B32 x) (k : Nat) : B32 (l.getD k 0) := by
  rw [List.getD_eq_getElem?_getD]
  cases hk : l[k]? with
  | none => exact B32_0
  | some x => exact h x (List.mem_of_getElem? hk)
theorem popV_B {m : Mac} (h : ∀ x ∈ m.sk, B32 x) : B32 (popV m) := getD_B32 h _
theorem popM_B {m : Mac} (h : ∀ x ∈ m.sk, B32 x) : ∀ x ∈ (popM m).sk, B32 x := fun x hx => h x (List.mem_of_mem_take hx)
theorem truthV_B (b : Bool) : B32 (truthV b) := by cases b <;> (unfold truthV B32; simp)
theorem divV_B {b a : Int} (hb : B32 b) (ha : B32 a) : B32 (divV b a) := by
  unfold divV
  split
  · split
    · unfold B32; omega
    split <;> (unfold B32; omega)
  exact held_b _
theorem min_B {b a : Int} (hb : B32 b) (ha : B32 a) : B32 (min b a) := by unfold B32 at *; omega
theorem max_B {b a : Int} (hb : B32 b) (ha : B32 a) : B32 (max b a) := by unfold B32 at *; omega
/-- what an instruction leaves is right again, if it did -/
structure okL (m : Mac) : Prop where
  sk : ∀ x ∈ m.sk, B32 x
  cells : ∀ x ∈ m.st.cells, B32 x
  fr0 : 0 ≤ m.st.frame
  fr1 : m.st.frame ≤ 600
theorem okL.pop {m : Mac} (h : okL m) : okL (popM m) := ⟨popM_B h.sk, h.cells, h.fr0, h.fr1⟩
theorem okL.push {m : Mac} (h : okL m) {l : List Int} (hx : ∀ x ∈ l, B32 x) : okL (pushM m l) := ⟨fun x hm => by
  rcases List.mem_append.1 hm with h1 | h1
  · exact h.sk x h1
  exact hx x h1, h.cells, h.fr0, h.fr1⟩
theorem one_B {x : Int} (h : B32 x) : ∀ y ∈ [x], B32 y := fun y hy => by rw [List.mem_singleton.1 hy]; exact h
theorem two_B {x z : Int} (h : B32 x) (h2 : B32 z) : ∀ y ∈ [x, z], B32 y := fun y hy => by
  rcases List.mem_cons.1 hy with e | e
  · rw [e]; exact h
  rw [List.mem_singleton.1 e]; exact h2
theorem wCells_B {s : Sta} {k : Nat} {x : Int} (h : ∀ y ∈ s.cells, B32 y) (hx : B32 x) : ∀ y ∈ (s.wCells k x).cells, B32 y := fun y hy => by
  rcases List.mem_or_eq_of_mem_set hy with h1 | h1
  · exact h y h1
  rw [h1]; exact hx
theorem okL.two {m : Mac} (h : okL m) {f : Int → Int → Int} (hf : ∀ b a, B32 b → B32 a → B32 (f b a)) : okL (two10 f m) := h.pop.pop.push (one_B (hf _ _ (popV_B h.pop.sk) (popV_B h.sk)))
theorem mayP_arg {op arg n : Int} (h : mayP op arg n = true) : (1 ≤ op ∧ op ≤ 22) ∧ (op = 1 → B32 arg) ∧ (op = 2 ∨ op = 3 → 0 ≤ arg ∧ arg ≤ 15) ∧ (op = 16 → arg = 0 ∨ arg = 1) ∧ (op = 18 ∨ op = 19 → 0 ≤ arg ∧ arg ≤ n) ∧ (op = 20 → 0 ≤ arg ∧ arg ≤ 2) := by
  unfold mayP at h
  unfold B32
  split at h
  · simp only [Bool.and_eq_true, decide_eq_true_eq] at h; omega
  split at h
  · simp only [Bool.and_eq_true, decide_eq_true_eq] at h; omega
  split at h
  · simp only [Bool.and_eq_true, decide_eq_true_eq] at h; omega
  split at h
  · simp only [Bool.and_eq_true, decide_eq_true_eq] at h; omega
  split at h
  · simp only [Bool.and_eq_true, decide_eq_true_eq] at h; omega
  simp only [Bool.and_eq_true, decide_eq_true_eq] at h; omega
theorem op_cases {op : Int} (h : 1 ≤ op ∧ op ≤ 22) : op = 1 ∨ op = 2 ∨ op = 3 ∨ op = 4 ∨ op = 5 ∨ op = 6 ∨ op = 7 ∨ op = 8 ∨ op = 9 ∨ op = 10 ∨ op = 11 ∨ op = 12 ∨ op = 13 ∨ op = 14 ∨ op = 15 ∨ op = 16 ∨ op = 17 ∨ op = 18 ∨ op = 19 ∨ op = 20 ∨ op = 21 ∨ op = 22 := by omega
section
variable (arg : Int) (m : Mac)
theorem doM_19 : doM 19 arg m = zero10 m arg := rfl
end
theorem doM_low {n op arg : Int} {m : Mac} (h : okL m) (hm : mayP op arg n = true) : okL (doM op arg m) := by
  obtain ⟨ho, h1, h2, h16, h18, h20⟩ := mayP_arg hm
  have u0 := U16_b m.i0
  have u1 := U16_b m.i1
  have hr := rndV_b (mixS m.st.seed)
  rcases op_cases ho with rfl | rfl | rfl | rfl | rfl | rfl | rfl | rfl | rfl | rfl | rfl | rfl | rfl | rfl | rfl | rfl | rfl | rfl | rfl | rfl | rfl | rfl
  · exact h.push (one_B (h1 rfl))
  · exact h.push (one_B (getD_B32 h.cells _))
  · exact ⟨(okL.pop h).sk, wCells_B h.cells (popV_B h.sk), h.fr0, h.fr1⟩
  · exact h.two fun _ _ _ _ => held_b _
  · exact h.two fun _ _ _ _ => held_b _
  · exact h.two fun _ _ _ _ => held_b _
  · exact h.two fun _ _ => divV_B
  · exact h.two fun _ _ => min_B
  · exact h.two fun _ _ => max_B
  · exact h.two fun _ _ _ _ => truthV_B _
  · exact h.two fun _ _ _ _ => truthV_B _
  · exact h.pop.push (one_B (truthV_B _))
  · exact h.pop.push (two_B (popV_B h.sk) (popV_B h.sk))
  · exact h.pop.pop.push (two_B (popV_B h.sk) (popV_B h.pop.sk))
  · exact h.pop
  · exact h.push (one_B (by split <;> (unfold B32; omega)))
  · exact h.push (one_B (by have := h.fr0; have := h.fr1; unfold B32; omega))
  · exact ⟨h.sk, h.cells, h.fr0, h.fr1⟩
  · rw [doM_19]
    unfold zero10
    split
    · exact ⟨h.pop.sk, h.cells, h.fr0, h.fr1⟩
    exact h.pop
  · exact ⟨h.sk, h.cells, h.fr0, h.fr1⟩
  · exact okL.push (m := ⟨m.st.wSeed (mixS m.st.seed), m.i0, m.i1, m.sk, m.pc, m.en, m.bad⟩) ⟨h.sk, h.cells, h.fr0, h.fr1⟩ (one_B (by unfold B32; omega))
  exact ⟨h.sk, h.cells, h.fr0, h.fr1⟩
theorem pushM_pc {m : Mac} {l : List Int} : (pushM m l).pc = m.pc := rfl
theorem pushM_len {m : Mac} {l : List Int} (h : (pushM m l).bad = false) : (pushM m l).sk.length ≤ 32 := by
  unfold pushM at h ⊢
  simp only [Bool.or_eq_false_iff, decide_eq_false_iff_not] at h
  rw [List.length_append]; omega
theorem popM_len {m : Mac} : (popM m).sk.length ≤ m.sk.length := List.length_take_le' _ _
/-- where it goes on, and how high the numbers stand -/
theorem doM_pc {n op arg : Int} {m : Mac} (h0 : 0 ≤ m.pc) (h1 : m.pc ≤ n) (hl : m.sk.length ≤ 32) (hm : mayP op arg n = true) (hb : (doM op arg m).bad = false) : 0 ≤ (doM op arg m).pc ∧ (doM op arg m).pc ≤ n ∧ (doM op arg m).sk.length ≤ 32 := by
  obtain ⟨ho, _, _, _, h18, _⟩ := mayP_arg hm
  have P : ∀ {x : Mac} {l : List Int}, x.pc = m.pc → (pushM x l).bad = false → 0 ≤ (pushM x l).pc ∧ (pushM x l).pc ≤ n ∧ (pushM x l).sk.length ≤ 32 := by
    intro x l hx hb
    exact ⟨by rw [pushM_pc, hx]; exact h0, by rw [pushM_pc, hx]; exact h1, pushM_len hb⟩
  rcases op_cases ho with rfl | rfl | rfl | rfl | rfl | rfl | rfl | rfl | rfl | rfl | rfl | rfl | rfl | rfl | rfl | rfl | rfl | rfl | rfl | rfl | rfl | rfl
  · exact P rfl hb
  · exact P rfl hb
  · exact ⟨h0, h1, Nat.le_trans popM_len hl⟩
  · exact P (x := popM (popM m)) rfl hb
  · exact P (x := popM (popM m)) rfl hb
  · exact P (x := popM (popM m)) rfl hb
  · exact P (x := popM (popM m)) rfl hb
  · exact P (x := popM (popM m)) rfl hb
  · exact P (x := popM (popM m)) rfl hb
  · exact P (x := popM (popM m)) rfl hb
  · exact P (x := popM (popM m)) rfl hb
  · exact P (x := popM m) rfl hb
  · exact P (x := popM m) rfl hb
  · exact P (x := popM (popM m)) rfl hb
  · exact ⟨h0, h1, Nat.le_trans popM_len hl⟩
  · exact P rfl hb
  · exact P rfl hb
  · exact ⟨(h18 (.inl rfl)).1, (h18 (.inl rfl)).2, hl⟩
  · rw [doM_19]
    unfold zero10
    split
    · exact ⟨(h18 (.inr rfl)).1, (h18 (.inr rfl)).2, Nat.le_trans popM_len hl⟩
    exact ⟨h0, h1, Nat.le_trans popM_len hl⟩
  · exact ⟨h0, h1, hl⟩
  · exact P (x := ⟨m.st.wSeed (mixS m.st.seed), m.i0, m.i1, m.sk, m.pc, m.en, m.bad⟩) rfl hb
  exact ⟨h0, h1, hl⟩
@[reducible] def incM (m : Mac) : Mac := ⟨m.st, m.i0, m.i1, m.sk, m.pc + 1, m.en, m.bad⟩
/-- a frame's run: what went wrong, and the machine -/
def runM (code : List (Int × Int)) : Nat → Mac → Int × Mac
  | 0, m => if m.pc < code.length ∧ m.en = false then (10, m) else (0, m)
  | f + 1, m => if m.pc < code.length ∧ m.en = false then
      (if (doM (gi code m.pc.toNat).1 (gi code m.pc.toNat).2 (incM m)).bad = true then (11, doM (gi code m.pc.toNat).1 (gi code m.pc.toNat).2 (incM m))
       else runM code f (doM (gi code m.pc.toNat).1 (gi code m.pc.toNat).2 (incM m))) else (0, m)
end
section
theorem chk_all {l : List (Int × Int)} (h : (chkP l).2 = 0) {i : Nat} (hi : i < l.length) : mayP (gi l i).1 (gi l i).2 l.length = true := by
  unfold chkP at h
  split at h
  · simp at h
  split at h
  · simp at h
  exact firstBad_at (by omega)
/-- how an op is done -/
def doeF (a b c d e f g h : Id) (op : Nat) : C := (doeC a b c d e f g h).getD op .undef
theorem doe_at {a b c d e f g h : Id} {op : Nat} (h2 : op ≤ 22) : (doeC a b c d e f g h)[op]? = some (doeF a b c d e f g h op) := by
  have hl : op < (doeC a b c d e f g h).length := by rw [doe_l]; omega
  unfold doeF
  rw [List.getD_eq_getElem?_getD, List.getElem?_eq_getElem hl]; rfl
@[go_sem ↓ 1300] theorem doe_m {a b c d e f g h : Id} {op : Nat} {K : C → Prop} (h2 : op ≤ 22) : (∃ x, (doeC a b c d e f g h)[op]? = some x ∧ K x) = K (doeF a b c d e f g h op) := ex_some (doe_at h2)
@[go_sem ↓ 1300] theorem doe_m1 {a b c d e f g h : Id} {op : Nat} {K : C → Prop} (h2 : op ≤ 22) : (∃ x, (doeC a b c d e f g h)[op * 1]? = some x ∧ K x) = K (doeF a b c d e f g h op) := by rw [Nat.mul_one]; exact doe_m h2
@[go_sem ↓ 1300] theorem doe_m0 {a b c d e f g h : Id} {op : Nat} {K : C → Prop} (h2 : op ≤ 22) : (∃ x, (doeC a b c d e f g h)[0 + op * 1]? = some x ∧ K x) = K (doeF a b c d e f g h op) := by rw [Nat.zero_add]; exact doe_m1 h2
abbrev doeI : List C := doeC (.loc [8, 0, 1, 0, 1]) (.loc [8, 0, 2, 0, 1]) (.loc [8, 0, 3, 0, 1]) (.loc [8, 0, 4, 0, 1]) (.loc [8, 0, 5, 0, 1]) (.loc [8, 0, 6, 0, 1]) (.loc [8, 0, 7, 0, 1]) (.loc [8, 0, 8, 0, 1])
abbrev doeHI : Heap := doeH (.loc [8, 0, 1, 0, 1]) (.loc [8, 0, 2, 0, 1]) (.loc [8, 0, 3, 0, 1]) (.loc [8, 0, 4, 0, 1]) (.loc [8, 0, 5, 0, 1]) (.loc [8, 0, 6, 0, 1]) (.loc [8, 0, 7, 0, 1]) (.loc [8, 0, 8, 0, 1])
set_option maxRecDepth 20000 in
set_option maxHeartbeats 16000000 in
theorem run_h10 (code : List (Int × Int)) (cap : Int) (fuel : Nat) (m : Mac) (hc : (chkP code).2 = 0) (hcl : code.length ≤ 256) (hm : okM code.length m) (hb : m.bad = false) (hf : fuel ≤ 1000000) :
    Holds Tryz.prog 74 [.ptr (.arg 0) 0, .game code cap fuel] [(.arg 0, mB (.arg 0) m)] (fun r h' => r = .int .i64 (runM code fuel m).1 ∧ h' = [(.arg 0, mB (.arg 0) (runM code fuel m).2)]) := by
  refine holds_of_awp Tryz.func74 rfl (by decide +kernel) mixed Tryz.ntmps74 Tryz.results74 ?_
  refine zE ?_
  refine zs ?_;try exact trivial
  refine a_call [] (doers_h) ok0 ?_ ?_ ?_
  · refine zs ?_;try exact trivial
  · refine zs ?_;try exact trivial
  rintro _ _ ⟨rfl, rfl⟩
  refine zs ?_;try exact trivial
  obtain ⟨E, M, hR⟩ : ∃ E M, runM code fuel m = (E, M) := ⟨_, _, rfl⟩
  rw [hR]
  refine a_loopk (fun x : Nat × Mac => ⟨[V.cell (.ptr (.arg 0) 0), .undef, .undef, V.cell (.ptr (.loc [3]) 0), .undef, V.cell (.ptr (.loc [5]) 0), V.int .i64 (x.1 : Int), U, U, U, U, U, U, U, U, U, U, U, U, U, U, U, U, U, U, U, U, U, U, U, U, U, U, U, U, U, U, U, U, U, U, U, U, U, U, U, U, U, U, U, U, U, U, U, U, U, .undef], (.loc [5], doeI) :: (.loc [3], [.lst .no none 2 (ins code), .val (.int .i64 cap), .val (.int .i64 fuel)]) :: (.arg 0, mB (.arg 0) x.2) :: doeHI⟩) (fun x => x.1 ≤ 1000000 ∧ okM code.length x.2 ∧ x.2.bad = false ∧ runM code x.1 x.2 = (E, M)) (fun x => x.1) (fuel, m) ⟨hf, hm, hb, hR⟩ ?_ ?_
  · try (refine zs ?_; try exact trivial)
  rintro ⟨f, m⟩ ⟨h1, h2, h3, h4⟩
  simp only at h1 h2 h3 h4 ⊢
  have p0 := h2.pc0
  have p1 := h2.pc1
  refine zs ?_;try exact trivial
  refine a_quiet (by kernel_rfl) (by kernel_rfl) (by kernel_rfl) ?_
  have stop : (¬ m.pc < code.length ∨ m.en = true) → runM code f m = (0, m) := by
    intro hs
    have hn : ¬ (m.pc < code.length ∧ m.en = false) := by rintro ⟨a, b⟩; rcases hs with h | h; exact h a; rw [b] at h; cases h
    cases f with
    | zero => exact if_neg hn
    | succ f => exact if_neg hn
  cases d1 : decide (m.pc < (code.length : Int))
  · rw [stop (.inl (of_decide_eq_false d1))] at h4
    cases h4
    simp (maxSteps:=2000000) (disch:=omega) only [go_sem,Nat.reduceAdd,Nat.reduceSub,Nat.reduceMul,Nat.reduceBEq,Nat.reduceEqDiff,Nat.reduceLT,Nat.reduceLeDiff,Nat.reduceDiv,reduceIte,reduceCtorEq, d1]
    all_goals exact leCs_refl _
  cases d2 : (!m.en)
  · rw [stop (.inr (by cases hh : m.en <;> simp_all))] at h4
    cases h4
    simp (maxSteps:=2000000) (disch:=omega) only [go_sem,Nat.reduceAdd,Nat.reduceSub,Nat.reduceMul,Nat.reduceBEq,Nat.reduceEqDiff,Nat.reduceLT,Nat.reduceLeDiff,Nat.reduceDiv,reduceIte,reduceCtorEq, d1, d2]
    all_goals exact leCs_refl _
  have hen : m.en = false := by cases hh : m.en <;> simp_all
  have hlt := of_decide_eq_true d1
  simp (maxSteps:=2000000) (disch:=omega) only [go_sem,Nat.reduceAdd,Nat.reduceSub,Nat.reduceMul,Nat.reduceBEq,Nat.reduceEqDiff,Nat.reduceLT,Nat.reduceLeDiff,Nat.reduceDiv,reduceIte,reduceCtorEq, d1, d2]
  refine c_dec (fun g => ?_) (fun g => ?_)
  · have hf0 : f = 0 := by omega
    subst hf0
    have h5 : (10, m) = (E, M) := by rw [← h4]; exact (if_pos ⟨hlt, hen⟩).symm
    cases h5
    refine zs ?_;try exact trivial
    all_goals exact leCs_refl _
  obtain ⟨f, rfl⟩ : ∃ f', f = f' + 1 := ⟨f - 1, by omega⟩
  have hpc : m.pc.toNat < code.length := by omega
  have hmay := chk_all hc hpc
  unfold runM at h4
  rw [if_pos ⟨hlt, hen⟩] at h4
  obtain ⟨op, arg⟩ : Int × Int := (0, 0)
  generalize hx : gi code m.pc.toNat = x at h4 hmay
  clear op arg
  obtain ⟨op, arg⟩ := x
  simp only at h4 hmay
  obtain ⟨ho, ha1, ha2, ha16, ha18, ha20⟩ := mayP_arg hmay
  have hlen : (incM m).sk.length ≤ 1000 := by have := h2.len; show m.sk.length ≤ 1000; omega
  have okI : okL (incM m) := ⟨h2.sk, h2.cells, h2.fr0, h2.fr1⟩
  have bA : B32 (popV (incM m)) := popV_B okI.sk
  have bB : B32 (popV (popM (incM m))) := popV_B okI.pop.sk
  refine zs ?_;try exact trivial
  refine a_drawC (⟨[V.cell (.ptr (.arg 0) 0), .undef, .undef, V.cell (.ptr (.loc [3]) 0), .undef, V.cell (.ptr (.loc [5]) 0), V.int .i64 ((f + 1 : Nat) : Int), V.cell (.ptr (.loc [7]) 0), U, U, U, U, U, U, U, U, U, U, U, U, U, U, U, U, U, U, U, U, U, U, U, U, U, U, U, U, U, U, U, U, U, U, U, U, U, U, U, U, U, U, U, U, U, U, U, U, .undef], (.loc [7], [.val (.int .i64 op), .val (.int .i64 arg)]) :: (.loc [5], doeI) :: (.loc [3], [.lst .no none 2 (ins code), .val (.int .i64 cap), .val (.int .i64 fuel)]) :: (.arg 0, mB (.arg 0) (m)) :: doeHI⟩) (.take 0 (.take 2 (.take 3 (.take 4 (.both [(1, .both [(5, .take 6 (.both [(7, .both [(8, .both [(9, .done)])]), (8, .both [(7, .both [(9, .done)])])])), (8, .both [(5, .take 6 (.both [(7, .both [(9, .done)])]))])]), (5, .both [(1, .take 6 (.both [(7, .both [(8, .both [(9, .done)])]), (8, .both [(7, .both [(9, .done)])])])), (8, .both [(1, .take 6 (.both [(7, .both [(9, .done)])]))])]), (8, .both [(1, .both [(5, .take 6 (.both [(7, .both [(9, .done)])]))]), (5, .both [(1, .take 6 (.both [(7, .both [(9, .done)])]))])])]))))) (by kernel_rfl) (by kernel_rfl) ?_ ?_
  · refine zc ?_;try exact trivial
    all_goals simp [hx]
  refine zc ?_;try exact trivial
  refine a_drawC (⟨[V.cell (.ptr (.arg 0) 0), .undef, .undef, V.cell (.ptr (.loc [3]) 0), .undef, V.cell (.ptr (.loc [5]) 0), V.int .i64 ((f + 1 : Nat) : Int), V.cell (.ptr (.loc [7]) 0), U, U, U, U, U, U, U, U, U, U, U, U, U, U, U, U, U, U, U, U, U, U, U, U, U, U, U, U, U, U, U, U, U, U, U, U, U, U, U, U, U, U, U, U, U, U, U, U, .undef], (.loc [7], [.val (.int .i64 op), .val (.int .i64 arg)]) :: (.loc [5], doeI) :: (.loc [3], [.lst .no none 2 (ins code), .val (.int .i64 cap), .val (.int .i64 fuel)]) :: (.arg 0, mB (.arg 0) (doM op arg (incM m))) :: doeHI⟩) (.take 0 (.take 4 (.take 5 (.both [(1, .take 2 (.both [(3, .both [(6, .both [(7, .done)])]), (6, .both [(3, .both [(7, .done)])])])), (6, .both [(1, .take 2 (.both [(3, .both [(7, .done)])]))])])))) (by kernel_rfl) (by kernel_rfl) ?_ ?_
  · refine zc ?_;try exact trivial
    have hcase : (∃ k : Nat, doeF (.loc [8, 0, 1, 0, 1]) (.loc [8, 0, 2, 0, 1]) (.loc [8, 0, 3, 0, 1]) (.loc [8, 0, 4, 0, 1]) (.loc [8, 0, 5, 0, 1]) (.loc [8, 0, 6, 0, 1]) (.loc [8, 0, 7, 0, 1]) (.loc [8, 0, 8, 0, 1]) op.toNat = .fn (.func k) [] [] ∧ Holds Tryz.prog k [.ptr (.arg 0) 0, .int .i64 arg] [(.arg 0, mB (.arg 0) (incM m))] (fun r h' => r = .tup [] ∧ h' = [(.arg 0, mB (.arg 0) (doM op arg (incM m)))])) ∨ (op = 4 ∨ op = 5 ∨ op = 6 ∨ op = 7 ∨ op = 8 ∨ op = 9 ∨ op = 10 ∨ op = 11) := by
      rcases op_cases ho with rfl | rfl | rfl | rfl | rfl | rfl | rfl | rfl | rfl | rfl | rfl | rfl | rfl | rfl | rfl | rfl | rfl | rfl | rfl | rfl | rfl | rfl
      · exact .inl ⟨86, rfl, number_h10 (incM m) hlen arg (ha1 rfl)⟩
      · exact .inl ⟨87, rfl, load_h10 (incM m) hlen arg (ha2 (.inl rfl)).1 (ha2 (.inl rfl)).2⟩
      · exact .inl ⟨88, rfl, store_h10 (incM m) hlen arg (ha2 (.inr rfl)).1 (ha2 (.inr rfl)).2⟩
      · exact .inr (by omega)
      · exact .inr (by omega)
      · exact .inr (by omega)
      · exact .inr (by omega)
      · exact .inr (by omega)
      · exact .inr (by omega)
      · exact .inr (by omega)
      · exact .inr (by omega)
      · exact .inl ⟨98, rfl, not_h10 (incM m) hlen arg⟩
      · exact .inl ⟨99, rfl, dup_h10 (incM m) hlen arg⟩
      · exact .inl ⟨100, rfl, swap_h10 (incM m) hlen arg⟩
      · exact .inl ⟨101, rfl, drop_h10 (incM m) hlen arg⟩
      · exact .inl ⟨102, rfl, input_h10 (incM m) hlen arg (ha16 rfl)⟩
      · exact .inl ⟨103, rfl, frame_h10 (incM m) hlen arg h2.fr0 h2.fr1⟩
      · exact .inl ⟨104, rfl, jump_h10 (incM m) arg⟩
      · exact .inl ⟨105, rfl, zero_h10 (incM m) hlen arg⟩
      · exact .inl ⟨106, rfl, win_h10 (incM m) arg⟩
      · exact .inl ⟨107, rfl, rand_h10 (incM m) hlen arg⟩
      exact .inl ⟨108, rfl, halt_h10 (incM m) arg⟩
    rcases hcase with ⟨k, hd, ck⟩ | hcase
    · clear stop h4 hx hmay ho ha1 ha2 ha16 ha18 ha20 hlt hpc hen d1 d2 g p0 p1 h3 hR hm hb hf hc hcl h2 h1 hlen okI bA bB
      rw [hd]
      refine zc ?_;try exact trivial
      refine a_call [.arg 0] (ck) (ok1 rfl) ?_ ?_ ?_
      · refine zs ?_;try exact trivial
      · refine zs ?_;try exact trivial
      rintro _ _ ⟨rfl, rfl⟩
      try (refine zs ?_; try exact trivial)
      all_goals exact leCs_refl _
    clear hmay ha1 ha2 ha16 ha18 ha20 ho stop h4 hx hlt hpc hen d1 d2 g p0 p1 h3 hR hm hb hf hc hcl h2 h1
    rcases hcase with rfl | rfl | rfl | rfl | rfl | rfl | rfl | rfl
    · have hd : doeF (.loc [8, 0, 1, 0, 1]) (.loc [8, 0, 2, 0, 1]) (.loc [8, 0, 3, 0, 1]) (.loc [8, 0, 4, 0, 1]) (.loc [8, 0, 5, 0, 1]) (.loc [8, 0, 6, 0, 1]) (.loc [8, 0, 7, 0, 1]) (.loc [8, 0, 8, 0, 1]) (4 : Int).toNat = .fn (.func 112) [] [(.loc [8, 0, 1, 0, 1], 0)] := rfl
      have c4 := two1_h10 (incM m) hlen 90 f4 (add_h _ _ bB bA) arg
      clear hlen okI bA bB
      rw [hd]
      refine zc ?_;try exact trivial
      refine a_call [.arg 0, .loc [8, 0, 1, 0, 1]] (c4) (ok2 (by decide) rfl rfl) ?_ ?_ ?_
      · refine zs ?_;try exact trivial
      · refine zs ?_;try exact trivial
      rintro _ _ ⟨rfl, rfl⟩
      try (refine zs ?_; try exact trivial)
      all_goals exact leCs_refl _
    · have hd : doeF (.loc [8, 0, 1, 0, 1]) (.loc [8, 0, 2, 0, 1]) (.loc [8, 0, 3, 0, 1]) (.loc [8, 0, 4, 0, 1]) (.loc [8, 0, 5, 0, 1]) (.loc [8, 0, 6, 0, 1]) (.loc [8, 0, 7, 0, 1]) (.loc [8, 0, 8, 0, 1]) (5 : Int).toNat = .fn (.func 112) [] [(.loc [8, 0, 2, 0, 1], 0)] := rfl
      have c5 := two1_h10 (incM m) hlen 91 f5 (sub_h _ _ bB bA) arg
      clear hlen okI bA bB
      rw [hd]
      refine zc ?_;try exact trivial
      refine a_call [.arg 0, .loc [8, 0, 2, 0, 1]] (c5) (ok2 (by decide) rfl rfl) ?_ ?_ ?_
      · refine zs ?_;try exact trivial
      · refine zs ?_;try exact trivial
      rintro _ _ ⟨rfl, rfl⟩
      try (refine zs ?_; try exact trivial)
      all_goals exact leCs_refl _
    · have hd : doeF (.loc [8, 0, 1, 0, 1]) (.loc [8, 0, 2, 0, 1]) (.loc [8, 0, 3, 0, 1]) (.loc [8, 0, 4, 0, 1]) (.loc [8, 0, 5, 0, 1]) (.loc [8, 0, 6, 0, 1]) (.loc [8, 0, 7, 0, 1]) (.loc [8, 0, 8, 0, 1]) (6 : Int).toNat = .fn (.func 112) [] [(.loc [8, 0, 3, 0, 1], 0)] := rfl
      have c6 := two1_h10 (incM m) hlen 92 f6 (mul_h _ _ bB bA) arg
      clear hlen okI bA bB
      rw [hd]
      refine zc ?_;try exact trivial
      refine a_call [.arg 0, .loc [8, 0, 3, 0, 1]] (c6) (ok2 (by decide) rfl rfl) ?_ ?_ ?_
      · refine zs ?_;try exact trivial
      · refine zs ?_;try exact trivial
      rintro _ _ ⟨rfl, rfl⟩
      try (refine zs ?_; try exact trivial)
      all_goals exact leCs_refl _
    · have hd : doeF (.loc [8, 0, 1, 0, 1]) (.loc [8, 0, 2, 0, 1]) (.loc [8, 0, 3, 0, 1]) (.loc [8, 0, 4, 0, 1]) (.loc [8, 0, 5, 0, 1]) (.loc [8, 0, 6, 0, 1]) (.loc [8, 0, 7, 0, 1]) (.loc [8, 0, 8, 0, 1]) (7 : Int).toNat = .fn (.func 112) [] [(.loc [8, 0, 4, 0, 1], 0)] := rfl
      have c7 := two1_h10 (incM m) hlen 93 f7 (div_h _ _ bB bA) arg
      clear hlen okI bA bB
      rw [hd]
      refine zc ?_;try exact trivial
      refine a_call [.arg 0, .loc [8, 0, 4, 0, 1]] (c7) (ok2 (by decide) rfl rfl) ?_ ?_ ?_
      · refine zs ?_;try exact trivial
      · refine zs ?_;try exact trivial
      rintro _ _ ⟨rfl, rfl⟩
      try (refine zs ?_; try exact trivial)
      all_goals exact leCs_refl _
    · have hd : doeF (.loc [8, 0, 1, 0, 1]) (.loc [8, 0, 2, 0, 1]) (.loc [8, 0, 3, 0, 1]) (.loc [8, 0, 4, 0, 1]) (.loc [8, 0, 5, 0, 1]) (.loc [8, 0, 6, 0, 1]) (.loc [8, 0, 7, 0, 1]) (.loc [8, 0, 8, 0, 1]) (8 : Int).toNat = .fn (.func 112) [] [(.loc [8, 0, 5, 0, 1], 0)] := rfl
      have c8 := two1_h10 (incM m) hlen 94 f8 (least_h _ _) arg
      clear hlen okI bA bB
      rw [hd]
      refine zc ?_;try exact trivial
      refine a_call [.arg 0, .loc [8, 0, 5, 0, 1]] (c8) (ok2 (by decide) rfl rfl) ?_ ?_ ?_
      · refine zs ?_;try exact trivial
      · refine zs ?_;try exact trivial
      rintro _ _ ⟨rfl, rfl⟩
      try (refine zs ?_; try exact trivial)
      all_goals exact leCs_refl _
    · have hd : doeF (.loc [8, 0, 1, 0, 1]) (.loc [8, 0, 2, 0, 1]) (.loc [8, 0, 3, 0, 1]) (.loc [8, 0, 4, 0, 1]) (.loc [8, 0, 5, 0, 1]) (.loc [8, 0, 6, 0, 1]) (.loc [8, 0, 7, 0, 1]) (.loc [8, 0, 8, 0, 1]) (9 : Int).toNat = .fn (.func 112) [] [(.loc [8, 0, 6, 0, 1], 0)] := rfl
      have c9 := two1_h10 (incM m) hlen 95 f9 (greatest_h _ _) arg
      clear hlen okI bA bB
      rw [hd]
      refine zc ?_;try exact trivial
      refine a_call [.arg 0, .loc [8, 0, 6, 0, 1]] (c9) (ok2 (by decide) rfl rfl) ?_ ?_ ?_
      · refine zs ?_;try exact trivial
      · refine zs ?_;try exact trivial
      rintro _ _ ⟨rfl, rfl⟩
      try (refine zs ?_; try exact trivial)
      all_goals exact leCs_refl _
    · have hd : doeF (.loc [8, 0, 1, 0, 1]) (.loc [8, 0, 2, 0, 1]) (.loc [8, 0, 3, 0, 1]) (.loc [8, 0, 4, 0, 1]) (.loc [8, 0, 5, 0, 1]) (.loc [8, 0, 6, 0, 1]) (.loc [8, 0, 7, 0, 1]) (.loc [8, 0, 8, 0, 1]) (10 : Int).toNat = .fn (.func 112) [] [(.loc [8, 0, 7, 0, 1], 0)] := rfl
      have c10 := two1_h10 (incM m) hlen 96 f10 (less_h _ _) arg
      clear hlen okI bA bB
      rw [hd]
      refine zc ?_;try exact trivial
      refine a_call [.arg 0, .loc [8, 0, 7, 0, 1]] (c10) (ok2 (by decide) rfl rfl) ?_ ?_ ?_
      · refine zs ?_;try exact trivial
      · refine zs ?_;try exact trivial
      rintro _ _ ⟨rfl, rfl⟩
      try (refine zs ?_; try exact trivial)
      all_goals exact leCs_refl _
    have hd : doeF (.loc [8, 0, 1, 0, 1]) (.loc [8, 0, 2, 0, 1]) (.loc [8, 0, 3, 0, 1]) (.loc [8, 0, 4, 0, 1]) (.loc [8, 0, 5, 0, 1]) (.loc [8, 0, 6, 0, 1]) (.loc [8, 0, 7, 0, 1]) (.loc [8, 0, 8, 0, 1]) (11 : Int).toNat = .fn (.func 112) [] [(.loc [8, 0, 8, 0, 1], 0)] := rfl
    have c11 := two1_h10 (incM m) hlen 97 f11 (same10_h _ _) arg
    clear hlen okI bA bB
    rw [hd]
    refine zc ?_;try exact trivial
    refine a_call [.arg 0, .loc [8, 0, 8, 0, 1]] (c11) (ok2 (by decide) rfl rfl) ?_ ?_ ?_
    · refine zs ?_;try exact trivial
    · refine zs ?_;try exact trivial
    rintro _ _ ⟨rfl, rfl⟩
    try (refine zs ?_; try exact trivial)
    all_goals exact leCs_refl _
  refine zc ?_;try exact trivial
  cases d3 : (doM op arg (incM m)).bad
  · rw [if_neg (by rw [d3]; simp)] at h4
    simp (maxSteps:=2000000) (disch:=omega) only [go_sem,Nat.reduceAdd,Nat.reduceSub,Nat.reduceMul,Nat.reduceBEq,Nat.reduceEqDiff,Nat.reduceLT,Nat.reduceLeDiff,Nat.reduceDiv,reduceIte,reduceCtorEq, d3]
    refine ⟨(f, doM op arg (incM m)), by simp, ⟨by simp; omega, ?_, d3, h4⟩, ?_⟩
    · have hpcs := doM_pc (n := code.length) (m := incM m) (by show 0 ≤ m.pc + 1; omega) (by show m.pc + 1 ≤ _; omega) h2.len hmay d3
      have hlow := doM_low okI hmay
      exact ⟨hpcs.1, hpcs.2.1, hpcs.2.2, hlow.sk, hlow.cells, hlow.fr0, hlow.fr1⟩
    try (refine zs ?_; try exact trivial)
    all_goals first | exact leCs_refl _ | (congr 1; omega)
  rw [if_pos d3] at h4
  cases h4
  simp (maxSteps:=2000000) (disch:=omega) only [go_sem,Nat.reduceAdd,Nat.reduceSub,Nat.reduceMul,Nat.reduceBEq,Nat.reduceEqDiff,Nat.reduceLT,Nat.reduceLeDiff,Nat.reduceDiv,reduceIte,reduceCtorEq, d3]
  all_goals exact leCs_refl _
end
section
set_option maxRecDepth 20000
def rmC (s : Sta) (i0 : UInt16) (i1 : UInt16) (sk : C) (atP : Int) (won : Int) (bad : Bool) : List C := ((sd s).map D.toC ++ [.val (.int .u16 (U16 i0)), .val (.int .u16 (U16 i1)), sk, .val (.int .i64 atP), .val (.int .i64 won), .val (.bool bad)])
section
variable {s : Sta} {i0 : UInt16} {i1 : UInt16} {sk : C} {atP : Int} {won : Int} {bad : Bool} {V' : V → Prop} {K : C → Prop} {ks : List Id} {m : Nat}
@[go_sem] theorem rm_l : (rmC s i0 i1 sk atP won bad).length = 26 := by
  unfold rmC
  simp only [List.length_append, List.length_map, sd_len, List.length_cons, List.length_nil]
@[go_sem] theorem rm_k {bi : Id → Bool} {bt : Tag → Bool} : (rmC s i0 i1 sk atP won bad).map (C.clean bi bt) = (rmC s i0 i1 (C.clean bi bt sk) atP won bad) := by
  unfold rmC
  simp only [List.map_append, List.map_cons, List.map_nil, go_sem]
@[go_sem] theorem rm_r  : (rmC s i0 i1 sk atP won bad).map (C.ren ks m) = (rmC s i0 i1 (C.ren ks m sk) atP won bad) := by
  unfold rmC
  simp only [List.map_append, List.map_cons, List.map_nil, go_sem]
@[go_sem] theorem rm_t {ta tb : Tag} : (rmC s i0 i1 sk atP won bad).map (C.retag ta tb) = (rmC s i0 i1 (C.retag ta tb sk) atP won bad) := by
  unfold rmC
  simp only [List.map_append, List.map_cons, List.map_nil, go_sem]
@[go_sem] theorem rm_n : (rmC s i0 i1 sk atP won bad).all known = (known sk) := by
  unfold rmC
  simp only [List.all_append, List.all_cons, List.all_nil, go_sem, Bool.true_and, Bool.and_true, Bool.and_assoc]
theorem rm_gs_frame : (rmC s i0 i1 sk atP won bad)[0]? = some (.val (.int .i64 s.frame)) := by
  unfold rmC
  first | exact get_frame | (rw [List.getElem?_append_left (by rw [sdC_len]; omega)]; exact get_frame)
@[go_sem ↓ 1300] theorem rm_ms_frame : (∃ c, (rmC s i0 i1 sk atP won bad)[0]? = some c ∧ K c) = K (.val (.int .i64 s.frame)) := ex_some rm_gs_frame
theorem rm_gs_seed : (rmC s i0 i1 sk atP won bad)[17]? = some (.val (.int .u32 (U32 s.seed))) := by
  unfold rmC
  first | exact get_seed | (rw [List.getElem?_append_left (by rw [sdC_len]; omega)]; exact get_seed)
@[go_sem ↓ 1300] theorem rm_ms_seed : (∃ c, (rmC s i0 i1 sk atP won bad)[17]? = some c ∧ K c) = K (.val (.int .u32 (U32 s.seed))) := ex_some rm_gs_seed
theorem rm_gs_over : (rmC s i0 i1 sk atP won bad)[18]? = some (.val (.bool s.over)) := by
  unfold rmC
  first | exact get_over | (rw [List.getElem?_append_left (by rw [sdC_len]; omega)]; exact get_over)
@[go_sem ↓ 1300] theorem rm_ms_over : (∃ c, (rmC s i0 i1 sk atP won bad)[18]? = some c ∧ K c) = K (.val (.bool s.over)) := ex_some rm_gs_over
theorem rm_gs_win : (rmC s i0 i1 sk atP won bad)[19]? = some (.val (.int .i64 s.win)) := by
  unfold rmC
  first | exact get_win | (rw [List.getElem?_append_left (by rw [sdC_len]; omega)]; exact get_win)
@[go_sem ↓ 1300] theorem rm_ms_win : (∃ c, (rmC s i0 i1 sk atP won bad)[19]? = some c ∧ K c) = K (.val (.int .i64 s.win)) := ex_some rm_gs_win
@[go_sem 1300] theorem rm_as : ((rmC s i0 i1 sk atP won bad).drop 0).take 20 = (sd s).map D.toC := by
  unfold rmC
  show List.take 20 ((sd s).map D.toC ++ _) = _
  rw [List.take_left' sdC_len]
@[go_sem ↓ 1300] theorem rm_ps : aPt (some true) 20 (rmC s i0 i1 sk atP won bad) 0 V' = V' (.w (.agg ((sd s).map D.toC))) := by
  simp only [aPt, rm_l, rm_as, Nat.reduceAdd, Nat.reduceLeDiff, true_and]
@[go_sem ↓ 1300] theorem rm_m_i0 : (∃ c, (rmC s i0 i1 sk atP won bad)[20]? = some c ∧ K c) = K (.val (.int .u16 (U16 i0))) := ex_some (by
  unfold rmC
  rw [List.getElem?_append_right (by first | simp only [List.length_cons, List.length_nil, List.length_map, sd_len]; omega | simp [sd_len])]
  simp only [List.length_cons, List.length_nil, List.length_map, sd_len, Nat.reduceAdd, Nat.reduceSub]
  first | rfl | (rw [List.getElem?_append_left (by simp)]; rfl))
@[go_sem ↓ 1300] theorem rm_m_i1 : (∃ c, (rmC s i0 i1 sk atP won bad)[21]? = some c ∧ K c) = K (.val (.int .u16 (U16 i1))) := ex_some (by
  unfold rmC
  rw [List.getElem?_append_right (by first | simp only [List.length_cons, List.length_nil, List.length_map, sd_len]; omega | simp [sd_len])]
  simp only [List.length_cons, List.length_nil, List.length_map, sd_len, Nat.reduceAdd, Nat.reduceSub]
  first | rfl | (rw [List.getElem?_append_left (by simp)]; rfl))
@[go_sem ↓ 1300] theorem rm_m_sk : (∃ c, (rmC s i0 i1 sk atP won bad)[22]? = some c ∧ K c) = K (sk) := ex_some (by
  unfold rmC
  rw [List.getElem?_append_right (by first | simp only [List.length_cons, List.length_nil, List.length_map, sd_len]; omega | simp [sd_len])]
  simp only [List.length_cons, List.length_nil, List.length_map, sd_len, Nat.reduceAdd, Nat.reduceSub]
  first | rfl | (rw [List.getElem?_append_left (by simp)]; rfl))
@[go_sem ↓ 1300] theorem rm_m_atP : (∃ c, (rmC s i0 i1 sk atP won bad)[23]? = some c ∧ K c) = K (.val (.int .i64 atP)) := ex_some (by
  unfold rmC
  rw [List.getElem?_append_right (by first | simp only [List.length_cons, List.length_nil, List.length_map, sd_len]; omega | simp [sd_len])]
  simp only [List.length_cons, List.length_nil, List.length_map, sd_len, Nat.reduceAdd, Nat.reduceSub]
  first | rfl | (rw [List.getElem?_append_left (by simp)]; rfl))
@[go_sem ↓ 1300] theorem rm_m_won : (∃ c, (rmC s i0 i1 sk atP won bad)[24]? = some c ∧ K c) = K (.val (.int .i64 won)) := ex_some (by
  unfold rmC
  rw [List.getElem?_append_right (by first | simp only [List.length_cons, List.length_nil, List.length_map, sd_len]; omega | simp [sd_len])]
  simp only [List.length_cons, List.length_nil, List.length_map, sd_len, Nat.reduceAdd, Nat.reduceSub]
  first | rfl | (rw [List.getElem?_append_left (by simp)]; rfl))
@[go_sem ↓ 1300] theorem rm_m_bad : (∃ c, (rmC s i0 i1 sk atP won bad)[25]? = some c ∧ K c) = K (.val (.bool bad)) := ex_some (by
  unfold rmC
  rw [List.getElem?_append_right (by first | simp only [List.length_cons, List.length_nil, List.length_map, sd_len]; omega | simp [sd_len])]
  simp only [List.length_cons, List.length_nil, List.length_map, sd_len, Nat.reduceAdd, Nat.reduceSub]
  first | rfl | (rw [List.getElem?_append_left (by simp)]; rfl))
@[go_sem 1300] theorem rm_d20_2 : ((rmC s i0 i1 sk atP won bad).drop 20).take 2 = [.val (.int .u16 (U16 i0)), .val (.int .u16 (U16 i1))] := by
    first
      | rfl
      | (unfold rmC
         rw [show (20 : Nat) = ((sd s).map D.toC).length + 0 from by rw [sdC_len], List.drop_append, List.drop_eq_nil_of_le (by omega), Nat.add_sub_cancel_left]
         rfl)
@[go_sem ↓ 1300] theorem rm_p20_2 : aPt (some true) 2 (rmC s i0 i1 sk atP won bad) 20 V' = V' (.w (.agg [.val (.int .u16 (U16 i0)), .val (.int .u16 (U16 i1))])) := by
  simp only [aPt, rm_l, rm_d20_2, Nat.reduceAdd, Nat.reduceLeDiff, true_and]
@[go_sem 1300] theorem rm_ss_frame {x : Int} : spl (rmC s i0 i1 sk atP won bad) 0 [.val (.int .i64 x)] = (rmC (s.wFrame x) i0 i1 sk atP won bad) := by
  unfold rmC
  rw [spl_appL (by simp only [List.length_cons, List.length_nil, sdC_len]; omega), spl_frame]
@[go_sem 1300] theorem rm_us_frame {x : Int} : (rmC s i0 i1 sk atP won bad).set 0 (.val (.int .i64 x)) = (rmC (s.wFrame x) i0 i1 sk atP won bad) := show spl (rmC s i0 i1 sk atP won bad) 0 [.val (.int .i64 x)] = _ from rm_ss_frame
@[go_sem 1300] theorem rm_ss_seed {x : UInt32} : spl (rmC s i0 i1 sk atP won bad) 17 [.val (.int .u32 (U32 x))] = (rmC (s.wSeed x) i0 i1 sk atP won bad) := by
  unfold rmC
  rw [spl_appL (by simp only [List.length_cons, List.length_nil, sdC_len]; omega), spl_seed]
@[go_sem 1300] theorem rm_us_seed {x : UInt32} : (rmC s i0 i1 sk atP won bad).set 17 (.val (.int .u32 (U32 x))) = (rmC (s.wSeed x) i0 i1 sk atP won bad) := show spl (rmC s i0 i1 sk atP won bad) 17 [.val (.int .u32 (U32 x))] = _ from rm_ss_seed
@[go_sem 1300] theorem rm_ss_over {x : Bool} : spl (rmC s i0 i1 sk atP won bad) 18 [.val (.bool x)] = (rmC (s.wOver x) i0 i1 sk atP won bad) := by
  unfold rmC
  rw [spl_appL (by simp only [List.length_cons, List.length_nil, sdC_len]; omega), spl_over]
@[go_sem 1300] theorem rm_us_over {x : Bool} : (rmC s i0 i1 sk atP won bad).set 18 (.val (.bool x)) = (rmC (s.wOver x) i0 i1 sk atP won bad) := show spl (rmC s i0 i1 sk atP won bad) 18 [.val (.bool x)] = _ from rm_ss_over
@[go_sem 1300] theorem rm_ss_win {x : Int} : spl (rmC s i0 i1 sk atP won bad) 19 [.val (.int .i64 x)] = (rmC (s.wWin x) i0 i1 sk atP won bad) := by
  unfold rmC
  rw [spl_appL (by simp only [List.length_cons, List.length_nil, sdC_len]; omega), spl_win]
@[go_sem 1300] theorem rm_us_win {x : Int} : (rmC s i0 i1 sk atP won bad).set 19 (.val (.int .i64 x)) = (rmC (s.wWin x) i0 i1 sk atP won bad) := show spl (rmC s i0 i1 sk atP won bad) 19 [.val (.int .i64 x)] = _ from rm_ss_win
@[go_sem 1300] theorem rm_ss {x : Sta} : spl (rmC s i0 i1 sk atP won bad) 0 ((sd x).map D.toC) = (rmC (x) i0 i1 sk atP won bad) := by
  unfold rmC
  rw [spl_appL (by simp only [sdC_len]; omega), spl_all (by simp only [sdC_len])]
@[go_sem 1300] theorem rm_s_i0 {x : UInt16} : spl (rmC s i0 i1 sk atP won bad) 20 [.val (.int .u16 (U16 x))] = (rmC s (x) i1 sk atP won bad) := by
  unfold rmC
  rw [show (20 : Nat) = ((sd s).map D.toC).length + 0 from by first | rfl | rw [sdC_len], spl_appR (by simp only [List.length_append, List.length_cons, List.length_nil, sdC_len]; omega)]
  rfl
@[go_sem 1300] theorem rm_u_i0 {x : UInt16} : (rmC s i0 i1 sk atP won bad).set 20 (.val (.int .u16 (U16 x))) = (rmC s (x) i1 sk atP won bad) := show spl (rmC s i0 i1 sk atP won bad) 20 [.val (.int .u16 (U16 x))] = _ from rm_s_i0
@[go_sem 1300] theorem rm_s_i1 {x : UInt16} : spl (rmC s i0 i1 sk atP won bad) 21 [.val (.int .u16 (U16 x))] = (rmC s i0 (x) sk atP won bad) := by
  unfold rmC
  rw [show (21 : Nat) = ((sd s).map D.toC).length + 1 from by first | rfl | rw [sdC_len], spl_appR (by simp only [List.length_append, List.length_cons, List.length_nil, sdC_len]; omega)]
  rfl
@[go_sem 1300] theorem rm_u_i1 {x : UInt16} : (rmC s i0 i1 sk atP won bad).set 21 (.val (.int .u16 (U16 x))) = (rmC s i0 (x) sk atP won bad) := show spl (rmC s i0 i1 sk atP won bad) 21 [.val (.int .u16 (U16 x))] = _ from rm_s_i1
@[go_sem 1300] theorem rm_s_sk {x : C} : spl (rmC s i0 i1 sk atP won bad) 22 [x] = (rmC s i0 i1 (x) atP won bad) := by
  unfold rmC
  rw [show (22 : Nat) = ((sd s).map D.toC).length + 2 from by first | rfl | rw [sdC_len], spl_appR (by simp only [List.length_append, List.length_cons, List.length_nil, sdC_len]; omega)]
  rfl
@[go_sem 1300] theorem rm_u_sk {x : C} : (rmC s i0 i1 sk atP won bad).set 22 (x) = (rmC s i0 i1 (x) atP won bad) := show spl (rmC s i0 i1 sk atP won bad) 22 [x] = _ from rm_s_sk
@[go_sem 1300] theorem rm_s_atP {x : Int} : spl (rmC s i0 i1 sk atP won bad) 23 [.val (.int .i64 x)] = (rmC s i0 i1 sk (x) won bad) := by
  unfold rmC
  rw [show (23 : Nat) = ((sd s).map D.toC).length + 3 from by first | rfl | rw [sdC_len], spl_appR (by simp only [List.length_append, List.length_cons, List.length_nil, sdC_len]; omega)]
  rfl
@[go_sem 1300] theorem rm_u_atP {x : Int} : (rmC s i0 i1 sk atP won bad).set 23 (.val (.int .i64 x)) = (rmC s i0 i1 sk (x) won bad) := show spl (rmC s i0 i1 sk atP won bad) 23 [.val (.int .i64 x)] = _ from rm_s_atP
@[go_sem 1300] theorem rm_s_won {x : Int} : spl (rmC s i0 i1 sk atP won bad) 24 [.val (.int .i64 x)] = (rmC s i0 i1 sk atP (x) bad) := by
  unfold rmC
  rw [show (24 : Nat) = ((sd s).map D.toC).length + 4 from by first | rfl | rw [sdC_len], spl_appR (by simp only [List.length_append, List.length_cons, List.length_nil, sdC_len]; omega)]
  rfl
@[go_sem 1300] theorem rm_u_won {x : Int} : (rmC s i0 i1 sk atP won bad).set 24 (.val (.int .i64 x)) = (rmC s i0 i1 sk atP (x) bad) := show spl (rmC s i0 i1 sk atP won bad) 24 [.val (.int .i64 x)] = _ from rm_s_won
@[go_sem 1300] theorem rm_s_bad {x : Bool} : spl (rmC s i0 i1 sk atP won bad) 25 [.val (.bool x)] = (rmC s i0 i1 sk atP won (x)) := by
  unfold rmC
  rw [show (25 : Nat) = ((sd s).map D.toC).length + 5 from by first | rfl | rw [sdC_len], spl_appR (by simp only [List.length_append, List.length_cons, List.length_nil, sdC_len]; omega)]
  rfl
@[go_sem 1300] theorem rm_u_bad {x : Bool} : (rmC s i0 i1 sk atP won bad).set 25 (.val (.bool x)) = (rmC s i0 i1 sk atP won (x)) := show spl (rmC s i0 i1 sk atP won bad) 25 [.val (.bool x)] = _ from rm_s_bad
@[go_sem 1300] theorem rm_w20_2 {y0 : UInt16} {y1 : UInt16} : spl (rmC s i0 i1 sk atP won bad) 20 [.val (.int .u16 (U16 y0)), .val (.int .u16 (U16 y1))] = (rmC s y0 y1 sk atP won bad) := by
  first
    | rfl
    | (unfold rmC
       rw [show (20 : Nat) = ((sd s).map D.toC).length + 0 from by rw [sdC_len], spl_appR (by simp only [List.length_cons, List.length_nil]; omega)]
       rfl)
@[go_sem ↓] theorem rm_w {l : List V} {hp : Heap} {i : Id} {off : Nat} {cs : List C} : St.stow ⟨l, hp⟩ i off cs (rmC s i0 i1 sk atP won bad) = ⟨l, hset hp i (spl cs off (rmC s i0 i1 (C.clean (fun _ => false) (fun _ => true) sk) atP won bad))⟩ := by
  rw [stow_big (by rw [rm_l]; omega), rm_k]
@[go_sem ↓ 1300] theorem rm_p : aPt (some true) 26 (rmC s i0 i1 sk atP won bad) 0 V' = V' (.w (.agg (rmC s i0 i1 sk atP won bad))) := by
  have e : ((rmC s i0 i1 sk atP won bad).drop 0).take 26 = (rmC s i0 i1 sk atP won bad) := by rw [List.drop_zero, List.take_of_length_le (by rw [rm_l]; omega)]
  simp only [aPt, rm_l, e, Nat.reduceAdd, Nat.reduceLeDiff, true_and]
theorem rm_le {s' : Sta} {i0' : UInt16} {i1' : UInt16} {sk' : C} {atP' : Int} {won' : Int} {bad' : Bool} (h : s = s' ∧ i0 = i0' ∧ i1 = i1' ∧ leC sk sk' ∧ atP = atP' ∧ won = won' ∧ bad = bad') : leCs (rmC s i0 i1 sk atP won bad) (rmC s' i0' i1' sk' atP' won' bad') := by
  obtain ⟨h0, h1, h2, h3, h4, h5, h6⟩ := h
  subst h0
  subst h1
  subst h2
  subst h4
  subst h5
  subst h6
  unfold rmC
  try simp only [List.cons_append, List.nil_append, List.append_assoc]
  exact (leCs_app (leCs_refl _) ⟨leC_refl _, ⟨leC_refl _, ⟨h3, ⟨leC_refl _, ⟨leC_refl _, ⟨leC_refl _, trivial⟩⟩⟩⟩⟩⟩)
@[go_sem ↓ 1300] theorem rm_ler : leCs (rmC s i0 i1 sk atP won bad) (rmC s i0 i1 sk atP won bad) = True := eq_true (leCs_refl _)
end
end
section
structure Rac where
  st : Sta
  i0 : UInt16
  i1 : UInt16
  sk : List Int
  pc : Int
  won : Int
  bad : Bool
abbrev rB (i : Id) (m : Rac) : List C := rmC m.st m.i0 m.i1 (.stk (.cell i 22) 1 (c32 m.sk)) m.pc m.won m.bad
section
variable {s : Sta} {i0 i1 : UInt16} {sk : C} {atP won : Int} {bad : Bool} {K : C → Prop}
theorem rm_gcell {k : Nat} (h : k < 16) : (rmC s i0 i1 sk atP won bad)[k + 1]? = some (.val (.int .i32 (s.cells.getD k 0))) := by
  unfold rmC
  rw [List.getElem?_append_left (by rw [sdC_len]; omega)]
  exact get_cells h
@[go_sem ↓ 1300] theorem rm_mcell {k : Nat} (h : k < 16) : (∃ c, (rmC s i0 i1 sk atP won bad)[1 + k]? = some c ∧ K c) = K (.val (.int .i32 (s.cells.getD k 0))) := by
  rw [Nat.add_comm]; exact ex_some (rm_gcell h)
@[go_sem ↓ 1300] theorem rm_mcell' {k : Nat} (h : k < 16) : (∃ c, (rmC s i0 i1 sk atP won bad)[1 + k * 1]? = some c ∧ K c) = K (.val (.int .i32 (s.cells.getD k 0))) := by
  rw [Nat.mul_one]; exact rm_mcell h
theorem rm_scell0 {k : Nat} {x : Int} (h : k < 16) : spl (rmC s i0 i1 sk atP won bad) (k + 1) [.val (.int .i32 x)] = rmC (s.wCells k x) i0 i1 sk atP won bad := by
  unfold rmC
  rw [spl_appL (by rw [sdC_len]; simp; omega), spl_cells h]
@[go_sem 1300] theorem rm_scell {k : Nat} {x : Int} (h : k < 16) : (rmC s i0 i1 sk atP won bad).set (1 + k) (.val (.int .i32 x)) = rmC (s.wCells k x) i0 i1 sk atP won bad := by
  rw [Nat.add_comm]; exact rm_scell0 h
@[go_sem 1300] theorem rm_scell' {k : Nat} {x : Int} (h : k < 16) : (rmC s i0 i1 sk atP won bad).set (1 + k * 1) (.val (.int .i32 x)) = rmC (s.wCells k x) i0 i1 sk atP won bad := by
  rw [Nat.mul_one]; exact rm_scell h
end
def rpopV (m : Rac) : Int := m.sk.getD (m.sk.length - 1) 0
def rpopM (m : Rac) : Rac := ⟨m.st, m.i0, m.i1, m.sk.take (m.sk.length - 1), m.pc, m.won, m.bad || decide (m.sk.length = 0)⟩
def rpushM (m : Rac) (x : Int) : Rac := if 32 ≤ m.sk.length then ⟨m.st, m.i0, m.i1, m.sk, m.pc, m.won, true⟩ else ⟨m.st, m.i0, m.i1, m.sk ++ [x], m.pc, m.won, m.bad⟩
theorem rpush_len (m : Rac) (x : Int) : (rpushM m x).sk.length ≤ m.sk.length + 1 := by unfold rpushM; split <;> simp
theorem rpop_h (m : Rac) (hl : m.sk.length ≤ 100000) : Holds Tryz.prog 77 [.ptr (.arg 0) 0] [(.arg 0, rB (.arg 0) m)] (fun r h' => r = .int .i32 (rpopV m) ∧ h' = [(.arg 0, rB (.arg 0) (rpopM m))]) := by
  obtain ⟨st, i0, i1, sk, pc, won, bad⟩ := m
  simp only at hl
  refine holds_of_awp Tryz.func77 rfl (by decide +kernel) mixed Tryz.ntmps77 Tryz.results77 ?_
  refine zE ?_
  refine zc ?_;try exact trivial
  refine c_dec (fun h => ?_) (fun h => ?_)
  · have h0 : sk = [] := List.eq_nil_of_length_eq_zero (by omega)
    subst h0
    simp only [rpopV, rpopM, List.length_nil, List.take_nil, List.getD_nil, decide_true, Bool.or_true]
    refine zc ?_;try exact trivial
    exact leCs_refl _
  have e1 : ((sk.length : Int) - 1).toNat = sk.length - 1 := by omega
  have e2 : rpopM ⟨st, i0, i1, sk, pc, won, bad⟩ = ⟨st, i0, i1, sk.take (sk.length - 1), pc, won, bad⟩ := by
    unfold rpopM
    rw [decide_eq_false (show ¬ sk.length = 0 by omega), Bool.or_false]
  rw [e2]
  simp only [rpopV]
  simp (maxSteps:=2000000) (disch:=omega) only [go_sem,Nat.reduceAdd,Nat.reduceSub,Nat.reduceMul,Nat.reduceBEq,Nat.reduceEqDiff,Nat.reduceLT,Nat.reduceLeDiff,Nat.reduceDiv,reduceIte,reduceCtorEq, e1]
  omega
theorem rpush_h (m : Rac) (x : Int) (hl : m.sk.length ≤ 100000) : Holds Tryz.prog 76 [.ptr (.arg 0) 0, .int .i32 x] [(.arg 0, rB (.arg 0) m)] (fun r h' => r = .tup [] ∧ h' = [(.arg 0, rB (.arg 0) (rpushM m x))]) := by
  obtain ⟨st, i0, i1, sk, pc, won, bad⟩ := m
  simp only at hl
  refine holds_of_awp Tryz.func76 rfl (by decide +kernel) mixed Tryz.ntmps76 Tryz.results76 ?_
  refine zE ?_
  refine zc ?_;try exact trivial
  refine c_dec (fun h => ?_) (fun h => ?_)
  · have e : rpushM ⟨st, i0, i1, sk, pc, won, bad⟩ x = ⟨st, i0, i1, sk, pc, won, true⟩ := by unfold rpushM; exact if_pos (by simp only; omega)
    rw [e]
    refine zc ?_;try exact trivial
  have e : rpushM ⟨st, i0, i1, sk, pc, won, bad⟩ x = ⟨st, i0, i1, sk ++ [x], pc, won, bad⟩ := by unfold rpushM; exact if_neg (by simp only; omega)
  rw [e]
  refine zc ?_;try exact trivial
  omega
theorem rtruth_h (b : Bool) : Holds Tryz.prog 78 [.c (.val (.bool b))] [] (fun r h' => r = .int .i32 (truthV b) ∧ h' = []) := by
  refine holds_of_awp Tryz.func78 rfl (by decide +kernel) mixed Tryz.ntmps78 Tryz.results78 ?_
  refine zE ?_
  cases b
  · refine zc ?_;try exact trivial
    rfl
  refine zc ?_;try exact trivial
  rfl
@[go_sem ↓ 1160] theorem e_and16 {a : UInt32} {V' : V → Prop} : aInt .and .u32 (U32 a) .u32 65535 V' = V' (.int .u32 (rndV a)) := by
  rw [e_and]
  refine congrArg (fun z => V' (.int .u32 z)) ?_
  unfold rndV U32
  have ha := a.toNat_lt
  have e : BitVec.ofInt IntKind.u32.bits ((a.toNat : Nat) : Int) &&& BitVec.ofInt IntKind.u32.bits 65535 = BitVec.ofNat 32 (a.toNat % 65536) := by
    show BitVec.ofInt 32 _ &&& BitVec.ofInt 32 _ = _
    apply BitVec.eq_of_toNat_eq
    rw [BitVec.toNat_and, BitVec.ofInt_natCast, show (65535 : Int) = ((65535 : Nat) : Int) by rfl, BitVec.ofInt_natCast, BitVec.toNat_ofNat, BitVec.toNat_ofNat, BitVec.toNat_ofNat]
    rw [Nat.mod_eq_of_lt (show a.toNat < 2 ^ 32 by omega), Nat.mod_eq_of_lt (show 65535 < 2 ^ 32 by omega), show 65535 = 2 ^ 16 - 1 by rfl, Nat.and_two_pow_sub_one_eq_mod]
    omega
  rw [e]
  show IntKind.u32.wrap ((BitVec.ofNat 32 (a.toNat % 65536)).toNat : Int) = _
  rw [BitVec.toNat_ofNat]
  simp only [IntKind.wrap, IntKind.bits, IntKind.signed]
  simp
  omega

def takesP (op : Int) : Nat := if op = 3 ∨ op = 12 ∨ op = 13 ∨ op = 15 ∨ op = 19 then 1 else if op = 4 ∨ op = 5 ∨ op = 6 ∨ op = 7 ∨ op = 8 ∨ op = 9 ∨ op = 10 ∨ op = 11 ∨ op = 14 then 2 else 0
theorem takes1_h : Holds Tryz.prog 75 [.int .i64 1] [] (fun r h' => r = .int .i64 0 ∧ h' = []) := by
  refine holds_of_awp Tryz.func75 rfl (by decide +kernel) mixed Tryz.ntmps75 Tryz.results75 ?_
  refine zE ?_
  refine zc ?_;try exact trivial
theorem takes2_h : Holds Tryz.prog 75 [.int .i64 2] [] (fun r h' => r = .int .i64 0 ∧ h' = []) := by
  refine holds_of_awp Tryz.func75 rfl (by decide +kernel) mixed Tryz.ntmps75 Tryz.results75 ?_
  refine zE ?_
  refine zc ?_;try exact trivial
theorem takes3_h : Holds Tryz.prog 75 [.int .i64 3] [] (fun r h' => r = .int .i64 1 ∧ h' = []) := by
  refine holds_of_awp Tryz.func75 rfl (by decide +kernel) mixed Tryz.ntmps75 Tryz.results75 ?_
  refine zE ?_
  refine zc ?_;try exact trivial
theorem takes4_h : Holds Tryz.prog 75 [.int .i64 4] [] (fun r h' => r = .int .i64 2 ∧ h' = []) := by
  refine holds_of_awp Tryz.func75 rfl (by decide +kernel) mixed Tryz.ntmps75 Tryz.results75 ?_
  refine zE ?_
  refine zc ?_;try exact trivial
theorem takes5_h : Holds Tryz.prog 75 [.int .i64 5] [] (fun r h' => r = .int .i64 2 ∧ h' = []) := by
  refine holds_of_awp Tryz.func75 rfl (by decide +kernel) mixed Tryz.ntmps75 Tryz.results75 ?_
  refine zE ?_
  refine zc ?_;try exact trivial
theorem takes6_h : Holds Tryz.prog 75 [.int .i64 6] [] (fun r h' => r = .int .i64 2 ∧ h' = []) := by
  refine holds_of_awp Tryz.func75 rfl (by decide +kernel) mixed Tryz.ntmps75 Tryz.results75 ?_
  refine zE ?_
  refine zc ?_;try exact trivial
theorem takes7_h : Holds Tryz.prog 75 [.int .i64 7] [] (fun r h' => r = .int .i64 2 ∧ h' = []) := by
  refine holds_of_awp Tryz.func75 rfl (by decide +kernel) mixed Tryz.ntmps75 Tryz.results75 ?_
  refine zE ?_
  refine zc ?_;try exact trivial
theorem takes8_h : Holds Tryz.prog 75 [.int .i64 8] [] (fun r h' => r = .int .i64 2 ∧ h' = []) := by
  refine holds_of_awp Tryz.func75 rfl (by decide +kernel) mixed Tryz.ntmps75 Tryz.results75 ?_
  refine zE ?_
  refine zc ?_;try exact trivial
theorem takes9_h : Holds Tryz.prog 75 [.int .i64 9] [] (fun r h' => r = .int .i64 2 ∧ h' = []) := by
  refine holds_of_awp Tryz.func75 rfl (by decide +kernel) mixed Tryz.ntmps75 Tryz.results75 ?_
  refine zE ?_
  refine zc ?_;try exact trivial
theorem takes10_h : Holds Tryz.prog 75 [.int .i64 10] [] (fun r h' => r = .int .i64 2 ∧ h' = []) := by
  refine holds_of_awp Tryz.func75 rfl (by decide +kernel) mixed Tryz.ntmps75 Tryz.results75 ?_
  refine zE ?_
  refine zc ?_;try exact trivial
theorem takes11_h : Holds Tryz.prog 75 [.int .i64 11] [] (fun r h' => r = .int .i64 2 ∧ h' = []) := by
  refine holds_of_awp Tryz.func75 rfl (by decide +kernel) mixed Tryz.ntmps75 Tryz.results75 ?_
  refine zE ?_
  refine zc ?_;try exact trivial
theorem takes12_h : Holds Tryz.prog 75 [.int .i64 12] [] (fun r h' => r = .int .i64 1 ∧ h' = []) := by
  refine holds_of_awp Tryz.func75 rfl (by decide +kernel) mixed Tryz.ntmps75 Tryz.results75 ?_
  refine zE ?_
  refine zc ?_;try exact trivial
theorem takes13_h : Holds Tryz.prog 75 [.int .i64 13] [] (fun r h' => r = .int .i64 1 ∧ h' = []) := by
  refine holds_of_awp Tryz.func75 rfl (by decide +kernel) mixed Tryz.ntmps75 Tryz.results75 ?_
  refine zE ?_
  refine zc ?_;try exact trivial
theorem takes14_h : Holds Tryz.prog 75 [.int .i64 14] [] (fun r h' => r = .int .i64 2 ∧ h' = []) := by
  refine holds_of_awp Tryz.func75 rfl (by decide +kernel) mixed Tryz.ntmps75 Tryz.results75 ?_
  refine zE ?_
  refine zc ?_;try exact trivial
theorem takes15_h : Holds Tryz.prog 75 [.int .i64 15] [] (fun r h' => r = .int .i64 1 ∧ h' = []) := by
  refine holds_of_awp Tryz.func75 rfl (by decide +kernel) mixed Tryz.ntmps75 Tryz.results75 ?_
  refine zE ?_
  refine zc ?_;try exact trivial
theorem takes16_h : Holds Tryz.prog 75 [.int .i64 16] [] (fun r h' => r = .int .i64 0 ∧ h' = []) := by
  refine holds_of_awp Tryz.func75 rfl (by decide +kernel) mixed Tryz.ntmps75 Tryz.results75 ?_
  refine zE ?_
  refine zc ?_;try exact trivial
theorem takes17_h : Holds Tryz.prog 75 [.int .i64 17] [] (fun r h' => r = .int .i64 0 ∧ h' = []) := by
  refine holds_of_awp Tryz.func75 rfl (by decide +kernel) mixed Tryz.ntmps75 Tryz.results75 ?_
  refine zE ?_
  refine zc ?_;try exact trivial
theorem takes18_h : Holds Tryz.prog 75 [.int .i64 18] [] (fun r h' => r = .int .i64 0 ∧ h' = []) := by
  refine holds_of_awp Tryz.func75 rfl (by decide +kernel) mixed Tryz.ntmps75 Tryz.results75 ?_
  refine zE ?_
  refine zc ?_;try exact trivial
theorem takes19_h : Holds Tryz.prog 75 [.int .i64 19] [] (fun r h' => r = .int .i64 1 ∧ h' = []) := by
  refine holds_of_awp Tryz.func75 rfl (by decide +kernel) mixed Tryz.ntmps75 Tryz.results75 ?_
  refine zE ?_
  refine zc ?_;try exact trivial
theorem takes20_h : Holds Tryz.prog 75 [.int .i64 20] [] (fun r h' => r = .int .i64 0 ∧ h' = []) := by
  refine holds_of_awp Tryz.func75 rfl (by decide +kernel) mixed Tryz.ntmps75 Tryz.results75 ?_
  refine zE ?_
  refine zc ?_;try exact trivial
theorem takes21_h : Holds Tryz.prog 75 [.int .i64 21] [] (fun r h' => r = .int .i64 0 ∧ h' = []) := by
  refine holds_of_awp Tryz.func75 rfl (by decide +kernel) mixed Tryz.ntmps75 Tryz.results75 ?_
  refine zE ?_
  refine zc ?_;try exact trivial
theorem takes22_h : Holds Tryz.prog 75 [.int .i64 22] [] (fun r h' => r = .int .i64 0 ∧ h' = []) := by
  refine holds_of_awp Tryz.func75 rfl (by decide +kernel) mixed Tryz.ntmps75 Tryz.results75 ?_
  refine zE ?_
  refine zc ?_;try exact trivial
theorem two4_h10 (b a : Int) (hb : B32 b) (ha : B32 a) : Holds Tryz.prog 79 [.int .i64 4, .int .i32 b, .int .i32 a] [] (fun r h' => r = .int .i32 (held (b + a)) ∧ h' = []) := by
  refine holds_of_awp Tryz.func79 rfl (by decide +kernel) mixed Tryz.ntmps79 Tryz.results79 ?_
  refine zE ?_
  refine zc ?_;try exact trivial
  refine a_call [] (radd_h b a hb ha) ok0 ?_ ?_ ?_
  · refine zs ?_;try exact trivial
  · refine zs ?_;try exact trivial
  rintro _ _ ⟨rfl, rfl⟩
  refine zs ?_;try exact trivial
theorem two5_h10 (b a : Int) (hb : B32 b) (ha : B32 a) : Holds Tryz.prog 79 [.int .i64 5, .int .i32 b, .int .i32 a] [] (fun r h' => r = .int .i32 (held (b - a)) ∧ h' = []) := by
  refine holds_of_awp Tryz.func79 rfl (by decide +kernel) mixed Tryz.ntmps79 Tryz.results79 ?_
  refine zE ?_
  refine zc ?_;try exact trivial
  refine a_call [] (rsub_h b a hb ha) ok0 ?_ ?_ ?_
  · refine zs ?_;try exact trivial
  · refine zs ?_;try exact trivial
  rintro _ _ ⟨rfl, rfl⟩
  refine zs ?_;try exact trivial
theorem two6_h10 (b a : Int) (hb : B32 b) (ha : B32 a) : Holds Tryz.prog 79 [.int .i64 6, .int .i32 b, .int .i32 a] [] (fun r h' => r = .int .i32 (held (b * a / 65536)) ∧ h' = []) := by
  refine holds_of_awp Tryz.func79 rfl (by decide +kernel) mixed Tryz.ntmps79 Tryz.results79 ?_
  refine zE ?_
  refine zc ?_;try exact trivial
  refine a_call [] (rmul_h b a hb ha) ok0 ?_ ?_ ?_
  · refine zs ?_;try exact trivial
  · refine zs ?_;try exact trivial
  rintro _ _ ⟨rfl, rfl⟩
  refine zs ?_;try exact trivial
theorem two7_h10 (b a : Int) (hb : B32 b) (ha : B32 a) : Holds Tryz.prog 79 [.int .i64 7, .int .i32 b, .int .i32 a] [] (fun r h' => r = .int .i32 (divV b a) ∧ h' = []) := by
  refine holds_of_awp Tryz.func79 rfl (by decide +kernel) mixed Tryz.ntmps79 Tryz.results79 ?_
  refine zE ?_
  refine zc ?_;try exact trivial
  refine a_call [] (rdiv_h b a hb ha) ok0 ?_ ?_ ?_
  · refine zs ?_;try exact trivial
  · refine zs ?_;try exact trivial
  rintro _ _ ⟨rfl, rfl⟩
  refine zs ?_;try exact trivial
theorem two8_h10 (b a : Int) (hb : B32 b) (ha : B32 a) : Holds Tryz.prog 79 [.int .i64 8, .int .i32 b, .int .i32 a] [] (fun r h' => r = .int .i32 (min b a) ∧ h' = []) := by
  refine holds_of_awp Tryz.func79 rfl (by decide +kernel) mixed Tryz.ntmps79 Tryz.results79 ?_
  refine zE ?_
  refine zc ?_;try exact trivial
  all_goals (try rw [Int.min_comm])
theorem two9_h10 (b a : Int) (hb : B32 b) (ha : B32 a) : Holds Tryz.prog 79 [.int .i64 9, .int .i32 b, .int .i32 a] [] (fun r h' => r = .int .i32 (max b a) ∧ h' = []) := by
  refine holds_of_awp Tryz.func79 rfl (by decide +kernel) mixed Tryz.ntmps79 Tryz.results79 ?_
  refine zE ?_
  refine zc ?_;try exact trivial
  all_goals (try rw [Int.max_comm])
theorem two10_h10 (b a : Int) (hb : B32 b) (ha : B32 a) : Holds Tryz.prog 79 [.int .i64 10, .int .i32 b, .int .i32 a] [] (fun r h' => r = .int .i32 (truthV (decide (b < a))) ∧ h' = []) := by
  refine holds_of_awp Tryz.func79 rfl (by decide +kernel) mixed Tryz.ntmps79 Tryz.results79 ?_
  refine zE ?_
  refine zc ?_;try exact trivial
  refine a_call [] (rtruth_h (decide (b < a))) ok0 ?_ ?_ ?_
  · refine zs ?_;try exact trivial
  · refine zs ?_;try exact trivial
  rintro _ _ ⟨rfl, rfl⟩
  refine zc ?_;try exact trivial
theorem two11_h10 (b a : Int) (hb : B32 b) (ha : B32 a) : Holds Tryz.prog 79 [.int .i64 11, .int .i32 b, .int .i32 a] [] (fun r h' => r = .int .i32 (truthV (decide (b = a))) ∧ h' = []) := by
  refine holds_of_awp Tryz.func79 rfl (by decide +kernel) mixed Tryz.ntmps79 Tryz.results79 ?_
  refine zE ?_
  refine zc ?_;try exact trivial
  refine a_call [] (rtruth_h (decide (b = a))) ok0 ?_ ?_ ?_
  · refine zs ?_;try exact trivial
  · refine zs ?_;try exact trivial
  rintro _ _ ⟨rfl, rfl⟩
  refine zc ?_;try exact trivial
end
section
set_option maxRecDepth 20000
/-- the next instruction is another one -/
@[reducible] def incR (m : Rac) : Rac := ⟨m.st, m.i0, m.i1, m.sk, m.pc + 1, m.won, m.bad⟩
def badR (m : Rac) : Rac := ⟨m.st, m.i0, m.i1, m.sk, m.pc, m.won, true⟩
def rtwo (f : Int → Int → Int) (m : Rac) : Rac := rpushM (rpopM (rpopM m)) (f (rpopV (rpopM m)) (rpopV m))
def rload (m : Rac) (arg : Int) : Rac := rpushM m (m.st.cells.getD arg.toNat 0)
def rstore (m : Rac) (arg : Int) : Rac := ⟨m.st.wCells arg.toNat (rpopV m), m.i0, m.i1, (rpopM m).sk, m.pc, m.won, (rpopM m).bad⟩
def rnot (m : Rac) : Rac := rpushM (rpopM m) (truthV (decide (rpopV m = 0)))
def rdup (m : Rac) : Rac := rpushM (rpushM (rpopM m) (rpopV m)) (rpopV m)
def rswap (m : Rac) : Rac := rpushM (rpushM (rpopM (rpopM m)) (rpopV m)) (rpopV (rpopM m))
def rinput (m : Rac) (arg : Int) : Rac := rpushM m (if arg = 0 then (U16 m.i0 : Int) else U16 m.i1)
def rjump (m : Rac) (arg : Int) : Rac := ⟨m.st, m.i0, m.i1, m.sk, arg, m.won, m.bad⟩
def rzero (m : Rac) (arg : Int) : Rac := if rpopV m = 0 then rjump (rpopM m) arg else rpopM m
def rwin (m : Rac) (arg : Int) : Rac := ⟨m.st, m.i0, m.i1, m.sk, m.pc, arg, m.bad⟩
def rrand (m : Rac) : Rac := rpushM ⟨m.st.wSeed (mixS m.st.seed), m.i0, m.i1, m.sk, m.pc, m.won, m.bad⟩ (rndV (mixS m.st.seed))
def goB (m : Rac) (n : Int) : Bool := !m.bad && decide (m.pc < n)
theorem rpop_len (m : Rac) : (rpopM m).sk.length ≤ m.sk.length := List.length_take_le' _ _
end
section
/-- the other machine's instruction, and whether it goes on -/
def rdoK (op arg : Int) (r : Rac) : Rac :=
  if op = 1 then rpushM (incR r) arg
  else if op = 2 then rload (incR r) arg
  else if op = 3 then rstore (incR r) arg
  else if op = 4 then rtwo f4 (incR r)
  else if op = 5 then rtwo f5 (incR r)
  else if op = 6 then rtwo f6 (incR r)
  else if op = 7 then rtwo f7 (incR r)
  else if op = 8 then rtwo f8 (incR r)
  else if op = 9 then rtwo f9 (incR r)
  else if op = 10 then rtwo f10 (incR r)
  else if op = 11 then rtwo f11 (incR r)
  else if op = 12 then rnot (incR r)
  else if op = 13 then rdup (incR r)
  else if op = 14 then rswap (incR r)
  else if op = 15 then rpopM (incR r)
  else if op = 16 then rinput (incR r) arg
  else if op = 17 then rpushM (incR r) r.st.frame
  else if op = 18 then rjump (incR r) arg
  else if op = 19 then rzero (incR r) arg
  else if op = 20 then rwin (incR r) arg
  else if op = 21 then rrand (incR r)
  else incR r
def rdoM (op arg : Int) (r : Rac) : Rac := if r.sk.length < takesP op then badR r else rdoK op arg r
def rdoB (op arg n : Int) (r : Rac) : Bool := if r.sk.length < takesP op ∨ op = 20 ∨ op = 22 then false else goB (rdoM op arg r) n
def rrunM (code : List (Int × Int)) : Nat → Rac → Rac
  | 0, r => if r.pc < code.length then badR r else r
  | f + 1, r => if r.pc < code.length then
      (if rdoB (gi code r.pc.toNat).1 (gi code r.pc.toNat).2 code.length r = true then rrunM code f (rdoM (gi code r.pc.toNat).1 (gi code r.pc.toNat).2 r) else rdoM (gi code r.pc.toNat).1 (gi code r.pc.toNat).2 r) else r
/-- the two machines stand alike -/
structure Rl (m : Mac) (r : Rac) : Prop where
  st : r.st = m.st
  i0 : r.i0 = m.i0
  i1 : r.i1 = m.i1
  sk : r.sk = m.sk
  pc : r.pc = m.pc
  mb : m.bad = false
  rb : r.bad = false
  en : m.en = false
  won : r.won = -1
theorem Rl.inc {m : Mac} {r : Rac} (h : Rl m r) : Rl (incM m) (incR r) := ⟨h.st, h.i0, h.i1, h.sk, by show r.pc + 1 = m.pc + 1; rw [h.pc], h.mb, h.rb, h.en, h.won⟩
theorem Rl.popV {m : Mac} {r : Rac} (h : Rl m r) : rpopV r = popV m := by unfold rpopV Proofs.YtamcjecgkfmjkaaGreat.popV; rw [h.sk]
theorem Rl.pop {m : Mac} {r : Rac} (h : Rl m r) (hl : m.sk.length ≠ 0) : Rl (popM m) (rpopM r) := ⟨h.st, h.i0, h.i1, by show r.sk.take _ = m.sk.take _; rw [h.sk], h.pc, by simp [popM, h.mb, hl], by simp [rpopM, h.rb, h.sk, hl], h.en, h.won⟩
/-- numbers laid -/
def Out (m : Mac) (r : Rac) : Prop := (m.bad = true ∧ r.bad = true) ∨ Rl m r
theorem Rl.push {m : Mac} {r : Rac} (h : Rl m r) (x : Int) : Out (pushM m [x]) (rpushM r x) := by
  unfold pushM rpushM
  by_cases hl : 32 ≤ r.sk.length
  · rw [if_pos hl]
    refine .inl ⟨?_, rfl⟩
    rw [h.sk] at hl
    have : decide (32 < m.sk.length + [x].length) = true := by simp; omega
    simp only [this, Bool.or_true]
  rw [if_neg hl]
  rw [h.sk] at hl
  have : decide (32 < m.sk.length + [x].length) = false := by simp; omega
  exact .inr ⟨h.st, h.i0, h.i1, by show r.sk ++ [x] = m.sk ++ [x]; rw [h.sk], h.pc, by simp only [this, h.mb, Bool.or_false], h.rb, h.en, h.won⟩
theorem Rl.push2 {m : Mac} {r : Rac} (h : Rl m r) (x y : Int) : Out (pushM m [x, y]) (rpushM (rpushM r x) y) := by
  by_cases hl : 32 ≤ r.sk.length
  · have e : rpushM r x = ⟨r.st, r.i0, r.i1, r.sk, r.pc, r.won, true⟩ := by unfold rpushM; rw [if_pos hl]
    refine .inl ⟨?_, ?_⟩
    · rw [h.sk] at hl
      have : decide (32 < m.sk.length + [x, y].length) = true := by simp; omega
      unfold pushM
      simp only [this, Bool.or_true]
    rw [e]; unfold rpushM; split <;> rfl
  have e : rpushM r x = ⟨r.st, r.i0, r.i1, r.sk ++ [x], r.pc, r.won, r.bad⟩ := by unfold rpushM; rw [if_neg hl]
  rw [e]
  unfold rpushM pushM
  rw [h.sk] at hl
  by_cases h2 : 32 ≤ (r.sk ++ [x]).length
  · rw [if_pos h2]
    refine .inl ⟨?_, rfl⟩
    have : decide (32 < m.sk.length + [x, y].length) = true := by
      rw [List.length_append, h.sk] at h2; simp at h2 ⊢; omega
    simp only [this, Bool.or_true]
  rw [if_neg h2]
  have : decide (32 < m.sk.length + [x, y].length) = false := by
    rw [List.length_append, h.sk] at h2; simp at h2 ⊢; omega
  exact .inr ⟨h.st, h.i0, h.i1, by show r.sk ++ [x] ++ [y] = m.sk ++ [x, y]; rw [h.sk]; simp, h.pc, by simp only [this, h.mb, Bool.or_false], h.rb, h.en, h.won⟩
theorem Rl.two {m : Mac} {r : Rac} (h : Rl m r) (hl : 2 ≤ m.sk.length) (f : Int → Int → Int) : Out (two10 f m) (rtwo f r) := by
  have h1 := h.pop (by omega)
  have h2 := h1.pop (by simp [popM]; omega)
  unfold two10 rtwo
  rw [h.popV, h1.popV]
  exact h2.push _
theorem bad_push {m : Mac} (l : List Int) (h : m.bad = true) : (pushM m l).bad = true := by simp [pushM, h]
theorem bad_pop {m : Mac} (h : m.bad = true ∨ m.sk.length = 0) : (popM m).bad = true := by
  rcases h with h | h <;> simp [popM, h]
theorem bad_two {m : Mac} (f : Int → Int → Int) (h : m.sk.length < 2) : (two10 f m).bad = true := bad_push _ (bad_pop (.inr (by simp [popM]; omega)))
/-- too few numbers -/
theorem few_bad {op arg : Int} {m : Mac} (h : 1 ≤ op ∧ op ≤ 22) (hl : m.sk.length < takesP op) : (doM op arg m).bad = true := by
  rcases op_cases h with rfl | rfl | rfl | rfl | rfl | rfl | rfl | rfl | rfl | rfl | rfl | rfl | rfl | rfl | rfl | rfl | rfl | rfl | rfl | rfl | rfl | rfl
  · replace hl : m.sk.length < 0 := hl
    omega
  · replace hl : m.sk.length < 0 := hl
    omega
  · replace hl : m.sk.length < 1 := hl
    exact bad_pop (.inr (by omega))
  · replace hl : m.sk.length < 2 := hl
    exact bad_two _ hl
  · replace hl : m.sk.length < 2 := hl
    exact bad_two _ hl
  · replace hl : m.sk.length < 2 := hl
    exact bad_two _ hl
  · replace hl : m.sk.length < 2 := hl
    exact bad_two _ hl
  · replace hl : m.sk.length < 2 := hl
    exact bad_two _ hl
  · replace hl : m.sk.length < 2 := hl
    exact bad_two _ hl
  · replace hl : m.sk.length < 2 := hl
    exact bad_two _ hl
  · replace hl : m.sk.length < 2 := hl
    exact bad_two _ hl
  · replace hl : m.sk.length < 1 := hl
    exact bad_push _ (bad_pop (.inr (by omega)))
  · replace hl : m.sk.length < 1 := hl
    exact bad_push _ (bad_pop (.inr (by omega)))
  · replace hl : m.sk.length < 2 := hl
    exact bad_push _ (bad_pop (.inr (by have : (popM m).sk.length = min (m.sk.length - 1) m.sk.length := List.length_take; omega)))
  · replace hl : m.sk.length < 1 := hl
    exact bad_pop (.inr (by omega))
  · replace hl : m.sk.length < 0 := hl
    omega
  · replace hl : m.sk.length < 0 := hl
    omega
  · replace hl : m.sk.length < 0 := hl
    omega
  · replace hl : m.sk.length < 1 := hl
    rw [doM_19]
    unfold zero10
    have hb : (popM m).bad = true := bad_pop (.inr (by omega))
    split <;> exact hb
  · replace hl : m.sk.length < 0 := hl
    omega
  · replace hl : m.sk.length < 0 := hl
    omega
  replace hl : m.sk.length < 0 := hl
  omega
/-- one instruction, in both -/
theorem do_both {op arg n : Int} {m : Mac} {r : Rac} (h : Rl m r) (hm : mayP op arg n = true) :
    ((doM op arg (incM m)).bad = true ∧ (rdoM op arg r).bad = true ∧ rdoB op arg n r = false) ∨
    (Rl (doM op arg (incM m)) (rdoM op arg r) ∧ rdoB op arg n r = decide ((doM op arg (incM m)).pc < n) ∧ (rdoM op arg r).bad = false) ∨
    (op = 20 ∧ (doM op arg (incM m)).bad = false ∧ (doM op arg (incM m)).en = true ∧ (doM op arg (incM m)).st = (m.st.wOver true).wWin arg ∧ (rdoM op arg r).st = m.st ∧ (rdoM op arg r).won = arg ∧ (rdoM op arg r).bad = false ∧ rdoB op arg n r = false) ∨
    (op = 22 ∧ (doM op arg (incM m)).bad = false ∧ (doM op arg (incM m)).en = true ∧ (doM op arg (incM m)).st = m.st ∧ (rdoM op arg r).st = m.st ∧ (rdoM op arg r).won = -1 ∧ (rdoM op arg r).bad = false ∧ rdoB op arg n r = false) := by
  obtain ⟨ho, _⟩ := mayP_arg hm
  have hi := h.inc
  have hsk : (incM m).sk = m.sk := rfl
  by_cases hl : r.sk.length < takesP op
  · refine .inl ⟨few_bad ho (by rw [hsk, ← h.sk]; exact hl), ?_, ?_⟩
    · unfold rdoM; rw [if_pos hl]; rfl
    unfold rdoB; rw [if_pos (.inl hl)]
  have hl' : ¬ (incM m).sk.length < takesP op := by rw [hsk, ← h.sk]; exact hl
  have key : ∀ (hop : ¬ (op = 20 ∨ op = 22)) (m' : Mac) (r' : Rac), doM op arg (incM m) = m' → rdoM op arg r = r' → Out m' r' → ((doM op arg (incM m)).bad = true ∧ (rdoM op arg r).bad = true ∧ rdoB op arg n r = false) ∨
      (Rl (doM op arg (incM m)) (rdoM op arg r) ∧ rdoB op arg n r = decide ((doM op arg (incM m)).pc < n) ∧ (rdoM op arg r).bad = false) := by
    rintro hop m' r' e1 e2 ho
    have eB : rdoB op arg n r = goB r' n := by unfold rdoB; rw [if_neg (by rintro (h | h); exact hl h; exact hop h), e2]
    rw [e1, e2, eB]
    rcases ho with ⟨a, b⟩ | a
    · exact .inl ⟨a, b, by unfold goB; rw [b]; rfl⟩
    exact .inr ⟨a, by unfold goB; rw [a.rb, a.pc]; simp, a.rb⟩
  have nd : ∀ (m' : Mac) (r' : Rac), ¬ (op = 20 ∨ op = 22) → doM op arg (incM m) = m' → rdoM op arg r = r' → Out m' r' → _ := fun m' r' hop e1 e2 ho => (key hop m' r' e1 e2 ho).imp id (fun h => Or.inl (b := (op = 20 ∧ (doM op arg (incM m)).bad = false ∧ (doM op arg (incM m)).en = true ∧ (doM op arg (incM m)).st = (m.st.wOver true).wWin arg ∧ (rdoM op arg r).st = m.st ∧ (rdoM op arg r).won = arg ∧ (rdoM op arg r).bad = false ∧ rdoB op arg n r = false) ∨
    (op = 22 ∧ (doM op arg (incM m)).bad = false ∧ (doM op arg (incM m)).en = true ∧ (doM op arg (incM m)).st = m.st ∧ (rdoM op arg r).st = m.st ∧ (rdoM op arg r).won = -1 ∧ (rdoM op arg r).bad = false ∧ rdoB op arg n r = false)) h)
  have hrl : ¬ r.sk.length < takesP op := hl
  clear key
  rcases op_cases ho with rfl | rfl | rfl | rfl | rfl | rfl | rfl | rfl | rfl | rfl | rfl | rfl | rfl | rfl | rfl | rfl | rfl | rfl | rfl | rfl | rfl | rfl
  · have ek : rdoM 1 arg r = rdoK 1 arg r := if_neg hrl
    replace hl' : ¬ (incM m).sk.length < 0 := hl'
    exact nd _ _ (by omega) rfl ek (hi.push arg)
  · have ek : rdoM 2 arg r = rdoK 2 arg r := if_neg hrl
    replace hl' : ¬ (incM m).sk.length < 0 := hl'
    exact nd _ _ (by omega) rfl ek (by
      show Out (load10 (incM m) arg) (rload (incR r) arg)
      unfold rload load10
      have e : (incR r).st = (incM m).st := hi.st
      rw [e]
      exact hi.push _)
  · have ek : rdoM 3 arg r = rdoK 3 arg r := if_neg hrl
    replace hl' : ¬ (incM m).sk.length < 1 := hl'
    have h1 := hi.pop (by omega)
    exact nd _ _ (by omega) rfl ek (.inr (by
      refine ⟨?_, h1.i0, h1.i1, h1.sk, h1.pc, h1.mb, h1.rb, h1.en, h1.won⟩
      show (incR r).st.wCells _ _ = (incM m).st.wCells _ _
      rw [hi.st, hi.popV]))
  · have ek : rdoM 4 arg r = rdoK 4 arg r := if_neg hrl
    replace hl' : ¬ (incM m).sk.length < 2 := hl'
    exact nd _ _ (by omega) rfl ek (hi.two (by omega) _)
  · have ek : rdoM 5 arg r = rdoK 5 arg r := if_neg hrl
    replace hl' : ¬ (incM m).sk.length < 2 := hl'
    exact nd _ _ (by omega) rfl ek (hi.two (by omega) _)
  · have ek : rdoM 6 arg r = rdoK 6 arg r := if_neg hrl
    replace hl' : ¬ (incM m).sk.length < 2 := hl'
    exact nd _ _ (by omega) rfl ek (hi.two (by omega) _)
  · have ek : rdoM 7 arg r = rdoK 7 arg r := if_neg hrl
    replace hl' : ¬ (incM m).sk.length < 2 := hl'
    exact nd _ _ (by omega) rfl ek (hi.two (by omega) _)
  · have ek : rdoM 8 arg r = rdoK 8 arg r := if_neg hrl
    replace hl' : ¬ (incM m).sk.length < 2 := hl'
    exact nd _ _ (by omega) rfl ek (hi.two (by omega) _)
  · have ek : rdoM 9 arg r = rdoK 9 arg r := if_neg hrl
    replace hl' : ¬ (incM m).sk.length < 2 := hl'
    exact nd _ _ (by omega) rfl ek (hi.two (by omega) _)
  · have ek : rdoM 10 arg r = rdoK 10 arg r := if_neg hrl
    replace hl' : ¬ (incM m).sk.length < 2 := hl'
    exact nd _ _ (by omega) rfl ek (hi.two (by omega) _)
  · have ek : rdoM 11 arg r = rdoK 11 arg r := if_neg hrl
    replace hl' : ¬ (incM m).sk.length < 2 := hl'
    exact nd _ _ (by omega) rfl ek (hi.two (by omega) _)
  · have ek : rdoM 12 arg r = rdoK 12 arg r := if_neg hrl
    replace hl' : ¬ (incM m).sk.length < 1 := hl'
    have h1 := hi.pop (by omega)
    exact nd _ _ (by omega) rfl ek (by
      show Out (not10 (incM m)) (rnot (incR r))
      unfold not10 rnot
      rw [hi.popV]
      exact h1.push _)
  · have ek : rdoM 13 arg r = rdoK 13 arg r := if_neg hrl
    replace hl' : ¬ (incM m).sk.length < 1 := hl'
    have h1 := hi.pop (by omega)
    exact nd _ _ (by omega) rfl ek (by
      show Out (dup10 (incM m)) (rdup (incR r))
      unfold dup10 rdup
      rw [hi.popV]
      exact h1.push2 _ _)
  · have ek : rdoM 14 arg r = rdoK 14 arg r := if_neg hrl
    replace hl' : ¬ (incM m).sk.length < 2 := hl'
    have h1 := hi.pop (by omega)
    have h2 := h1.pop (by have : (popM (incM m)).sk.length = min ((incM m).sk.length - 1) (incM m).sk.length := List.length_take; omega)
    exact nd _ _ (by omega) rfl ek (by
      show Out (swap10 (incM m)) (rswap (incR r))
      unfold swap10 rswap
      rw [hi.popV, h1.popV]
      exact h2.push2 _ _)
  · have ek : rdoM 15 arg r = rdoK 15 arg r := if_neg hrl
    replace hl' : ¬ (incM m).sk.length < 1 := hl'
    exact nd _ _ (by omega) rfl ek (.inr (hi.pop (by omega)))
  · have ek : rdoM 16 arg r = rdoK 16 arg r := if_neg hrl
    replace hl' : ¬ (incM m).sk.length < 0 := hl'
    exact nd _ _ (by omega) rfl ek (by
      show Out (input10 (incM m) arg) (rinput (incR r) arg)
      unfold input10 rinput
      rw [hi.i0, hi.i1]
      exact hi.push _)
  · have ek : rdoM 17 arg r = rdoK 17 arg r := if_neg hrl
    replace hl' : ¬ (incM m).sk.length < 0 := hl'
    exact nd _ _ (by omega) rfl ek (by
      show Out (frame10 (incM m)) (rpushM (incR r) r.st.frame)
      unfold frame10
      rw [h.st]
      exact hi.push _)
  · have ek : rdoM 18 arg r = rdoK 18 arg r := if_neg hrl
    replace hl' : ¬ (incM m).sk.length < 0 := hl'
    exact nd _ _ (by omega) rfl ek (.inr ⟨hi.st, hi.i0, hi.i1, hi.sk, rfl, hi.mb, hi.rb, hi.en, hi.won⟩)
  · have ek : rdoM 19 arg r = rdoK 19 arg r := if_neg hrl
    replace hl' : ¬ (incM m).sk.length < 1 := hl'
    have h1 := hi.pop (by omega)
    exact nd _ _ (by omega) rfl ek (.inr (by
      show Rl (zero10 (incM m) arg) (rzero (incR r) arg)
      unfold zero10 rzero
      rw [hi.popV]
      split
      · exact ⟨h1.st, h1.i0, h1.i1, h1.sk, rfl, h1.mb, h1.rb, h1.en, h1.won⟩
      exact h1))
  · have ek : rdoM 20 arg r = rdoK 20 arg r := if_neg hrl
    replace hl' : ¬ (incM m).sk.length < 0 := hl'
    have e2 : rdoM 20 arg r = rwin (incR r) arg := ek
    refine .inr (.inr (.inl ⟨rfl, hi.mb, rfl, rfl, ?_, ?_, ?_, ?_⟩))
    · rw [e2]; exact h.st
    · rw [e2]; rfl
    · rw [e2]; exact h.rb
    unfold rdoB; rw [if_pos (.inr (.inl rfl))]
  · have ek : rdoM 21 arg r = rdoK 21 arg r := if_neg hrl
    replace hl' : ¬ (incM m).sk.length < 0 := hl'
    exact nd _ _ (by omega) rfl ek (by
      show Out (rand10 (incM m)) (rrand (incR r))
      have e : rrand (incR r) = rpushM ⟨m.st.wSeed (mixS m.st.seed), r.i0, r.i1, r.sk, r.pc + 1, r.won, r.bad⟩ (rndV (mixS m.st.seed)) := by
        show rpushM ⟨r.st.wSeed (mixS r.st.seed), r.i0, r.i1, r.sk, r.pc + 1, r.won, r.bad⟩ (rndV (mixS r.st.seed)) = _
        rw [h.st]
      rw [e]
      exact Rl.push (m := ⟨m.st.wSeed (mixS m.st.seed), m.i0, m.i1, m.sk, m.pc + 1, m.en, m.bad⟩) (r := ⟨m.st.wSeed (mixS m.st.seed), r.i0, r.i1, r.sk, r.pc + 1, r.won, r.bad⟩) ⟨rfl, hi.i0, hi.i1, hi.sk, hi.pc, hi.mb, hi.rb, hi.en, hi.won⟩ _)
  have ek : rdoM 22 arg r = rdoK 22 arg r := if_neg hrl
  replace hl' : ¬ (incM m).sk.length < 0 := hl'
  have e2 : rdoM 22 arg r = incR r := ek
  refine .inr (.inr (.inr ⟨rfl, hi.mb, rfl, rfl, ?_, ?_, ?_, ?_⟩))
  · rw [e2]; exact h.st
  · rw [e2]; exact h.won
  · rw [e2]; exact h.rb
  unfold rdoB; rw [if_pos (.inr (.inr rfl))]
/-! ### the ends -/
def winS (s : Sta) : Int := if s.cells.getD 1 0 < s.cells.getD 0 0 then 0 else if s.cells.getD 0 0 < s.cells.getD 1 0 then 1 else 2
def endS (cap : Int) (s : Sta) : Sta := if cap ≤ s.frame + 1 ∧ s.over = false then ((s.wFrame (s.frame + 1)).wOver true).wWin (winS s) else s.wFrame (s.frame + 1)
@[reducible] def mac0 (s : Sta) (i0 i1 : UInt16) : Mac := ⟨s, i0, i1, [], 0, false, false⟩
def stepM (code : List (Int × Int)) (cap : Int) (fuel : Nat) (s : Sta) (i0 i1 : UInt16) : Sta := endS cap (if (runM code fuel (mac0 s i0 i1)).1 = 0 then (runM code fuel (mac0 s i0 i1)).2.st else s)
@[reducible] def rac0 (s : Sta) (i0 i1 : UInt16) : Rac := ⟨s, i0, i1, [], 0, -1, false⟩
/-- what a frame that failed leaves -/
def undoR (s : Sta) (r : Rac) : Rac := if r.bad = true then ⟨⟨r.st.frame, s.cells, s.seed, r.st.over, r.st.win, s.len⟩, r.i0, r.i1, r.sk, r.pc, -1, r.bad⟩ else r
def refE (cap : Int) (r : Rac) : Sta := if 0 ≤ r.won then ((r.st.wFrame (r.st.frame + 1)).wOver true).wWin r.won else if r.st.frame + 1 = cap then
    (if r.st.cells.getD 0 0 = r.st.cells.getD 1 0 then ((r.st.wFrame (r.st.frame + 1)).wOver true).wWin 2 else if r.st.cells.getD 0 0 < r.st.cells.getD 1 0 then ((r.st.wFrame (r.st.frame + 1)).wOver true).wWin 1 else (r.st.wFrame (r.st.frame + 1)).wOver true) else r.st.wFrame (r.st.frame + 1)
def rstepM (code : List (Int × Int)) (cap : Int) (fuel : Nat) (s : Sta) (i0 i1 : UInt16) : Sta := refE cap (undoR s (rrunM code fuel (rac0 s i0 i1)))
/-- what the other machine never touches -/
structure Kp (s : Sta) (r : Rac) : Prop where
  frame : r.st.frame = s.frame
  over : r.st.over = s.over
  win : r.st.win = s.win
theorem Kp.rpush {s : Sta} {r : Rac} (h : Kp s r) (x : Int) : Kp s (rpushM r x) := by unfold rpushM; split <;> exact ⟨h.frame, h.over, h.win⟩
theorem Kp.do {s : Sta} {r : Rac} (h : Kp s r) (op arg : Int) : Kp s (rdoM op arg r) := by
  have hp : Kp s (rpopM (incR r)) := ⟨h.frame, h.over, h.win⟩
  have hp2 : Kp s (rpopM (rpopM (incR r))) := ⟨h.frame, h.over, h.win⟩
  have hi : Kp s (incR r) := ⟨h.frame, h.over, h.win⟩
  unfold rdoM
  split
  · exact ⟨h.frame, h.over, h.win⟩
  by_cases ho : 1 ≤ op ∧ op ≤ 22
  · rcases op_cases ho with rfl | rfl | rfl | rfl | rfl | rfl | rfl | rfl | rfl | rfl | rfl | rfl | rfl | rfl | rfl | rfl | rfl | rfl | rfl | rfl | rfl | rfl
    · exact hi.rpush _
    · exact hi.rpush _
    · exact ⟨h.frame, h.over, h.win⟩
    · exact hp2.rpush _
    · exact hp2.rpush _
    · exact hp2.rpush _
    · exact hp2.rpush _
    · exact hp2.rpush _
    · exact hp2.rpush _
    · exact hp2.rpush _
    · exact hp2.rpush _
    · exact hp.rpush _
    · exact (hp.rpush _).rpush _
    · exact (hp2.rpush _).rpush _
    · exact hp
    · exact hi.rpush _
    · exact hi.rpush _
    · exact ⟨h.frame, h.over, h.win⟩
    · show Kp s (rzero (incR r) arg)
      unfold rzero
      split <;> exact ⟨h.frame, h.over, h.win⟩
    · exact ⟨h.frame, h.over, h.win⟩
    · exact Kp.rpush (r := ⟨r.st.wSeed (mixS r.st.seed), r.i0, r.i1, r.sk, r.pc + 1, r.won, r.bad⟩) ⟨h.frame, h.over, h.win⟩ _
    exact hi
  have e : rdoK op arg r = incR r := by
    unfold rdoK
    iterate 21 rw [if_neg (by omega)]
  rw [e]; exact hi
theorem badE {s : Sta} {cap : Int} {r : Rac} (hk : Kp s r) (hb : r.bad = true) (hw : s.win = 0) (ho : s.over = false) (hc : s.frame < cap) : refE cap (undoR s r) = endS cap s := by
  have e : undoR s r = ⟨s, r.i0, r.i1, r.sk, r.pc, -1, r.bad⟩ := by
    unfold undoR
    rw [if_pos hb]
    congr 1
    exact Sta.ext' hk.frame rfl rfl hk.over hk.win
  rw [e]
  unfold refE endS winS
  rw [if_neg (show ¬ (0 : Int) ≤ -1 by omega)]
  simp only
  by_cases h1 : s.frame + 1 = cap
  · have hA : cap ≤ s.frame + 1 ∧ s.over = false := ⟨by omega, ho⟩
    rw [if_pos h1, if_pos hA]
    by_cases h2 : s.cells.getD 0 0 = s.cells.getD 1 0
    · rw [if_pos h2, if_neg (by omega), if_neg (by omega)]
    rw [if_neg h2]
    by_cases h3 : s.cells.getD 0 0 < s.cells.getD 1 0
    · rw [if_pos h3, if_neg (by omega), if_pos h3]
    rw [if_neg h3, if_pos (by omega)]
    exact Sta.ext' rfl rfl rfl rfl hw
  rw [if_neg h1, if_neg (by omega)]
theorem okE {s : Sta} {cap : Int} {r : Rac} {m : Mac} (hr : r.bad = false) (hs : r.st = m.st) (hwn : r.won = -1) (hf : m.st.frame < cap) (hw : m.st.win = 0) (ho : m.st.over = false) : refE cap (undoR s r) = endS cap m.st := by
  have e : undoR s r = r := by unfold undoR; rw [if_neg (by rw [hr]; simp)]
  have := badE (s := m.st) (cap := cap) (r := ⟨m.st, r.i0, r.i1, r.sk, r.pc, -1, true⟩) ⟨rfl, rfl, rfl⟩ rfl hw ho hf
  rw [e, ← this]
  unfold undoR
  rw [if_pos rfl]
  unfold refE
  simp only [hs, hwn]
theorem doM_pc0 {n op arg : Int} {m : Mac} (h0 : 0 ≤ m.pc) (hm : mayP op arg n = true) : 0 ≤ (doM op arg m).pc := by
  obtain ⟨ho, _, _, _, h18, _⟩ := mayP_arg hm
  rcases op_cases ho with rfl | rfl | rfl | rfl | rfl | rfl | rfl | rfl | rfl | rfl | rfl | rfl | rfl | rfl | rfl | rfl | rfl | rfl | rfl | rfl | rfl | rfl
  all_goals first | exact h0 | exact (h18 (.inl rfl)).1 | skip
  rw [doM_19]
  unfold zero10
  split
  · exact (h18 (.inr rfl)).1
  exact h0
theorem run_eq {code : List (Int × Int)} {cap : Int} {s : Sta} (hc : (chkP code).2 = 0) (hso : s.over = false) (hsw : s.win = 0) (hsf : s.frame < cap) : ∀ (f : Nat) (m : Mac) (r : Rac), Rl m r → Kp s r → 0 ≤ m.pc →
    refE cap (undoR s (rrunM code f r)) = endS cap (if (runM code f m).1 = 0 then (runM code f m).2.st else s) := by
  have stop : ∀ (m : Mac) (r : Rac), Rl m r → Kp s r → refE cap (undoR s r) = endS cap m.st := by
    intro m r h hk
    exact okE h.rb h.st h.won (by rw [← h.st, hk.frame]; exact hsf) (by rw [← h.st, hk.win]; exact hsw) (by rw [← h.st, hk.over]; exact hso)
  intro f
  induction f with
  | zero =>
    intro m r h hk h0
    have hpc := h.pc
    by_cases hp : m.pc < code.length
    · have e1 : runM code 0 m = (10, m) := if_pos ⟨hp, h.en⟩
      have e2 : rrunM code 0 r = badR r := if_pos (by rw [hpc]; exact hp)
      rw [e1, e2, if_neg (show ¬ ((10, m) : Int × Mac).1 = 0 by simp)]
      exact badE ⟨hk.frame, hk.over, hk.win⟩ rfl hsw hso hsf
    have e1 : runM code 0 m = (0, m) := if_neg (fun h => hp h.1)
    have e2 : rrunM code 0 r = r := if_neg (by rw [hpc]; exact hp)
    rw [e1, e2, if_pos rfl]
    exact stop m r h hk
  | succ f ih =>
    intro m r h hk h0
    have hpc := h.pc
    by_cases hp : m.pc < code.length
    · have e1 : runM code (f + 1) m = (if (doM (gi code m.pc.toNat).1 (gi code m.pc.toNat).2 (incM m)).bad = true then (11, doM (gi code m.pc.toNat).1 (gi code m.pc.toNat).2 (incM m))
          else runM code f (doM (gi code m.pc.toNat).1 (gi code m.pc.toNat).2 (incM m))) := if_pos ⟨hp, h.en⟩
      have e2 : rrunM code (f + 1) r = (if rdoB (gi code m.pc.toNat).1 (gi code m.pc.toNat).2 code.length r = true then rrunM code f (rdoM (gi code m.pc.toNat).1 (gi code m.pc.toNat).2 r) else rdoM (gi code m.pc.toNat).1 (gi code m.pc.toNat).2 r) := by
        rw [← hpc]
        exact if_pos (by rw [hpc]; exact hp)
      rw [e1, e2]
      clear e1 e2
      have hmay := chk_all hc (i := m.pc.toNat) (by omega)
      generalize (gi code m.pc.toNat).1 = op at hmay ⊢
      generalize (gi code m.pc.toNat).2 = arg at hmay ⊢
      have hk' := hk.do op arg
      rcases do_both h hmay with ⟨a, b, c⟩ | ⟨a, b, c⟩ | ⟨ho, hb, he, hst, a, b, c, d⟩ | ⟨ho, hb, he, hst, a, b, c, d⟩
      · have hc2 : ¬ rdoB op arg code.length r = true := by rw [c]; simp
        rw [if_neg hc2, if_pos a, if_neg (show ¬ ((11, doM op arg (incM m)) : Int × Mac).1 = 0 by simp)]
        exact badE hk' b hsw hso hsf
      · rw [if_neg (show ¬ (doM op arg (incM m)).bad = true by rw [a.mb]; simp)]
        by_cases hq : (doM op arg (incM m)).pc < code.length
        · have hb2 : rdoB op arg code.length r = true := by rw [b]; exact decide_eq_true hq
          rw [if_pos hb2]
          exact ih _ _ a hk' (doM_pc0 (by show 0 ≤ m.pc + 1; omega) hmay)
        have hb2 : ¬ rdoB op arg code.length r = true := by rw [b]; simp; omega
        rw [if_neg hb2, stop _ _ a hk']
        have e : runM code f (doM op arg (incM m)) = (0, doM op arg (incM m)) := by
          cases f <;> exact if_neg (fun h => hq h.1)
        rw [e, if_pos rfl]
      · have hd2 : ¬ rdoB op arg code.length r = true := by rw [d]; simp
        have hb2 : ¬ (doM op arg (incM m)).bad = true := by rw [hb]; simp
        rw [if_neg hd2, if_neg hb2]
        have e : runM code f (doM op arg (incM m)) = (0, doM op arg (incM m)) := by
          cases f <;> exact if_neg (fun h => by rw [he] at h; cases h.2)
        rw [e, if_pos rfl, hst]
        have e2 : undoR s (rdoM op arg r) = rdoM op arg r := by unfold undoR; rw [if_neg (by rw [c]; simp)]
        rw [e2]
        obtain ⟨_, _, _, _, _, h20⟩ := mayP_arg hmay
        unfold refE endS
        rw [b, if_pos (h20 ho).1, if_neg (by rintro ⟨_, h⟩; cases h), a]
        rfl
      have hd2 : ¬ rdoB op arg code.length r = true := by rw [d]; simp
      have hb2 : ¬ (doM op arg (incM m)).bad = true := by rw [hb]; simp
      rw [if_neg hd2, if_neg hb2]
      have e : runM code f (doM op arg (incM m)) = (0, doM op arg (incM m)) := by
        cases f <;> exact if_neg (fun h => by rw [he] at h; cases h.2)
      rw [e, if_pos rfl]
      exact okE c (by rw [a, hst]) b (by rw [hst, ← h.st, hk.frame]; exact hsf) (by rw [hst, ← h.st, hk.win]; exact hsw) (by rw [hst, ← h.st, hk.over]; exact hso)
    have e1 : runM code (f + 1) m = (0, m) := if_neg (fun h => hp h.1)
    have e2 : rrunM code (f + 1) r = r := if_neg (by rw [hpc]; exact hp)
    rw [e1, e2, if_pos rfl]
    exact stop m r h hk
theorem step_eq {code : List (Int × Int)} {cap : Int} {fuel : Nat} {s : Sta} {i0 i1 : UInt16} (hc : (chkP code).2 = 0) (hso : s.over = false) (hsw : s.win = 0) (hsf : s.frame < cap) : rstepM code cap fuel s i0 i1 = stepM code cap fuel s i0 i1 :=
  run_eq hc hso hsw hsf fuel (mac0 s i0 i1) (rac0 s i0 i1) ⟨rfl, rfl, rfl, rfl, rfl, rfl, rfl, rfl, rfl⟩ ⟨rfl, rfl, rfl⟩ (by show (0 : Int) ≤ 0; omega)
end
end Go.Proofs.YtamcjecgkfmjkaaGreat
