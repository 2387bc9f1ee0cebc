/- Chapter 13 in the logic: the ring. -/
import Derived.Test.YtfjcflmhboepmaaF13e
open Go Go.RowKit
namespace Go.Proofs.Ytfjcflmhboepmaa
set_option linter.unusedSimpArgs false
set_option linter.unusedVariables false
structure Rg where
  n : Nat
  lo : Int
  hi : Int
  ss : List Sta
/-- a ring in its boxes -/
abbrev rgH (i j : Id) (g : Rg) : List (Id × List C) := [(i, [.row j 0 g.n g.n, .val (.int .i64 g.lo), .val (.int .i64 g.hi)]), (j, (sds g.ss).map D.toC)]
structure Rg.ok (g : Rg) : Prop where
  n1 : 1 ≤ g.n
  n2 : g.n ≤ 256
  len : g.ss.length = g.n
  hi0 : -1 ≤ g.hi
  hi1 : g.hi ≤ 600
  lo0 : -1 ≤ g.lo
  lo1 : g.lo ≤ g.hi
  lo2 : 0 ≤ g.hi → 0 ≤ g.lo
def Rg.getE (g : Rg) (f : Int) : Bool := !(decide (g.hi < 0) || decide (f < g.lo) || decide (g.hi < f))
def Rg.at (g : Rg) (f : Int) : Sta := g.ss.getD (f.toNat % g.n) (stz 0 0)
def Rg.get (g : Rg) (f : Int) : Sta := if g.getE f then g.at f else stz 0 0
theorem tmod_toNat {a : Int} {n : Nat} (h : 0 ≤ a) : a.tmod (n : Int) = ((a.toNat % n : Nat) : Int) := by
  obtain ⟨m, rfl⟩ := Int.eq_ofNat_of_zero_le h
  simp [Int.tmod]
theorem frames_h (g : Rg) (hg : g.ok) : Holds Try.prog 43 [.ptr (.arg 0) 0] (rgH (.arg 0) (.arg 1) g) (fun r h' => r = .tup [.int .i64 g.lo, .int .i64 g.hi] ∧ h' = rgH (.arg 0) (.arg 1) g) := by
  have h1 := hg.n1
  refine holds_of_awp Try.func43 rfl (by decide +kernel) mixed Try.ntmps43 Try.results43 ?_
  simp only [entrySt, List.map_cons, List.map_nil, List.length_cons, List.length_nil, Nat.reduceAdd, Nat.reduceSub, List.replicate_succ, List.replicate_zero, List.cons_append, List.nil_append]
  (simp (maxSteps := 2000000) (disch := omega) only [go_sem, true_and, and_true, Nat.reduceAdd, Nat.reduceSub, Nat.reduceMul, Nat.reduceBEq, Nat.reduceEqDiff, Nat.reduceLT, Nat.reduceLeDiff, Nat.reduceDiv, reduceIte, Nat.zero_add, Nat.add_zero, Int.toNat_natCast, Option.some.injEq, exists_eq_left', reduceCtorEq, Int.natCast_add, Int.natCast_mul, Int.cast_ofNat_Int, List.replicate_succ, List.replicate_zero, List.cons_append, List.nil_append]; repeat (with_reducible refine a_apA ?_; simp (maxSteps := 2000000) (disch := omega) only [go_sem, true_and, and_true, Nat.reduceAdd, Nat.reduceSub, Nat.reduceMul, Nat.reduceBEq, Nat.reduceEqDiff, Nat.reduceLT, Nat.reduceLeDiff, Nat.reduceDiv, reduceIte, Nat.zero_add, Nat.add_zero, Int.toNat_natCast, Option.some.injEq, exists_eq_left', reduceCtorEq, Int.natCast_add, Int.natCast_mul, Int.cast_ofNat_Int, List.replicate_succ, List.replicate_zero, List.cons_append, List.nil_append]))
  refine c_dec (fun h => absurd h (by omega)) (fun h => ?_)
  refine a_quiet (by kernel_rfl) (by kernel_rfl) (by kernel_rfl) ?_
  (simp (maxSteps := 2000000) (disch := omega) only [go_sem, true_and, and_true, Nat.reduceAdd, Nat.reduceSub, Nat.reduceMul, Nat.reduceBEq, Nat.reduceEqDiff, Nat.reduceLT, Nat.reduceLeDiff, Nat.reduceDiv, reduceIte, Nat.zero_add, Nat.add_zero, Int.toNat_natCast, Option.some.injEq, exists_eq_left', reduceCtorEq, Int.natCast_add, Int.natCast_mul, Int.cast_ofNat_Int, List.replicate_succ, List.replicate_zero, List.cons_append, List.nil_append]; repeat (with_reducible refine a_apA ?_; simp (maxSteps := 2000000) (disch := omega) only [go_sem, true_and, and_true, Nat.reduceAdd, Nat.reduceSub, Nat.reduceMul, Nat.reduceBEq, Nat.reduceEqDiff, Nat.reduceLT, Nat.reduceLeDiff, Nat.reduceDiv, reduceIte, Nat.zero_add, Nat.add_zero, Int.toNat_natCast, Option.some.injEq, exists_eq_left', reduceCtorEq, Int.natCast_add, Int.natCast_mul, Int.cast_ofNat_Int, List.replicate_succ, List.replicate_zero, List.cons_append, List.nil_append]))
theorem get_h (g : Rg) (hg : g.ok) (f : Int) : Holds Try.prog 47 [.ptr (.arg 0) 0, .int .i64 f] (rgH (.arg 0) (.arg 1) g) (fun r h' => r = .tup [.agg ((sd (g.get f)).map D.toC), .c (.val (.bool (g.getE f)))] ∧ h' = rgH (.arg 0) (.arg 1) g) := by
  have h1 := hg.n1
  have h2 := hg.len
  have h3 := hg.lo2
  refine holds_of_awp Try.func47 rfl (by decide +kernel) mixed Try.ntmps47 Try.results47 ?_
  simp only [entrySt, List.map_cons, List.map_nil, List.length_cons, List.length_nil, Nat.reduceAdd, Nat.reduceSub, List.replicate_succ, List.replicate_zero, List.cons_append, List.nil_append]
  unfold Rg.get
  cases he : g.getE f
  · have he' := he
    unfold Rg.getE at he'
    simp only [Bool.false_eq_true, if_false]
    cases e1 : decide (g.hi < 0)
    · cases e2 : decide (f < g.lo)
      · have e3 : decide (g.hi < f) = true := by simpa [e1, e2] using he'
        simp (maxSteps := 2000000) (disch := omega) only [go_sem, true_and, and_true, Nat.reduceAdd, Nat.reduceSub, Nat.reduceMul, Nat.reduceBEq, Nat.reduceEqDiff, Nat.reduceLT, Nat.reduceLeDiff, Nat.reduceDiv, reduceIte, Nat.zero_add, Nat.add_zero, Int.toNat_natCast, Option.some.injEq, exists_eq_left', reduceCtorEq, Int.natCast_add, Int.natCast_mul, Int.cast_ofNat_Int, List.replicate_succ, List.replicate_zero, List.cons_append, List.nil_append, e1, e2, e3]
      · simp (maxSteps := 2000000) (disch := omega) only [go_sem, true_and, and_true, Nat.reduceAdd, Nat.reduceSub, Nat.reduceMul, Nat.reduceBEq, Nat.reduceEqDiff, Nat.reduceLT, Nat.reduceLeDiff, Nat.reduceDiv, reduceIte, Nat.zero_add, Nat.add_zero, Int.toNat_natCast, Option.some.injEq, exists_eq_left', reduceCtorEq, Int.natCast_add, Int.natCast_mul, Int.cast_ofNat_Int, List.replicate_succ, List.replicate_zero, List.cons_append, List.nil_append, e1, e2]
    · simp (maxSteps := 2000000) (disch := omega) only [go_sem, true_and, and_true, Nat.reduceAdd, Nat.reduceSub, Nat.reduceMul, Nat.reduceBEq, Nat.reduceEqDiff, Nat.reduceLT, Nat.reduceLeDiff, Nat.reduceDiv, reduceIte, Nat.zero_add, Nat.add_zero, Int.toNat_natCast, Option.some.injEq, exists_eq_left', reduceCtorEq, Int.natCast_add, Int.natCast_mul, Int.cast_ofNat_Int, List.replicate_succ, List.replicate_zero, List.cons_append, List.nil_append, e1]
  · have he' := he
    unfold Rg.getE at he'
    simp only [if_true]
    simp only [Bool.not_eq_true', Bool.or_eq_false_iff] at he'
    obtain ⟨⟨e1, e2⟩, e3⟩ := he'
    have e1' := of_decide_eq_false e1
    have e2' := of_decide_eq_false e2
    have hf : 0 ≤ f := by omega
    have hm : f.toNat % g.n < g.n := Nat.mod_lt _ (by omega)
    simp (maxSteps := 2000000) (disch := omega) only [go_sem, true_and, and_true, Nat.reduceAdd, Nat.reduceSub, Nat.reduceMul, Nat.reduceBEq, Nat.reduceEqDiff, Nat.reduceLT, Nat.reduceLeDiff, Nat.reduceDiv, reduceIte, Nat.zero_add, Nat.add_zero, Int.toNat_natCast, Option.some.injEq, exists_eq_left', reduceCtorEq, Int.natCast_add, Int.natCast_mul, Int.cast_ofNat_Int, List.replicate_succ, List.replicate_zero, List.cons_append, List.nil_append, e1, e2, e3]
    refine a_draw (.take 0 (.take 1 (.take 2 (.take 4 (.take 5 (.take 6 (.take 7 (.both [(3, .both [(8, .take 9 (.take 10 (.take 11 (.both [(12, .both [(13, .take 14 (.done))])]))))]), (8, .take 9 (.take 10 (.both [(3, .take 11 (.both [(12, .both [(13, .take 14 (.done))])]))])))])))))))) (by kernel_rfl) (by kernel_rfl) ?_
    simp (maxSteps := 2000000) (disch := omega) only [go_sem, true_and, and_true, Nat.reduceAdd, Nat.reduceSub, Nat.reduceMul, Nat.reduceBEq, Nat.reduceEqDiff, Nat.reduceLT, Nat.reduceLeDiff, Nat.reduceDiv, reduceIte, Nat.zero_add, Nat.add_zero, Int.toNat_natCast, Option.some.injEq, exists_eq_left', reduceCtorEq, Int.natCast_add, Int.natCast_mul, Int.cast_ofNat_Int, List.replicate_succ, List.replicate_zero, List.cons_append, List.nil_append, tmod_toNat]
    refine ⟨by omega, ?_⟩
    exact leCs_refl _
end Go.Proofs.Ytfjcflmhboepmaa
