/- Parts of a proof: Chapter 18: an event is taken. (written by gen18h.py), Chapter 18: who is waited for, Chapter 18: how a match goes on, input by input, Chapter 18: a match that has begun, The law ContestEnds in the logic, The law ContestEnds in the logic: the walk, The row of the law gauntletlaw18.ContestEnds. -/
import Derived.Test.YtamcjecgkfmjkaaMEn5
import Derived.Test.YtamcjecgkfmjkaaMEn4
/- Chapter 18: an event is taken. (written by gen18h.py) -/
open Go Go.RowKit
namespace Go.Proofs.Ytamcjecgkfmjkaa
set_option linter.unusedSimpArgs false
set_option linter.unusedVariables false
@[go_sem 1200] theorem evs_app {l : List Ev} {a b c d f : Int} {x : UInt16} : evs l ++ [.val (.int .i64 a), .val (.int .i64 b), .val (.int .i64 c), .val (.int .i64 d), .val (.int .u16 (U16 x)), .val (.int .i64 f)] = evs (l ++ [⟨a, b, c, d, x, f⟩]) := by
  simp [evs, evD]
def Ct.add (c : Ct) (e : Ev) : Ct := { c with events := c.events ++ [e] }
theorem applyN1_h (c : Ct) (player other frame n : Int) (inp : UInt16) (hm : mayP18 c ⟨1, player, other, frame, inp, n⟩ ≠ 0) : Holds Try.prog 13 [.ptr (.arg 0) 0, .ev ⟨1, player, other, frame, inp, n⟩] [(.arg 0, ctB (.arg 0) c)] (fun r h' => r = .int .i64 (mayP18 c ⟨1, player, other, frame, inp, n⟩) ∧ h' = [(.arg 0, ctB (.arg 0) c)]) := by
  refine holds_of_awp Try.func13 rfl (by decide +kernel) mixed Try.ntmps13 Try.results13 ?_
  simp only [entrySt, List.map_cons, List.map_nil, List.length_cons, List.length_nil, Nat.reduceAdd, Nat.reduceSub, List.replicate_succ, List.replicate_zero, List.cons_append, List.nil_append]
  (refine zs ?_; try exact trivial)
  refine a_call [.arg 0] (may1_h c player other frame n inp) (ok1 rfl) ?_ ?_ ?_
  · (refine zs ?_; try exact trivial)
  · (refine zs ?_; try exact trivial)
  rintro _ _ ⟨rfl, rfl⟩
  (refine zs ?_; try exact trivial)
  refine c_dec (fun h => ?_) (fun h => ?_)
  · (refine zs ?_; try exact trivial)
  · exact (h hm).elim
set_option maxHeartbeats 4000000 in
theorem applyY1_h (c c' : Ct) (player other frame n : Int) (inp : UInt16) (hm : mayP18 c ⟨1, player, other, frame, inp, n⟩ = 0) (hl : c'.events.length ≤ 1000000)
    (hd : Holds Try.prog 37 [.ptr (.arg 0) 0, .ev ⟨1, player, other, frame, inp, n⟩] [(.arg 0, ctB (.arg 0) c)] (fun r h' => r = .tup [] ∧ h' = [(.arg 0, ctB (.arg 0) c')])) :
    Holds Try.prog 13 [.ptr (.arg 0) 0, .ev ⟨1, player, other, frame, inp, n⟩] [(.arg 0, ctB (.arg 0) c)] (fun r h' => r = .int .i64 0 ∧ h' = [(.arg 0, ctB (.arg 0) (c'.add ⟨1, player, other, frame, inp, n⟩))]) := by
  refine holds_of_awp Try.func13 rfl (by decide +kernel) mixed Try.ntmps13 Try.results13 ?_
  simp only [entrySt, List.map_cons, List.map_nil, List.length_cons, List.length_nil, Nat.reduceAdd, Nat.reduceSub, List.replicate_succ, List.replicate_zero, List.cons_append, List.nil_append]
  (refine zs ?_; try exact trivial)
  refine a_call [.arg 0] (may1_h c player other frame n inp) (ok1 rfl) ?_ ?_ ?_
  · (refine zs ?_; try exact trivial)
  · (refine zs ?_; try exact trivial)
  rintro _ _ ⟨rfl, rfl⟩
  rw [hm]
  (refine zc ?_; try exact trivial)
  refine a_drawC (⟨[V.cell (.ptr (.arg 0) 0), .undef, .undef, V.cell (.ptr (.loc [3]) 0), .undef, .undef, .undef, .undef, .undef, .undef, .undef, .undef, .undef, .undef, .undef, .undef, .undef, .undef, .undef, .undef, .undef, .undef, .undef, .undef, .undef, .undef, .undef, .undef, .undef, .undef], [(.loc [3], evC ⟨1, player, other, frame, inp, n⟩), (.arg 0, ctB (.arg 0) c')]⟩) (.take 1 (.take 5 (.both [(0, .both [(2, .take 3 (.take 4 (.both [(6, .both [(7, .done)])]))), (6, .both [(2, .take 3 (.take 4 (.both [(7, .done)])))])]), (2, .both [(0, .take 3 (.take 4 (.both [(6, .both [(7, .done)])]))), (6, .both [(0, .take 3 (.take 4 (.both [(7, .done)])))])]), (6, .both [(0, .both [(2, .take 3 (.take 4 (.both [(7, .done)])))]), (2, .both [(0, .take 3 (.take 4 (.both [(7, .done)])))])])]))) (by kernel_rfl) (by kernel_rfl) ?_ ?_
  · (refine zc ?_; try exact trivial)
    repeat' (with_reducible apply And.intro)
    all_goals (
      refine a_call [] (hows_h) ok0 ?_ ?_ ?_
      · (refine zs ?_; try exact trivial)
      · (refine zs ?_; try exact trivial)
      rintro _ _ ⟨rfl, rfl⟩
      (refine zc ?_; try exact trivial)
      refine a_call [.arg 0] (hd) (ok1 rfl) ?_ ?_ ?_
      · (refine zs ?_; try exact trivial)
      · (refine zs ?_; try exact trivial)
      rintro _ _ ⟨rfl, rfl⟩
      (refine zc ?_; try exact trivial))
  · (refine zc ?_; try exact trivial)
    refine a_drawC (⟨[.undef, .undef, .undef, .undef, .undef, .undef, .undef, .undef, .undef, .undef, .undef, .undef, .undef, .undef, .undef, .undef, .undef, .undef, .undef, .undef, .undef, .undef, .undef, .undef, .undef, .undef, .undef, .undef, .undef, .undef], [(.arg 0, ctB (.arg 0) (c'.add ⟨1, player, other, frame, inp, n⟩))]⟩) (.take 0 (.take 1 (.take 2 (.take 3 (.both [(4, .both [(5, .both [(6, .both [(7, .take 8 (.take 9 (.both [(10, .done)])))])])]), (5, .both [(4, .both [(6, .both [(7, .take 8 (.take 9 (.both [(10, .done)])))])]), (6, .both [(4, .both [(7, .take 8 (.take 9 (.both [(10, .done)])))])])])]))))) (by kernel_rfl) (by kernel_rfl) ?_ ?_
    · (refine zc ?_; try exact trivial)
      repeat' (with_reducible apply And.intro)
      all_goals first | omega | exact leCs_refl _
    · (refine zc ?_; try exact trivial)
theorem applyN2_h (c : Ct) (player other frame n : Int) (inp : UInt16) (hm : mayP18 c ⟨2, player, other, frame, inp, n⟩ ≠ 0) : Holds Try.prog 13 [.ptr (.arg 0) 0, .ev ⟨2, player, other, frame, inp, n⟩] [(.arg 0, ctB (.arg 0) c)] (fun r h' => r = .int .i64 (mayP18 c ⟨2, player, other, frame, inp, n⟩) ∧ h' = [(.arg 0, ctB (.arg 0) c)]) := by
  refine holds_of_awp Try.func13 rfl (by decide +kernel) mixed Try.ntmps13 Try.results13 ?_
  simp only [entrySt, List.map_cons, List.map_nil, List.length_cons, List.length_nil, Nat.reduceAdd, Nat.reduceSub, List.replicate_succ, List.replicate_zero, List.cons_append, List.nil_append]
  (refine zs ?_; try exact trivial)
  refine a_call [.arg 0] (may2_h c player other frame n inp) (ok1 rfl) ?_ ?_ ?_
  · (refine zs ?_; try exact trivial)
  · (refine zs ?_; try exact trivial)
  rintro _ _ ⟨rfl, rfl⟩
  (refine zs ?_; try exact trivial)
  refine c_dec (fun h => ?_) (fun h => ?_)
  · (refine zs ?_; try exact trivial)
  · exact (h hm).elim
set_option maxHeartbeats 4000000 in
theorem applyY2_h (c c' : Ct) (player other frame n : Int) (inp : UInt16) (hm : mayP18 c ⟨2, player, other, frame, inp, n⟩ = 0) (hl : c'.events.length ≤ 1000000)
    (hd : Holds Try.prog 40 [.ptr (.arg 0) 0, .ev ⟨2, player, other, frame, inp, n⟩] [(.arg 0, ctB (.arg 0) c)] (fun r h' => r = .tup [] ∧ h' = [(.arg 0, ctB (.arg 0) c')])) :
    Holds Try.prog 13 [.ptr (.arg 0) 0, .ev ⟨2, player, other, frame, inp, n⟩] [(.arg 0, ctB (.arg 0) c)] (fun r h' => r = .int .i64 0 ∧ h' = [(.arg 0, ctB (.arg 0) (c'.add ⟨2, player, other, frame, inp, n⟩))]) := by
  refine holds_of_awp Try.func13 rfl (by decide +kernel) mixed Try.ntmps13 Try.results13 ?_
  simp only [entrySt, List.map_cons, List.map_nil, List.length_cons, List.length_nil, Nat.reduceAdd, Nat.reduceSub, List.replicate_succ, List.replicate_zero, List.cons_append, List.nil_append]
  (refine zs ?_; try exact trivial)
  refine a_call [.arg 0] (may2_h c player other frame n inp) (ok1 rfl) ?_ ?_ ?_
  · (refine zs ?_; try exact trivial)
  · (refine zs ?_; try exact trivial)
  rintro _ _ ⟨rfl, rfl⟩
  rw [hm]
  (refine zc ?_; try exact trivial)
  refine a_drawC (⟨[V.cell (.ptr (.arg 0) 0), .undef, .undef, V.cell (.ptr (.loc [3]) 0), .undef, .undef, .undef, .undef, .undef, .undef, .undef, .undef, .undef, .undef, .undef, .undef, .undef, .undef, .undef, .undef, .undef, .undef, .undef, .undef, .undef, .undef, .undef, .undef, .undef, .undef], [(.loc [3], evC ⟨2, player, other, frame, inp, n⟩), (.arg 0, ctB (.arg 0) c')]⟩) (.take 1 (.take 5 (.both [(0, .both [(2, .take 3 (.take 4 (.both [(6, .both [(7, .done)])]))), (6, .both [(2, .take 3 (.take 4 (.both [(7, .done)])))])]), (2, .both [(0, .take 3 (.take 4 (.both [(6, .both [(7, .done)])]))), (6, .both [(0, .take 3 (.take 4 (.both [(7, .done)])))])]), (6, .both [(0, .both [(2, .take 3 (.take 4 (.both [(7, .done)])))]), (2, .both [(0, .take 3 (.take 4 (.both [(7, .done)])))])])]))) (by kernel_rfl) (by kernel_rfl) ?_ ?_
  · (refine zc ?_; try exact trivial)
    repeat' (with_reducible apply And.intro)
    all_goals (
      refine a_call [] (hows_h) ok0 ?_ ?_ ?_
      · (refine zs ?_; try exact trivial)
      · (refine zs ?_; try exact trivial)
      rintro _ _ ⟨rfl, rfl⟩
      (refine zc ?_; try exact trivial)
      refine a_call [.arg 0] (hd) (ok1 rfl) ?_ ?_ ?_
      · (refine zs ?_; try exact trivial)
      · (refine zs ?_; try exact trivial)
      rintro _ _ ⟨rfl, rfl⟩
      (refine zc ?_; try exact trivial))
  · (refine zc ?_; try exact trivial)
    refine a_drawC (⟨[.undef, .undef, .undef, .undef, .undef, .undef, .undef, .undef, .undef, .undef, .undef, .undef, .undef, .undef, .undef, .undef, .undef, .undef, .undef, .undef, .undef, .undef, .undef, .undef, .undef, .undef, .undef, .undef, .undef, .undef], [(.arg 0, ctB (.arg 0) (c'.add ⟨2, player, other, frame, inp, n⟩))]⟩) (.take 0 (.take 1 (.take 2 (.take 3 (.both [(4, .both [(5, .both [(6, .both [(7, .take 8 (.take 9 (.both [(10, .done)])))])])]), (5, .both [(4, .both [(6, .both [(7, .take 8 (.take 9 (.both [(10, .done)])))])]), (6, .both [(4, .both [(7, .take 8 (.take 9 (.both [(10, .done)])))])])])]))))) (by kernel_rfl) (by kernel_rfl) ?_ ?_
    · (refine zc ?_; try exact trivial)
      repeat' (with_reducible apply And.intro)
      all_goals first | omega | exact leCs_refl _
    · (refine zc ?_; try exact trivial)
theorem applyN3_h (c : Ct) (player other frame n : Int) (inp : UInt16) (h0 : c.in0.length ≤ 1000000) (h1 : c.in1.length ≤ 1000000) (hm : mayP18 c ⟨3, player, other, frame, inp, n⟩ ≠ 0) : Holds Try.prog 13 [.ptr (.arg 0) 0, .ev ⟨3, player, other, frame, inp, n⟩] [(.arg 0, ctB (.arg 0) c)] (fun r h' => r = .int .i64 (mayP18 c ⟨3, player, other, frame, inp, n⟩) ∧ h' = [(.arg 0, ctB (.arg 0) c)]) := by
  refine holds_of_awp Try.func13 rfl (by decide +kernel) mixed Try.ntmps13 Try.results13 ?_
  simp only [entrySt, List.map_cons, List.map_nil, List.length_cons, List.length_nil, Nat.reduceAdd, Nat.reduceSub, List.replicate_succ, List.replicate_zero, List.cons_append, List.nil_append]
  (refine zs ?_; try exact trivial)
  refine a_call [.arg 0] (may3_h c player other frame n inp h0 h1) (ok1 rfl) ?_ ?_ ?_
  · (refine zs ?_; try exact trivial)
  · (refine zs ?_; try exact trivial)
  rintro _ _ ⟨rfl, rfl⟩
  (refine zs ?_; try exact trivial)
  refine c_dec (fun h => ?_) (fun h => ?_)
  · (refine zs ?_; try exact trivial)
  · exact (h hm).elim
set_option maxHeartbeats 4000000 in
theorem applyY3_h (c c' : Ct) (player other frame n : Int) (inp : UInt16) (h0 : c.in0.length ≤ 1000000) (h1 : c.in1.length ≤ 1000000) (hm : mayP18 c ⟨3, player, other, frame, inp, n⟩ = 0) (hl : c'.events.length ≤ 1000000)
    (hd : Holds Try.prog 43 [.ptr (.arg 0) 0, .ev ⟨3, player, other, frame, inp, n⟩] [(.arg 0, ctB (.arg 0) c)] (fun r h' => r = .tup [] ∧ h' = [(.arg 0, ctB (.arg 0) c')])) :
    Holds Try.prog 13 [.ptr (.arg 0) 0, .ev ⟨3, player, other, frame, inp, n⟩] [(.arg 0, ctB (.arg 0) c)] (fun r h' => r = .int .i64 0 ∧ h' = [(.arg 0, ctB (.arg 0) (c'.add ⟨3, player, other, frame, inp, n⟩))]) := by
  refine holds_of_awp Try.func13 rfl (by decide +kernel) mixed Try.ntmps13 Try.results13 ?_
  simp only [entrySt, List.map_cons, List.map_nil, List.length_cons, List.length_nil, Nat.reduceAdd, Nat.reduceSub, List.replicate_succ, List.replicate_zero, List.cons_append, List.nil_append]
  (refine zs ?_; try exact trivial)
  refine a_call [.arg 0] (may3_h c player other frame n inp h0 h1) (ok1 rfl) ?_ ?_ ?_
  · (refine zs ?_; try exact trivial)
  · (refine zs ?_; try exact trivial)
  rintro _ _ ⟨rfl, rfl⟩
  rw [hm]
  (refine zc ?_; try exact trivial)
  refine a_drawC (⟨[V.cell (.ptr (.arg 0) 0), .undef, .undef, V.cell (.ptr (.loc [3]) 0), .undef, .undef, .undef, .undef, .undef, .undef, .undef, .undef, .undef, .undef, .undef, .undef, .undef, .undef, .undef, .undef, .undef, .undef, .undef, .undef, .undef, .undef, .undef, .undef, .undef, .undef], [(.loc [3], evC ⟨3, player, other, frame, inp, n⟩), (.arg 0, ctB (.arg 0) c')]⟩) (.take 1 (.take 5 (.both [(0, .both [(2, .take 3 (.take 4 (.both [(6, .both [(7, .done)])]))), (6, .both [(2, .take 3 (.take 4 (.both [(7, .done)])))])]), (2, .both [(0, .take 3 (.take 4 (.both [(6, .both [(7, .done)])]))), (6, .both [(0, .take 3 (.take 4 (.both [(7, .done)])))])]), (6, .both [(0, .both [(2, .take 3 (.take 4 (.both [(7, .done)])))]), (2, .both [(0, .take 3 (.take 4 (.both [(7, .done)])))])])]))) (by kernel_rfl) (by kernel_rfl) ?_ ?_
  · (refine zc ?_; try exact trivial)
    repeat' (with_reducible apply And.intro)
    all_goals (
      refine a_call [] (hows_h) ok0 ?_ ?_ ?_
      · (refine zs ?_; try exact trivial)
      · (refine zs ?_; try exact trivial)
      rintro _ _ ⟨rfl, rfl⟩
      (refine zc ?_; try exact trivial)
      refine a_call [.arg 0] (hd) (ok1 rfl) ?_ ?_ ?_
      · (refine zs ?_; try exact trivial)
      · (refine zs ?_; try exact trivial)
      rintro _ _ ⟨rfl, rfl⟩
      (refine zc ?_; try exact trivial))
  · (refine zc ?_; try exact trivial)
    refine a_drawC (⟨[.undef, .undef, .undef, .undef, .undef, .undef, .undef, .undef, .undef, .undef, .undef, .undef, .undef, .undef, .undef, .undef, .undef, .undef, .undef, .undef, .undef, .undef, .undef, .undef, .undef, .undef, .undef, .undef, .undef, .undef], [(.arg 0, ctB (.arg 0) (c'.add ⟨3, player, other, frame, inp, n⟩))]⟩) (.take 0 (.take 1 (.take 2 (.take 3 (.both [(4, .both [(5, .both [(6, .both [(7, .take 8 (.take 9 (.both [(10, .done)])))])])]), (5, .both [(4, .both [(6, .both [(7, .take 8 (.take 9 (.both [(10, .done)])))])]), (6, .both [(4, .both [(7, .take 8 (.take 9 (.both [(10, .done)])))])])])]))))) (by kernel_rfl) (by kernel_rfl) ?_ ?_
    · (refine zc ?_; try exact trivial)
      repeat' (with_reducible apply And.intro)
      all_goals first | omega | exact leCs_refl _
    · (refine zc ?_; try exact trivial)
theorem applyN4_h (c : Ct) (player other frame n : Int) (inp : UInt16) (hm : mayP18 c ⟨4, player, other, frame, inp, n⟩ ≠ 0) : Holds Try.prog 13 [.ptr (.arg 0) 0, .ev ⟨4, player, other, frame, inp, n⟩] [(.arg 0, ctB (.arg 0) c)] (fun r h' => r = .int .i64 (mayP18 c ⟨4, player, other, frame, inp, n⟩) ∧ h' = [(.arg 0, ctB (.arg 0) c)]) := by
  refine holds_of_awp Try.func13 rfl (by decide +kernel) mixed Try.ntmps13 Try.results13 ?_
  simp only [entrySt, List.map_cons, List.map_nil, List.length_cons, List.length_nil, Nat.reduceAdd, Nat.reduceSub, List.replicate_succ, List.replicate_zero, List.cons_append, List.nil_append]
  (refine zs ?_; try exact trivial)
  refine a_call [.arg 0] (may4_h c player other frame n inp) (ok1 rfl) ?_ ?_ ?_
  · (refine zs ?_; try exact trivial)
  · (refine zs ?_; try exact trivial)
  rintro _ _ ⟨rfl, rfl⟩
  (refine zs ?_; try exact trivial)
  refine c_dec (fun h => ?_) (fun h => ?_)
  · (refine zs ?_; try exact trivial)
  · exact (h hm).elim
set_option maxHeartbeats 4000000 in
theorem applyY4_h (c c' : Ct) (player other frame n : Int) (inp : UInt16) (hm : mayP18 c ⟨4, player, other, frame, inp, n⟩ = 0) (hl : c'.events.length ≤ 1000000)
    (hd : Holds Try.prog 46 [.ptr (.arg 0) 0, .ev ⟨4, player, other, frame, inp, n⟩] [(.arg 0, ctB (.arg 0) c)] (fun r h' => r = .tup [] ∧ h' = [(.arg 0, ctB (.arg 0) c')])) :
    Holds Try.prog 13 [.ptr (.arg 0) 0, .ev ⟨4, player, other, frame, inp, n⟩] [(.arg 0, ctB (.arg 0) c)] (fun r h' => r = .int .i64 0 ∧ h' = [(.arg 0, ctB (.arg 0) (c'.add ⟨4, player, other, frame, inp, n⟩))]) := by
  refine holds_of_awp Try.func13 rfl (by decide +kernel) mixed Try.ntmps13 Try.results13 ?_
  simp only [entrySt, List.map_cons, List.map_nil, List.length_cons, List.length_nil, Nat.reduceAdd, Nat.reduceSub, List.replicate_succ, List.replicate_zero, List.cons_append, List.nil_append]
  (refine zs ?_; try exact trivial)
  refine a_call [.arg 0] (may4_h c player other frame n inp) (ok1 rfl) ?_ ?_ ?_
  · (refine zs ?_; try exact trivial)
  · (refine zs ?_; try exact trivial)
  rintro _ _ ⟨rfl, rfl⟩
  rw [hm]
  (refine zc ?_; try exact trivial)
  refine a_drawC (⟨[V.cell (.ptr (.arg 0) 0), .undef, .undef, V.cell (.ptr (.loc [3]) 0), .undef, .undef, .undef, .undef, .undef, .undef, .undef, .undef, .undef, .undef, .undef, .undef, .undef, .undef, .undef, .undef, .undef, .undef, .undef, .undef, .undef, .undef, .undef, .undef, .undef, .undef], [(.loc [3], evC ⟨4, player, other, frame, inp, n⟩), (.arg 0, ctB (.arg 0) c')]⟩) (.take 1 (.take 5 (.both [(0, .both [(2, .take 3 (.take 4 (.both [(6, .both [(7, .done)])]))), (6, .both [(2, .take 3 (.take 4 (.both [(7, .done)])))])]), (2, .both [(0, .take 3 (.take 4 (.both [(6, .both [(7, .done)])]))), (6, .both [(0, .take 3 (.take 4 (.both [(7, .done)])))])]), (6, .both [(0, .both [(2, .take 3 (.take 4 (.both [(7, .done)])))]), (2, .both [(0, .take 3 (.take 4 (.both [(7, .done)])))])])]))) (by kernel_rfl) (by kernel_rfl) ?_ ?_
  · (refine zc ?_; try exact trivial)
    repeat' (with_reducible apply And.intro)
    all_goals (
      refine a_call [] (hows_h) ok0 ?_ ?_ ?_
      · (refine zs ?_; try exact trivial)
      · (refine zs ?_; try exact trivial)
      rintro _ _ ⟨rfl, rfl⟩
      (refine zc ?_; try exact trivial)
      refine a_call [.arg 0] (hd) (ok1 rfl) ?_ ?_ ?_
      · (refine zs ?_; try exact trivial)
      · (refine zs ?_; try exact trivial)
      rintro _ _ ⟨rfl, rfl⟩
      (refine zc ?_; try exact trivial))
  · (refine zc ?_; try exact trivial)
    refine a_drawC (⟨[.undef, .undef, .undef, .undef, .undef, .undef, .undef, .undef, .undef, .undef, .undef, .undef, .undef, .undef, .undef, .undef, .undef, .undef, .undef, .undef, .undef, .undef, .undef, .undef, .undef, .undef, .undef, .undef, .undef, .undef], [(.arg 0, ctB (.arg 0) (c'.add ⟨4, player, other, frame, inp, n⟩))]⟩) (.take 0 (.take 1 (.take 2 (.take 3 (.both [(4, .both [(5, .both [(6, .both [(7, .take 8 (.take 9 (.both [(10, .done)])))])])]), (5, .both [(4, .both [(6, .both [(7, .take 8 (.take 9 (.both [(10, .done)])))])]), (6, .both [(4, .both [(7, .take 8 (.take 9 (.both [(10, .done)])))])])])]))))) (by kernel_rfl) (by kernel_rfl) ?_ ?_
    · (refine zc ?_; try exact trivial)
      repeat' (with_reducible apply And.intro)
      all_goals first | omega | exact leCs_refl _
    · (refine zc ?_; try exact trivial)
theorem applyN5_h (c : Ct) (player other frame n : Int) (inp : UInt16) (hw : 0 ≤ c.st.win ∧ c.st.win ≤ 2) (hm : mayP18 c ⟨5, player, other, frame, inp, n⟩ ≠ 0) : Holds Try.prog 13 [.ptr (.arg 0) 0, .ev ⟨5, player, other, frame, inp, n⟩] [(.arg 0, ctB (.arg 0) c)] (fun r h' => r = .int .i64 (mayP18 c ⟨5, player, other, frame, inp, n⟩) ∧ h' = [(.arg 0, ctB (.arg 0) c)]) := by
  refine holds_of_awp Try.func13 rfl (by decide +kernel) mixed Try.ntmps13 Try.results13 ?_
  simp only [entrySt, List.map_cons, List.map_nil, List.length_cons, List.length_nil, Nat.reduceAdd, Nat.reduceSub, List.replicate_succ, List.replicate_zero, List.cons_append, List.nil_append]
  (refine zs ?_; try exact trivial)
  refine a_call [.arg 0] (may5_h c player other frame n inp hw) (ok1 rfl) ?_ ?_ ?_
  · (refine zs ?_; try exact trivial)
  · (refine zs ?_; try exact trivial)
  rintro _ _ ⟨rfl, rfl⟩
  (refine zs ?_; try exact trivial)
  refine c_dec (fun h => ?_) (fun h => ?_)
  · (refine zs ?_; try exact trivial)
  · exact (h hm).elim
set_option maxHeartbeats 4000000 in
theorem applyY5_h (c c' : Ct) (player other frame n : Int) (inp : UInt16) (hw : 0 ≤ c.st.win ∧ c.st.win ≤ 2) (hm : mayP18 c ⟨5, player, other, frame, inp, n⟩ = 0) (hl : c'.events.length ≤ 1000000)
    (hd : Holds Try.prog 49 [.ptr (.arg 0) 0, .ev ⟨5, player, other, frame, inp, n⟩] [(.arg 0, ctB (.arg 0) c)] (fun r h' => r = .tup [] ∧ h' = [(.arg 0, ctB (.arg 0) c')])) :
    Holds Try.prog 13 [.ptr (.arg 0) 0, .ev ⟨5, player, other, frame, inp, n⟩] [(.arg 0, ctB (.arg 0) c)] (fun r h' => r = .int .i64 0 ∧ h' = [(.arg 0, ctB (.arg 0) (c'.add ⟨5, player, other, frame, inp, n⟩))]) := by
  refine holds_of_awp Try.func13 rfl (by decide +kernel) mixed Try.ntmps13 Try.results13 ?_
  simp only [entrySt, List.map_cons, List.map_nil, List.length_cons, List.length_nil, Nat.reduceAdd, Nat.reduceSub, List.replicate_succ, List.replicate_zero, List.cons_append, List.nil_append]
  (refine zs ?_; try exact trivial)
  refine a_call [.arg 0] (may5_h c player other frame n inp hw) (ok1 rfl) ?_ ?_ ?_
  · (refine zs ?_; try exact trivial)
  · (refine zs ?_; try exact trivial)
  rintro _ _ ⟨rfl, rfl⟩
  rw [hm]
  (refine zc ?_; try exact trivial)
  refine a_drawC (⟨[V.cell (.ptr (.arg 0) 0), .undef, .undef, V.cell (.ptr (.loc [3]) 0), .undef, .undef, .undef, .undef, .undef, .undef, .undef, .undef, .undef, .undef, .undef, .undef, .undef, .undef, .undef, .undef, .undef, .undef, .undef, .undef, .undef, .undef, .undef, .undef, .undef, .undef], [(.loc [3], evC ⟨5, player, other, frame, inp, n⟩), (.arg 0, ctB (.arg 0) c')]⟩) (.take 1 (.take 5 (.both [(0, .both [(2, .take 3 (.take 4 (.both [(6, .both [(7, .done)])]))), (6, .both [(2, .take 3 (.take 4 (.both [(7, .done)])))])]), (2, .both [(0, .take 3 (.take 4 (.both [(6, .both [(7, .done)])]))), (6, .both [(0, .take 3 (.take 4 (.both [(7, .done)])))])]), (6, .both [(0, .both [(2, .take 3 (.take 4 (.both [(7, .done)])))]), (2, .both [(0, .take 3 (.take 4 (.both [(7, .done)])))])])]))) (by kernel_rfl) (by kernel_rfl) ?_ ?_
  · (refine zc ?_; try exact trivial)
    repeat' (with_reducible apply And.intro)
    all_goals (
      refine a_call [] (hows_h) ok0 ?_ ?_ ?_
      · (refine zs ?_; try exact trivial)
      · (refine zs ?_; try exact trivial)
      rintro _ _ ⟨rfl, rfl⟩
      (refine zc ?_; try exact trivial)
      refine a_call [.arg 0] (hd) (ok1 rfl) ?_ ?_ ?_
      · (refine zs ?_; try exact trivial)
      · (refine zs ?_; try exact trivial)
      rintro _ _ ⟨rfl, rfl⟩
      (refine zc ?_; try exact trivial))
  · (refine zc ?_; try exact trivial)
    refine a_drawC (⟨[.undef, .undef, .undef, .undef, .undef, .undef, .undef, .undef, .undef, .undef, .undef, .undef, .undef, .undef, .undef, .undef, .undef, .undef, .undef, .undef, .undef, .undef, .undef, .undef, .undef, .undef, .undef, .undef, .undef, .undef], [(.arg 0, ctB (.arg 0) (c'.add ⟨5, player, other, frame, inp, n⟩))]⟩) (.take 0 (.take 1 (.take 2 (.take 3 (.both [(4, .both [(5, .both [(6, .both [(7, .take 8 (.take 9 (.both [(10, .done)])))])])]), (5, .both [(4, .both [(6, .both [(7, .take 8 (.take 9 (.both [(10, .done)])))])]), (6, .both [(4, .both [(7, .take 8 (.take 9 (.both [(10, .done)])))])])])]))))) (by kernel_rfl) (by kernel_rfl) ?_ ?_
    · (refine zc ?_; try exact trivial)
      repeat' (with_reducible apply And.intro)
      all_goals first | omega | exact leCs_refl _
    · (refine zc ?_; try exact trivial)
end Go.Proofs.Ytamcjecgkfmjkaa

/- Chapter 18: who is waited for. -/
open Go Go.RowKit
namespace Go.Proofs.Ytamcjecgkfmjkaa
set_option linter.unusedSimpArgs false
set_option linter.unusedVariables false
@[go_sem] theorem l_no1 {sz : Nat} (h : 0 < sz) : leC (.lst .no none sz []) (.lst .full (some true) 1 []) = True := eq_true (by simp [leC, h])
def k18e1 : Ev := ⟨1, 7, 9, 0, 0, 0⟩
def k18e2 : Ev := ⟨3, 7, 0, 0, 0, 0⟩
def k18a : Ct := (openP (ctNew [] 5 5) k18e1).add k18e1
def k18b : Ct := (inputP0 k18a k18e2).add k18e2
theorem k18_g : gameP [] 5 5 = 0 := by decide
theorem k18_1 : mayP18 (ctNew [] 5 5) ⟨1, 7, 9, 0, 0, 0⟩ = 0 := by decide
theorem k18_2 : mayP18 k18a ⟨3, 7, 0, 0, 0, 0⟩ = 0 := by decide
theorem k18_3 : owesP k18b 7 = false := by decide
theorem k18_4 : owesP k18b 9 = true := by decide
theorem k18_5 : k18b.events.length = 2 := rfl
set_option maxRecDepth 20000 in
set_option maxHeartbeats 4000000 in
theorem known_h18 : Holds Try.prog 11 [] [] (fun r h' => r = V.bool true ∧ h' = []) := by
  have hA := applyY1_h (ctNew [] 5 5) (openP (ctNew [] 5 5) k18e1) 7 9 0 0 0 k18_1 (by decide) (open_h (ctNew [] 5 5) k18e1 (by decide))
  have hB := applyY3_h k18a (inputP0 k18a k18e2) 7 0 0 0 0 (by decide) (by decide) k18_2 (by decide) (input0_h k18a k18e2 (by decide) (by decide) (by decide) rfl rfl)
  have e1 : (openP (ctNew [] 5 5) k18e1).add ⟨1, 7, 9, 0, 0, 0⟩ = k18a := rfl
  have e2 : (inputP0 k18a k18e2).add ⟨3, 7, 0, 0, 0, 0⟩ = k18b := rfl
  have eO7 := k18_3
  have eO9 := k18_4
  have eL := k18_5
  rw [e1] at hA
  rw [e2] at hB
  have hn := new_ok18 [] 5 5 (by decide) k18_g
  generalize ctNew [] 5 5 = c0 at hA hn
  generalize k18a = c1 at hA hB
  generalize k18b = c2 at hB eO7 eO9 eL
  refine holds_of_awp Try.func11 rfl (by decide +kernel) mixed Try.ntmps11 Try.results11 ?_
  simp only [entrySt, List.map_cons, List.map_nil, List.length_cons, List.length_nil, Nat.reduceAdd, Nat.reduceSub, List.replicate_succ, List.replicate_zero, List.cons_append, List.nil_append]
  (refine zs ?_; try exact trivial)
  refine a_call [] (hn) ok0 ?_ ?_ ?_
  · (refine zs ?_; try exact trivial)
  · (refine zs ?_; try exact trivial)
  rintro _ _ ⟨rfl, rfl⟩
  (refine zc ?_; try exact trivial)
  refine a_call [.loc [5, 0, 14]] (hA) (ok1 rfl) ?_ ?_ ?_
  · (refine zs ?_; try exact trivial)
  · (refine zs ?_; try exact trivial)
  rintro _ _ ⟨rfl, rfl⟩
  (refine zc ?_; try exact trivial)
  refine a_call [.loc [5, 0, 14]] (hB) (ok1 rfl) ?_ ?_ ?_
  · (refine zs ?_; try exact trivial)
  · (refine zs ?_; try exact trivial)
  rintro _ _ ⟨rfl, rfl⟩
  (refine zc ?_; try exact trivial)
  refine a_call [.loc [5, 0, 14]] (owes_h c2 7) (ok1 rfl) ?_ ?_ ?_
  · (refine zs ?_; try exact trivial)
  · (refine zs ?_; try exact trivial)
  rintro _ _ ⟨rfl, rfl⟩
  simp (maxSteps := 2000000) (disch := omega) only [go_sem, Nat.reduceAdd, Nat.reduceSub, Nat.reduceMul, Nat.reduceBEq, Nat.reduceEqDiff, Nat.reduceLT, Nat.reduceLeDiff, Nat.reduceDiv, reduceIte, reduceCtorEq, eO7]
  refine a_call [.loc [5, 0, 14]] (owes_h c2 9) (ok1 rfl) ?_ ?_ ?_
  · (refine zs ?_; try exact trivial)
  · (refine zs ?_; try exact trivial)
  rintro _ _ ⟨rfl, rfl⟩
  simp (maxSteps := 2000000) (disch := omega) only [go_sem, Nat.reduceAdd, Nat.reduceSub, Nat.reduceMul, Nat.reduceBEq, Nat.reduceEqDiff, Nat.reduceLT, Nat.reduceLeDiff, Nat.reduceDiv, reduceIte, reduceCtorEq, eO9]
  refine a_call [.loc [5, 0, 14]] (events_h c2 (by omega)) (ok1 rfl) ?_ ?_ ?_
  · (refine zs ?_; try exact trivial)
  · (refine zs ?_; try exact trivial)
  rintro _ _ ⟨rfl, rfl⟩
  simp (maxSteps := 2000000) (disch := omega) only [go_sem, Nat.reduceAdd, Nat.reduceSub, Nat.reduceMul, Nat.reduceBEq, Nat.reduceEqDiff, Nat.reduceLT, Nat.reduceLeDiff, Nat.reduceDiv, reduceIte, reduceCtorEq, eL]
end Go.Proofs.Ytamcjecgkfmjkaa

/- Chapter 18: how a match goes on, input by input. -/
open Go Go.RowKit
namespace Go.Proofs.Ytamcjecgkfmjkaa
set_option linter.unusedSimpArgs false
set_option linter.unusedVariables false
/-- two players in a match that goes on, frame by frame -/
structure Go18 (code : List (Int × Int)) (cap fuel p0 p1 : Int) (i0 i1 : List UInt16) (ps : List (UInt16 × UInt16)) (st : Sta) (k : Nat) (c : Ct) : Prop where
  code : c.code = code
  cap : c.cap = cap
  fuel : c.fuel = fuel
  p0 : c.p0 = p0
  p1 : c.p1 = p1
  opn : c.opn = true
  over : c.over = false
  in0 : c.in0 = i0
  in1 : c.in1 = i1
  pairs : c.pairs = ps
  st : c.st = st
  ev : c.events.length = k
  l0 : c.l0 = 0
  l1 : c.l1 = 0
section
variable {code : List (Int × Int)} {cap fuel p0 p1 : Int} {i0 i1 : List UInt16} {ps : List (UInt16 × UInt16)} {st : Sta} {k : Nat} {c : Ct}
theorem Go18.seat0 (h : Go18 code cap fuel p0 p1 i0 i1 ps st k c) : seatP c p0 = 0 := by unfold seatP; rw [if_pos h.p0]
theorem Go18.seat1 (h : Go18 code cap fuel p0 p1 i0 i1 ps st k c) (hne : p0 ≠ p1) : seatP c p1 = 1 := by unfold seatP; rw [if_neg (by rw [h.p0]; exact hne), if_pos h.p1]
theorem Go18.act0 (h : Go18 code cap fuel p0 p1 i0 i1 ps st k c) (ho : st.over = false) : actP c p0 = 0 := by
  unfold actP; rw [h.opn, h.over, h.st, ho, h.seat0, if_neg (by simp), if_neg (by simp), if_neg (by omega)]
theorem Go18.act1 (h : Go18 code cap fuel p0 p1 i0 i1 ps st k c) (hne : p0 ≠ p1) (ho : st.over = false) : actP c p1 = 0 := by
  unfold actP; rw [h.opn, h.over, h.st, ho, h.seat1 hne, if_neg (by simp), if_neg (by simp), if_neg (by omega)]
theorem may_in (c : Ct) (p f : Int) (x : UInt16) : mayP18 c ⟨3, p, 0, f, x, 0⟩ = mayInputP c ⟨3, p, 0, f, x, 0⟩ := by
  unfold mayP18 may1P bareB; simp
theorem win_ok {cap : Int} {mine other : List UInt16} {p f : Int} {x : UInt16} (h0 : f = mine.length) (h1 : (mine.length : Int) < cap) (h2 : (mine.length : Int) - other.length < 8) : winP cap mine other ⟨3, p, 0, f, x, 0⟩ = 0 := by
  subst h0
  unfold winP
  rw [if_neg (by simp only; omega), if_neg (by simp only; omega), if_neg (by simp only; omega), if_neg (by simp only; omega)]
theorem win_far {cap : Int} {mine other : List UInt16} {p f : Int} {x : UInt16} (h0 : f = mine.length) (h1 : (mine.length : Int) < cap) (h2 : 8 ≤ (mine.length : Int) - other.length) : winP cap mine other ⟨3, p, 0, f, x, 0⟩ = 13 := by
  subst h0
  unfold winP
  rw [if_neg (by simp only; omega), if_neg (by simp only; omega), if_neg (by simp only; omega), if_pos (by simp only; omega)]
/-- the first player does something -/
theorem Go18.in_0 (h : Go18 code cap fuel p0 p1 i0 i1 ps st k c) (x : UInt16) (ev : Ev) (he : ev.player = p0) (hx : ev.inp = x) :
    Go18 code cap fuel p0 p1 (i0 ++ [x]) i1 (cuP code cap fuel (i0 ++ [x]) i1 (min (i0 ++ [x]).length i1.length - ps.length) ps st).1 (cuP code cap fuel (i0 ++ [x]) i1 (min (i0 ++ [x]).length i1.length - ps.length) ps st).2 (k + 1) ((inputP c ev).add ev) := by
  have hs : seatP c ev.player = 0 := by rw [he]; exact h.seat0
  have e0 : inputP0 c ev = { c with in0 := c.in0 ++ [ev.inp] } := by unfold inputP0; rw [if_pos hs]
  have e1 : inputP c ev = goP { c with in0 := c.in0 ++ [ev.inp] } := by unfold inputP; rw [e0]
  rw [e1]
  obtain ⟨h1, h2, h3, h4, h5, h6, h7, h8, h9, h10, h11, h12, h13, h14⟩ := h
  subst hx
  refine ⟨h1, h2, h3, h4, h5, h6, h7, ?_, h9, ?_, ?_, ?_, h13, h14⟩
  · show c.in0 ++ [ev.inp] = _; rw [h8]
  · unfold goP Ct.add; simp only [h1, h2, h3, h8, h9, h10, h11]
  · unfold goP Ct.add; simp only [h1, h2, h3, h8, h9, h10, h11]
  · show (c.events ++ [ev]).length = _; rw [List.length_append, h12]; rfl
theorem Go18.in_1 (h : Go18 code cap fuel p0 p1 i0 i1 ps st k c) (hne : p0 ≠ p1) (x : UInt16) (ev : Ev) (he : ev.player = p1) (hx : ev.inp = x) :
    Go18 code cap fuel p0 p1 i0 (i1 ++ [x]) (cuP code cap fuel i0 (i1 ++ [x]) (min i0.length (i1 ++ [x]).length - ps.length) ps st).1 (cuP code cap fuel i0 (i1 ++ [x]) (min i0.length (i1 ++ [x]).length - ps.length) ps st).2 (k + 1) ((inputP c ev).add ev) := by
  have hs : seatP c ev.player = 1 := by rw [he]; exact h.seat1 hne
  have e0 : inputP0 c ev = { c with in1 := c.in1 ++ [ev.inp] } := by unfold inputP0; rw [if_neg (by omega)]
  have e1 : inputP c ev = goP { c with in1 := c.in1 ++ [ev.inp] } := by unfold inputP; rw [e0]
  rw [e1]
  obtain ⟨h1, h2, h3, h4, h5, h6, h7, h8, h9, h10, h11, h12, h13, h14⟩ := h
  subst hx
  refine ⟨h1, h2, h3, h4, h5, h6, h7, h8, ?_, ?_, ?_, ?_, h13, h14⟩
  · show c.in1 ++ [ev.inp] = _; rw [h9]
  · unfold goP Ct.add; simp only [h1, h2, h3, h8, h9, h10, h11]
  · unfold goP Ct.add; simp only [h1, h2, h3, h8, h9, h10, h11]
  · show (c.events ++ [ev]).length = _; rw [List.length_append, h12]; rfl
/-- .. taken by Apply -/
theorem Go18.apply_in (h : Go18 code cap fuel p0 p1 i0 i1 ps st k c) (hg : gameP code cap fuel = 0) (hB : ∀ x ∈ st.cells, B32 x) (l0 : i0.length ≤ 1000) (l1 : i1.length ≤ 1000) (lp : ps.length ≤ 1000) (lk : k ≤ 100000) (p f : Int) (x : UInt16) (hm : mayP18 c ⟨3, p, 0, f, x, 0⟩ = 0) (hs : 0 ≤ seatP c p) :
    Holds Try.prog 13 [.ptr (.arg 0) 0, .ev ⟨3, p, 0, f, x, 0⟩] [(.arg 0, ctB (.arg 0) c)] (fun r h' => r = .int .i64 0 ∧ h' = [(.arg 0, ctB (.arg 0) ((inputP c ⟨3, p, 0, f, x, 0⟩).add ⟨3, p, 0, f, x, 0⟩))]) := by
  have m0 : c.in0.length ≤ 1000000 := by rw [h.in0]; omega
  have m1 : c.in1.length ≤ 1000000 := by rw [h.in1]; omega
  refine applyY3_h c (inputP c ⟨3, p, 0, f, x, 0⟩) p 0 f 0 x m0 m1 hm ?_ (input_h c ⟨3, p, 0, f, x, 0⟩ m0 m1 (by rw [h.pairs]; omega) hs (by rw [h.code, h.cap, h.fuel]; exact hg) (by rw [h.st]; exact hB))
  have e : (inputP c ⟨3, p, 0, f, x, 0⟩).events = c.events := by unfold inputP goP inputP0; split <;> rfl
  rw [e, h.ev]; omega
theorem cu0 {a b : List UInt16} : cuP code cap fuel a b 0 ps st = (ps, st) := rfl
theorem cu1 {a b : List UInt16} (ho : st.over = false) (hl : ps.length < min a.length b.length) : cuP code cap fuel a b 1 ps st = (ps ++ [(a.getD ps.length 0, b.getD ps.length 0)], (stepP code cap fuel st (a.getD ps.length 0) (b.getD ps.length 0)).1) := by
  unfold cuP; rw [if_pos ⟨ho, hl⟩]; rfl
/-- both did their frame -/
theorem Go18.both (h : Go18 code cap fuel p0 p1 i0 i1 ps st k c) (hne : p0 ≠ p1) (hl : i0.length = ps.length) (hl1 : i1.length = ps.length) (ho : st.over = false) (x y : UInt16) (f : Int) :
    Go18 code cap fuel p0 p1 (i0 ++ [x]) i1 ps st (k + 1) ((inputP c ⟨3, p0, 0, f, x, 0⟩).add ⟨3, p0, 0, f, x, 0⟩) ∧
    Go18 code cap fuel p0 p1 (i0 ++ [x]) (i1 ++ [y]) (ps ++ [(x, y)]) (stepP code cap fuel st x y).1 (k + 2) ((inputP ((inputP c ⟨3, p0, 0, f, x, 0⟩).add ⟨3, p0, 0, f, x, 0⟩) ⟨3, p1, 0, f, y, 0⟩).add ⟨3, p1, 0, f, y, 0⟩) := by
  have a := h.in_0 x ⟨3, p0, 0, f, x, 0⟩ rfl rfl
  rw [show min (i0 ++ [x]).length i1.length - ps.length = 0 by simp; omega, cu0] at a
  have b := a.in_1 hne y ⟨3, p1, 0, f, y, 0⟩ rfl rfl
  rw [show min (i0 ++ [x]).length (i1 ++ [y]).length - ps.length = 1 by simp; omega, cu1 ho (by simp; omega)] at b
  have e1 : (i0 ++ [x]).getD ps.length 0 = x := by rw [← hl]; simp
  have e2 : (i1 ++ [y]).getD ps.length 0 = y := by rw [← hl1]; simp
  rw [e1, e2] at b
  exact ⟨a, b⟩
end
/-- a game without instructions -/
theorem step_nil {cap fuel : Int} {s : Sta} {x y : UInt16} (hg : gameP [] cap fuel = 0) (hi : isP s = true) (hz : ¬ U32 s.seed = 0) (ho : s.over = false) (hf : s.frame + 1 < cap) : (stepP [] cap fuel s x y).1 = s.wFrame (s.frame + 1) := by
  unfold stepP
  rw [if_neg (by rw [hg]; simp), if_neg (by rintro (h | h); rw [hi] at h; cases h; exact hz h), if_neg (by rintro (h | h); rw [ho] at h; cases h; omega)]
  show stepM [] cap fuel.toNat s x y = _
  unfold stepM
  have e : ∀ f, runM [] f (mac0 s x y) = (0, mac0 s x y) := fun f => by cases f <;> exact if_neg (by rintro ⟨h, _⟩; exact absurd h (by show ¬ (0 : Int) < 0; omega))
  rw [e, if_pos rfl]
  unfold endS
  have h2 : ((0, mac0 s x y) : Int × Mac).2.st = s := rfl
  rw [h2, if_neg (fun h => by have := h.1; omega)]
end Go.Proofs.Ytamcjecgkfmjkaa

/- Chapter 18: a match that has begun. -/
open Go Go.RowKit
namespace Go.Proofs.Ytamcjecgkfmjkaa
set_option linter.unusedSimpArgs false
set_option linter.unusedVariables false
def begE : Ev := ⟨1, 3, 8, 0, 0, 1⟩
def begL : List (Int × Int) := [(2, 0), (16, 0), (4, 0), (3, 0)]
def begC (lim : Int) : Ct := (openP (ctNew begL lim 9) begE).add begE
theorem beg_g {lim : Int} (h1 : 1 ≤ lim) (h2 : lim ≤ 600) : gameP begL lim 9 = 0 := by
  have e : chkP begL = (0, 0) := by decide
  unfold gameP
  rw [e, if_neg (by simp), if_neg (by omega)]
@[go_sem] theorem ins_beg : ins begL = [.val (.int .i64 2), .val (.int .i64 0), .val (.int .i64 16), .val (.int .i64 0), .val (.int .i64 4), .val (.int .i64 0), .val (.int .i64 3), .val (.int .i64 0)] := nr rfl
theorem beg_1 {lim : Int} : mayP18 (ctNew begL lim 9) ⟨1, 3, 8, 0, 0, 1⟩ = 0 := rfl
set_option maxRecDepth 20000 in
set_option maxHeartbeats 4000000 in
theorem begun_h (lim : Int) (h1 : 1 ≤ lim) (h2 : lim ≤ 600) : Holds Try.prog 18 [.int .i64 lim] [] (fun r h' => r = .tup [.c (.ptr (.loc [14, 0, 14]) 0), .c (.val (.bool true))] ∧ h' = [(.loc [14, 0, 14], ctB (.loc [14, 0, 14]) (begC lim))]) := by
  have hA := applyY1_h (ctNew begL lim 9) (openP (ctNew begL lim 9) begE) 3 8 0 1 0 beg_1 (by show (0 : Nat) ≤ 1000000; omega) (open_h (ctNew begL lim 9) begE (by decide))
  have e1 : (openP (ctNew begL lim 9) begE).add ⟨1, 3, 8, 0, 0, 1⟩ = begC lim := rfl
  rw [e1] at hA
  have hn := new_ok18 begL lim 9 (by decide) (beg_g h1 h2)
  generalize ctNew begL lim 9 = c0 at hA hn
  generalize begC lim = c1 at hA ⊢
  refine holds_of_awp Try.func18 rfl (by decide +kernel) mixed Try.ntmps18 Try.results18 ?_
  simp only [entrySt, List.map_cons, List.map_nil, List.length_cons, List.length_nil, Nat.reduceAdd, Nat.reduceSub, List.replicate_succ, List.replicate_zero, List.cons_append, List.nil_append]
  (refine zs ?_; try exact trivial)
  refine a_call [] (hn) ok0 ?_ ?_ ?_
  · (refine zs ?_; try exact trivial)
  · (refine zs ?_; try exact trivial)
  rintro _ _ ⟨rfl, rfl⟩
  (refine zc ?_; try exact trivial)
  refine a_call [.loc [14, 0, 14]] (hA) (ok1 rfl) ?_ ?_ ?_
  · (refine zs ?_; try exact trivial)
  · (refine zs ?_; try exact trivial)
  rintro _ _ ⟨rfl, rfl⟩
  (refine zc ?_; try exact trivial)
@[go_sem ↓ 1200] theorem i64_and1 {a : Int} {V' : V → Prop} : aInt .and .i64 a .i64 1 V' = V' (.int .i64 (a % 2)) := by
  rw [e_and]
  have h : (BitVec.ofInt IntKind.i64.bits a &&& BitVec.ofInt IntKind.i64.bits 1).toNat = (a % 2).toNat := by
    show (BitVec.ofInt 64 a &&& BitVec.ofInt 64 1).toNat = _
    rw [BitVec.toNat_and, BitVec.toNat_ofInt, BitVec.toNat_ofInt]
    show ((a % ((2 ^ 64 : Nat) : Int)).toNat &&& 1) = _
    rw [Nat.and_one_is_mod]
    omega
  rw [h]
  have : a % 2 = 0 ∨ a % 2 = 1 := by omega
  rcases this with e | e <;> rw [e] <;> rfl
end Go.Proofs.Ytamcjecgkfmjkaa

/- The law ContestEnds in the logic. -/
open Go Go.RowKit
namespace Go.Proofs.Ytamcjecgkfmjkaa
set_option linter.unusedSimpArgs false
set_option linter.unusedVariables false
/-- one instruction more -/
theorem run_1 {code : List (Int × Int)} {f : Nat} {m n : Mac} (h1 : m.pc < code.length) (h2 : m.en = false) (hd : doM (gi code m.pc.toNat).1 (gi code m.pc.toNat).2 (incM m) = n) (hb : n.bad = false) : runM code (f + 1) m = runM code f n := by
  show (if m.pc < code.length ∧ m.en = false then _ else _) = _
  rw [if_pos ⟨h1, h2⟩, hd, if_neg (by rw [hb]; simp)]
/-- the four instructions: the first number grows by the input -/
theorem beg_run (s : Sta) (x y : UInt16) : runM begL 9 (mac0 s x y) = (0, ⟨s.wCells 0 (held (s.cells.getD 0 0 + U16 x)), x, y, [], 4, false, false⟩) := by
  rw [run_1 (n := ⟨s, x, y, [s.cells.getD 0 0], 1, false, false⟩) (by show (0 : Int) < 4; omega) rfl rfl rfl]
  rw [run_1 (n := ⟨s, x, y, [s.cells.getD 0 0, U16 x], 2, false, false⟩) (by show (1 : Int) < 4; omega) rfl rfl rfl]
  rw [run_1 (n := ⟨s, x, y, [held (s.cells.getD 0 0 + U16 x)], 3, false, false⟩) (by show (2 : Int) < 4; omega) rfl rfl rfl]
  rw [run_1 (n := ⟨s.wCells 0 (held (s.cells.getD 0 0 + U16 x)), x, y, [], 4, false, false⟩) (by show (3 : Int) < 4; omega) rfl rfl rfl]
  exact if_neg (fun h => absurd h.1 (by show ¬ (4 : Int) < 4; omega))
theorem beg_step {lim : Int} (h1 : 1 ≤ lim) (h2 : lim ≤ 600) {s : Sta} {x y : UInt16} (hi : isP s = true) (hz : ¬ U32 s.seed = 0) (ho : s.over = false) (hf : s.frame < lim) :
    (stepP begL lim 9 s x y).1 = endS lim (s.wCells 0 (held (s.cells.getD 0 0 + U16 x))) := by
  have e9 : (9 : Int).toNat = 9 := rfl
  unfold stepP
  rw [if_neg (by rw [beg_g h1 h2]; simp), if_neg (by rintro (h | h); rw [hi] at h; cases h; exact hz h), if_neg (by rintro (h | h); rw [ho] at h; cases h; omega), e9]
  simp only
  unfold stepM
  rw [beg_run, if_pos rfl]
def enS (x : UInt16) (lim : Int) : Nat → Sta
  | 0 => startS 1
  | n + 1 => (stepP begL lim 9 (enS x lim n) x 0).1
/-- after so many frames -/
def en (x : UInt16) (lim : Int) : Nat → Ct
  | 0 => begC lim
  | n + 1 => (inputP ((inputP (en x lim n) ⟨3, 3, 0, n, x, 0⟩).add ⟨3, 3, 0, n, x, 0⟩) ⟨3, 8, 0, n, 0, 0⟩).add ⟨3, 8, 0, n, 0, 0⟩
def enM (x : UInt16) (lim : Int) (n : Nat) : Ct := (inputP (en x lim n) ⟨3, 3, 0, n, x, 0⟩).add ⟨3, 3, 0, n, x, 0⟩
structure Ens (x : UInt16) (lim : Int) (n : Nat) (s : Sta) : Prop where
  frame : s.frame = n
  c0 : s.cells.getD 0 0 = n * U16 x
  c1 : s.cells.getD 1 0 = 0
  seed : s.seed = (startS 1).seed
  over : s.over = decide (lim ≤ n)
  win : s.win = if lim ≤ n then (if U16 x = 0 then 2 else 0) else 0
theorem seed1 : ¬ U32 (startS 1).seed = 0 := by decide
theorem Ens.is {x : UInt16} {lim : Int} {n : Nat} {s : Sta} (h : Ens x lim n s) (hn : n ≤ 600) : isP s = true := by
  unfold isP
  have hw := h.win
  have ho := h.over
  have a : decide ((0 : Int) ≤ s.frame) = true := decide_eq_true (by rw [h.frame]; omega)
  have b : decide (s.frame ≤ (600 : Int)) = true := decide_eq_true (by rw [h.frame]; omega)
  have c : decide ((0 : Int) ≤ s.win) = true := decide_eq_true (by rw [hw]; split <;> (try split) <;> omega)
  have d : decide (s.win ≤ (2 : Int)) = true := decide_eq_true (by rw [hw]; split <;> (try split) <;> omega)
  rw [a, b, c, d, ho, hw]
  by_cases g : lim ≤ n
  · rw [decide_eq_true g]; rfl
  · rw [decide_eq_false g, if_neg g]; rfl
theorem ens_0 (x : UInt16) {lim : Int} (h1 : 1 ≤ lim) : Ens x lim 0 (startS 1) := ⟨rfl, by show (0 : Int) = _; simp, rfl, rfl, (decide_eq_false (by omega)).symm, by rw [if_neg (by omega)]; rfl⟩
theorem ens_S {x : UInt16} {lim : Int} {n : Nat} {s : Sta} (h1 : 1 ≤ lim) (h2 : lim ≤ 600) (hn : (n : Int) < lim) (h : Ens x lim n s) : Ens x lim (n + 1) (stepP begL lim 9 s x 0).1 := by
  have ho : s.over = false := by rw [h.over]; exact decide_eq_false (by omega)
  have hw : s.win = 0 := by rw [h.win, if_neg (by omega)]
  rw [beg_step h1 h2 (h.is (by omega)) (by rw [h.seed]; exact seed1) ho (by rw [h.frame]; omega)]
  have hx := U16_lo x
  have hx2 := U16_hi x
  have hc : held (s.cells.getD 0 0 + U16 x) = ((n + 1 : Nat) : Int) * U16 x := by
    rw [h.c0]
    have e : ((n + 1 : Nat) : Int) * U16 x = n * U16 x + U16 x := by rw [Int.natCast_add]; show ((n : Int) + 1) * _ = _; rw [Int.add_mul, Int.one_mul]
    rw [e]
    have : (n : Int) * U16 x ≤ 600 * 65535 := Int.mul_le_mul (by omega) (by omega) hx (by omega)
    have : 0 ≤ (n : Int) * U16 x := Int.mul_nonneg (by omega) hx
    unfold held
    omega
  rw [hc]
  have hl := s.len
  have g0 : (s.cells.set 0 (((n + 1 : Nat) : Int) * U16 x)).getD 0 0 = ((n + 1 : Nat) : Int) * U16 x := by
    rw [List.getD_eq_getElem?_getD, List.getElem?_set_self (by omega)]; rfl
  have g1 : (s.cells.set 0 (((n + 1 : Nat) : Int) * U16 x)).getD 1 0 = 0 := by
    have := h.c1
    rw [List.getD_eq_getElem?_getD] at this ⊢
    rw [List.getElem?_set_ne (by omega)]
    exact this
  generalize hy : ((n + 1 : Nat) : Int) * U16 x = y at g0 g1
  have hz : y = 0 ↔ U16 x = 0 := by
    rw [← hy]
    constructor
    · intro h
      rcases Int.mul_eq_zero.1 h with h | h
      · omega
      · exact h
    · intro h; rw [h]; simp
  have hp : 0 ≤ y := by rw [← hy]; exact Int.mul_nonneg (by omega) hx
  unfold endS
  by_cases g : lim ≤ ((n + 1 : Nat) : Int)
  · rw [if_pos ⟨by show lim ≤ s.frame + 1; rw [h.frame]; omega, ho⟩]
    refine ⟨by show s.frame + 1 = _; rw [h.frame]; omega, by rw [hy]; exact g0, g1, h.seed, (decide_eq_true g).symm, ?_⟩
    rw [if_pos g]
    show winS (s.wCells 0 y) = _
    unfold winS
    show (if (s.cells.set 0 y).getD 1 0 < (s.cells.set 0 y).getD 0 0 then (0 : Int) else if (s.cells.set 0 y).getD 0 0 < (s.cells.set 0 y).getD 1 0 then 1 else 2) = _
    rw [g0, g1]
    by_cases k : U16 x = 0
    · rw [if_pos k, if_neg (by omega), if_neg (by omega)]
    · rw [if_neg k, if_pos (by omega)]
  · rw [if_neg (fun q => g (by have := q.1; have e : (s.wCells 0 y).frame = n := h.frame; rw [e] at this; omega))]
    refine ⟨by show s.frame + 1 = _; rw [h.frame]; omega, by rw [hy]; exact g0, g1, h.seed, ?_, ?_⟩
    · rw [decide_eq_false g]; exact ho
    · rw [if_neg g]; exact hw
theorem ens {x : UInt16} {lim : Int} (h1 : 1 ≤ lim) (h2 : lim ≤ 600) : ∀ n : Nat, (n : Int) ≤ lim → Ens x lim n (enS x lim n)
  | 0, _ => ens_0 x h1
  | n + 1, h => ens_S h1 h2 (by omega) (ens h1 h2 n (by omega))
theorem enS_B (x : UInt16) (lim : Int) : ∀ n, ∀ y ∈ (enS x lim n).cells, B32 y
  | 0 => fun y hy => by
    have : y = 0 := List.eq_of_mem_replicate hy
    rw [this]; exact B32_0
  | n + 1 => step_B32 _ _ _ _ _ _ (enS_B x lim n)
theorem en_go (x : UInt16) {lim : Int} (h1 : 1 ≤ lim) (h2 : lim ≤ 600) : ∀ n : Nat, (n : Int) ≤ lim → Go18 begL lim 9 3 8 (List.replicate n x) (List.replicate n 0) (List.replicate n (x, 0)) (enS x lim n) (2 * n + 1) (en x lim n)
  | 0, _ => ⟨rfl, rfl, rfl, rfl, rfl, rfl, rfl, rfl, rfl, rfl, rfl, rfl, rfl, rfl⟩
  | n + 1, h => by
    have ih := en_go x h1 h2 n (by omega)
    have ho : (enS x lim n).over = false := by rw [(ens h1 h2 n (by omega)).over]; exact decide_eq_false (by omega)
    have hb := (ih.both (by omega) (by simp) (by simp) ho x 0 (n : Int)).2
    rw [List.replicate_succ', List.replicate_succ', List.replicate_succ']
    exact hb
theorem en_mid (x : UInt16) {lim : Int} (h1 : 1 ≤ lim) (h2 : lim ≤ 600) (n : Nat) (h : (n : Int) < lim) : Go18 begL lim 9 3 8 (List.replicate n x ++ [x]) (List.replicate n 0) (List.replicate n (x, 0)) (enS x lim n) (2 * n + 2) (enM x lim n) :=
  ((en_go x h1 h2 n (by omega)).both (by omega) (by simp) (by simp) (by rw [(ens h1 h2 n (by omega)).over]; exact decide_eq_false (by omega)) x 0 (n : Int)).1
theorem en_1 (x : UInt16) {lim : Int} (h1 : 1 ≤ lim) (h2 : lim ≤ 20) (n : Nat) (h : (n : Int) < lim) : Holds Try.prog 13 [.ptr (.arg 0) 0, .ev ⟨3, 3, 0, n, x, 0⟩] [(.arg 0, ctB (.arg 0) (en x lim n))] (fun r h' => r = .int .i64 0 ∧ h' = [(.arg 0, ctB (.arg 0) (enM x lim n))]) := by
  have hg := en_go x h1 (by omega) n (by omega)
  have ho : (enS x lim n).over = false := by rw [(ens h1 (by omega) n (by omega)).over]; exact decide_eq_false (by omega)
  refine hg.apply_in (beg_g h1 (by omega)) (enS_B x lim n) (by simp; omega) (by simp; omega) (by simp; omega) (by omega) 3 n x ?_ (by rw [hg.seat0]; omega)
  rw [may_in]
  unfold mayInputP
  simp only
  rw [hg.act0 ho, hg.seat0, if_neg (by simp), if_pos rfl, hg.cap, hg.in0, hg.in1]
  exact win_ok (by simp) (by simp; omega) (by simp)
theorem en_2 (x : UInt16) {lim : Int} (h1 : 1 ≤ lim) (h2 : lim ≤ 20) (n : Nat) (h : (n : Int) < lim) : Holds Try.prog 13 [.ptr (.arg 0) 0, .ev ⟨3, 8, 0, n, 0, 0⟩] [(.arg 0, ctB (.arg 0) (enM x lim n))] (fun r h' => r = .int .i64 0 ∧ h' = [(.arg 0, ctB (.arg 0) (en x lim (n + 1)))]) := by
  have hg := en_mid x h1 (by omega) n (by omega)
  have ho : (enS x lim n).over = false := by rw [(ens h1 (by omega) n (by omega)).over]; exact decide_eq_false (by omega)
  refine hg.apply_in (beg_g h1 (by omega)) (enS_B x lim n) (by simp; omega) (by simp; omega) (by simp; omega) (by omega) 8 n 0 ?_ (by rw [hg.seat1 (by omega)]; omega)
  rw [may_in]
  unfold mayInputP
  simp only
  rw [hg.act1 (by omega) ho, hg.seat1 (by omega), if_neg (by simp), if_neg (by omega), hg.cap, hg.in0, hg.in1]
  exact win_ok (by simp) (by simp; omega) (by simp; omega)
/-- the end: the machine says so -/
structure End18 (lim : Int) (c : Ct) : Prop where
  cap : c.cap = lim
  opn : c.opn = true
  over : c.over = false
  p0 : c.p0 = 3
  p1 : c.p1 = 8
  so : c.st.over = true
  sf : c.st.frame = lim
  sw : c.st.win = 0 ∨ c.st.win = 2
  ev : c.events.length ≤ 1000
theorem en_end (x : UInt16) {lim : Nat} (h1 : 1 ≤ lim) (h2 : lim ≤ 20) : End18 lim (en x lim lim) := by
  have hg := en_go x (lim := lim) (by omega) (by omega) lim (by omega)
  have hs := ens (x := x) (lim := lim) (by omega) (by omega) lim (by omega)
  refine ⟨hg.cap, hg.opn, hg.over, hg.p0, hg.p1, by rw [hg.st, hs.over]; exact decide_eq_true (by omega), by rw [hg.st, hs.frame], ?_, by rw [hg.ev]; omega⟩
  rw [hg.st, hs.win, if_pos (by omega)]
  split
  · exact .inr rfl
  · exact .inl rfl
section
variable {lim : Int} {c : Ct} (h : End18 lim c)
include h
theorem End18.act (p : Int) : actP c p = 12 := by
  unfold actP
  rw [h.opn, h.over, h.so, if_neg (by simp), if_pos (by simp)]
theorem End18.owes (p : Int) : owesP c p = false := by
  unfold owesP
  rw [h.over, h.so]
  simp
theorem End18.wok : 0 ≤ c.st.win ∧ c.st.win ≤ 2 := by
  rcases h.sw with e | e <;> rw [e] <;> omega
theorem End18.res : resP c.st c.cap = (0, 2, true) := by
  unfold resP
  rw [h.so, h.sf, h.cap, if_neg (by simp), if_pos rfl]
  rcases h.sw with e | e <;> rw [e] <;> rfl
theorem End18.may5 (p n : Int) : mayP18 c ⟨5, p, 0, 0, 0, n⟩ = if p ≠ 3 ∨ n ≠ 2 then 18 else 0 := by
  show mayResultP c ⟨5, p, 0, 0, 0, n⟩ = _
  unfold mayResultP
  rw [h.opn, h.over, h.res, if_neg (by simp), if_neg (by simp), if_neg (by simp), if_pos rfl, h.p0]
theorem End18.no4 (p : Int) : Holds Try.prog 13 [.ptr (.arg 0) 0, .ev ⟨4, p, 0, 0, 0, 0⟩] [(.arg 0, ctB (.arg 0) c)] (fun r h' => r = .int .i64 12 ∧ h' = [(.arg 0, ctB (.arg 0) c)]) := by
  have e : mayP18 c ⟨4, p, 0, 0, 0, 0⟩ = 12 := h.act p
  have := applyN4_h c p 0 0 0 0 (by rw [e]; omega)
  rw [e] at this
  exact this
theorem End18.no2 (p : Int) : Holds Try.prog 13 [.ptr (.arg 0) 0, .ev ⟨2, p, 0, 0, 0, 0⟩] [(.arg 0, ctB (.arg 0) c)] (fun r h' => r = .int .i64 12 ∧ h' = [(.arg 0, ctB (.arg 0) c)]) := by
  have e : mayP18 c ⟨2, p, 0, 0, 0, 0⟩ = 12 := by
    show mayJoinP c ⟨2, p, 0, 0, 0, 0⟩ = 12
    unfold mayJoinP
    simp only
    rw [h.act, if_pos (by omega)]
  have := applyN2_h c p 0 0 0 0 (by rw [e]; omega)
  rw [e] at this
  exact this
theorem End18.no5 (p n : Int) (hn : p ≠ 3 ∨ n ≠ 2) : Holds Try.prog 13 [.ptr (.arg 0) 0, .ev ⟨5, p, 0, 0, 0, n⟩] [(.arg 0, ctB (.arg 0) c)] (fun r h' => r = .int .i64 18 ∧ h' = [(.arg 0, ctB (.arg 0) c)]) := by
  have e : mayP18 c ⟨5, p, 0, 0, 0, n⟩ = 18 := by rw [h.may5, if_pos hn]
  have := applyN5_h c p 0 0 n 0 h.wok (by rw [e]; omega)
  rw [e] at this
  exact this
end
def enD (c : Ct) : Ct := (resultP c ⟨5, 3, 0, 0, 0, 2⟩).add ⟨5, 3, 0, 0, 0, 2⟩
theorem End18.yes5 {lim : Int} {c : Ct} (h : End18 lim c) : Holds Try.prog 13 [.ptr (.arg 0) 0, .ev ⟨5, 3, 0, 0, 0, 2⟩] [(.arg 0, ctB (.arg 0) c)] (fun r h' => r = .int .i64 0 ∧ h' = [(.arg 0, ctB (.arg 0) (enD c))]) := by
  refine applyY5_h c _ 3 0 0 2 0 h.wok (by rw [h.may5, if_neg (by simp)]) ?_ (result_h c ⟨5, 3, 0, 0, 0, 2⟩ (by show 0 ≤ seatP c 3; unfold seatP; rw [h.p0, if_pos rfl]; omega))
  show c.events.length ≤ 1000000
  have := h.ev
  omega
theorem End18.no5b {lim : Int} {c : Ct} (h : End18 lim c) : Holds Try.prog 13 [.ptr (.arg 0) 0, .ev ⟨5, 3, 0, 0, 0, 2⟩] [(.arg 0, ctB (.arg 0) (enD c))] (fun r h' => r = .int .i64 12 ∧ h' = [(.arg 0, ctB (.arg 0) (enD c))]) := by
  have e : mayP18 (enD c) ⟨5, 3, 0, 0, 0, 2⟩ = 12 := by
    show mayResultP (enD c) ⟨5, 3, 0, 0, 0, 2⟩ = 12
    unfold mayResultP
    have ho : (enD c).opn = true := h.opn
    have hv : (enD c).over = true := rfl
    rw [ho, hv, if_neg (by simp), if_pos rfl]
  have := applyN5_h (enD c) 3 0 0 2 0 h.wok (by rw [e]; omega)
  rw [e] at this
  exact this
theorem enD_over (c : Ct) : (enD c).over = true := rfl
theorem enD_why (c : Ct) : (enD c).why = 2 := rfl
theorem End18.win {lim : Int} {c : Ct} (h : End18 lim c) : (enD c).winner = 0 := by
  show seatP c 3 = 0
  unfold seatP
  rw [if_pos h.p0]
end Go.Proofs.Ytamcjecgkfmjkaa

/- The law ContestEnds in the logic: the walk. -/
open Go Go.RowKit
namespace Go.Proofs.Ytamcjecgkfmjkaa
set_option linter.unusedSimpArgs false
set_option linter.unusedVariables false
set_option maxRecDepth 20000 in
set_option maxHeartbeats 16000000 in
theorem contestEnds_h (n wrong : Int) (x : UInt16) : Holds Try.prog 5 [.int .i64 n, .c (.val (.int .u16 (U16 x))), .int .i64 wrong] [] (fun r h' => r = V.bool true ∧ h' = []) := by
  refine holds_of_awp Try.func5 rfl (by decide +kernel) mixed Try.ntmps5 Try.results5 ?_
  simp only [entrySt, List.map_cons, List.map_nil, List.length_cons, List.length_nil, Nat.reduceAdd, Nat.reduceSub, List.replicate_succ, List.replicate_zero, List.cons_append, List.nil_append]
  cases d1 : decide (n < 1)
  · simp (maxSteps := 2000000) (disch := omega) only [go_sem, Nat.reduceAdd, Nat.reduceSub, Nat.reduceMul, Nat.reduceBEq, Nat.reduceEqDiff, Nat.reduceLT, Nat.reduceLeDiff, Nat.reduceDiv, reduceIte, reduceCtorEq, d1]
    refine c_dec (fun d2 => ?_) (fun d2 => ?_)
    · (refine zs ?_; try exact trivial)
      refine a_call [] (known_h18) ok0 ?_ ?_ ?_
      · (refine zs ?_; try exact trivial)
      · (refine zs ?_; try exact trivial)
      rintro _ _ ⟨rfl, rfl⟩
      (refine zs ?_; try exact trivial)
    · have f1 := of_decide_eq_false d1
      obtain ⟨n, rfl⟩ := Int.eq_ofNat_of_zero_le (show 0 ≤ n by omega)
      have n1 : 1 ≤ n := by omega
      have n2 : n ≤ 20 := by omega
      have hb := begun_h n (by omega) (by omega)
      have e0 : begC n = en x n 0 := rfl
      rw [e0] at hb
      (refine zs ?_; try exact trivial)
      refine a_call [] (hb) ok0 ?_ ?_ ?_
      · (refine zs ?_; try exact trivial)
      · (refine zs ?_; try exact trivial)
      rintro _ _ ⟨rfl, rfl⟩
      (refine zc ?_; try exact trivial)
      refine a_loopk (fun i : Nat => ⟨[V.int .i64 n, V.w (.c (.val (.int .u16 (U16 x)))), V.int .i64 wrong, .undef, .undef, .undef, .undef, V.cell (.ptr (.loc [20, 0, 14, 0, 14]) 0), .undef, V.int .i64 i, .undef, .undef, .undef, .undef, .undef, .undef, .undef, .undef, .undef, .undef, .undef, .undef, .undef, .undef, .undef, .undef, .undef, .undef, .undef, .undef, .undef, .undef, .undef, .undef, .undef, .undef, .undef, .undef, .undef, .undef, .undef, .undef, .undef, .undef, .undef, .undef, .undef, .undef, .undef, .undef, .undef, .undef, .undef, .undef, .undef, .undef, .undef, .undef, .undef, .undef, .undef, .undef, .undef, .undef, .undef, .undef, .undef, .undef, .undef, .undef, .undef, .undef, .undef, .undef, .undef, .undef, .undef, .undef, .undef, .undef, .undef, .undef, .undef, .undef, .undef, .undef, .undef, .undef, .undef, .undef, .undef, .undef, .undef, .undef, .undef, .undef, .undef, .undef, .undef, .undef, .undef, .undef, .undef, .undef, .undef, .undef, .undef, .undef], [(.loc [20, 0, 14, 0, 14], ctB (.loc [20, 0, 14, 0, 14]) (en x n i))]⟩) (fun i => i ≤ n) (n - ·) 0 (by omega) ?_ ?_
      · try (refine zs ?_; try exact trivial)
        all_goals trace_state
      · intro i hi
        (refine zs ?_; try exact trivial)
        refine c_dec (fun g => ?_) (fun g => ?_)
        · (refine zs ?_; try exact trivial)
          refine a_call [.loc [20, 0, 14, 0, 14]] (en_1 x (lim := n) (by omega) (by omega) i (by omega)) (ok1 rfl) ?_ ?_ ?_
          · (refine zs ?_; try exact trivial)
          · (refine zs ?_; try exact trivial)
          rintro _ _ ⟨rfl, rfl⟩
          (refine zc ?_; try exact trivial)
          refine a_call [.loc [20, 0, 14, 0, 14]] (en_2 x (lim := n) (by omega) (by omega) i (by omega)) (ok1 rfl) ?_ ?_ ?_
          · (refine zs ?_; try exact trivial)
          · (refine zs ?_; try exact trivial)
          rintro _ _ ⟨rfl, rfl⟩
          (refine zc ?_; try exact trivial)
          refine ⟨i + 1, by omega, by omega, ?_⟩
          try (refine zs ?_; try exact trivial)
          all_goals trace_state
        · have e : i = n := by omega
          subst e
          have he := en_end x n1 n2
          clear hb hi g
          (refine zs ?_; try exact trivial)
          generalize en x i i = c at he
          have hs : Holds Try.prog 16 [.ptr (.arg 0) 0] [(.arg 0, ctB (.arg 0) c)] (fun r h' => r = .w (.agg [.val (.int .i64 c.p0), .val (.int .i64 c.p1), .val (.int .u32 (U32 c.seed)), .val (.int .i64 c.l0), .val (.int .i64 c.l1), .val (.int .i64 c.in0.length), .val (.int .i64 c.in1.length), .val (.bool false), .val (.int .i64 c.winner), .val (.int .i64 c.why), .val (.bool c.opn)]) ∧ h' = [(.arg 0, ctB (.arg 0) c)]) := by
            have := status_h c
            unfold statC at this
            rw [he.over] at this
            exact this
          have o3 : Holds Try.prog 17 [.ptr (.arg 0) 0, .int .i64 3] [(.arg 0, ctB (.arg 0) c)] (fun r h' => r = V.bool false ∧ h' = [(.arg 0, ctB (.arg 0) c)]) := by
            have := owes_h c 3; rw [he.owes] at this; exact this
          have o8 : Holds Try.prog 17 [.ptr (.arg 0) 0, .int .i64 8] [(.arg 0, ctB (.arg 0) c)] (fun r h' => r = V.bool false ∧ h' = [(.arg 0, ctB (.arg 0) c)]) := by
            have := owes_h c 8; rw [he.owes] at this; exact this
          have hs2 : Holds Try.prog 16 [.ptr (.arg 0) 0] [(.arg 0, ctB (.arg 0) (enD c))] (fun r h' => r = .w (.agg [.val (.int .i64 c.p0), .val (.int .i64 c.p1), .val (.int .u32 (U32 c.seed)), .val (.int .i64 c.l0), .val (.int .i64 c.l1), .val (.int .i64 c.in0.length), .val (.int .i64 c.in1.length), .val (.bool true), .val (.int .i64 0), .val (.int .i64 2), .val (.bool c.opn)]) ∧ h' = [(.arg 0, ctB (.arg 0) (enD c))]) := by
            have := status_h (enD c)
            unfold statC at this
            rw [enD_over, enD_why, he.win] at this
            exact this
          have n4 := he.no4 3
          have n2' := he.no2 3
          have n58 := he.no5 8 2 (.inl (by omega))
          have hy := he.yes5
          have hz := he.no5b
          have n53 : wrong ≠ 2 → _ := fun q => he.no5 3 wrong (.inr q)
          generalize enD c = c2 at hs2 hy hz
          clear he
          refine a_call [.loc [20, 0, 14, 0, 14]] (hs) (ok1 rfl) ?_ ?_ ?_
          · (refine zs ?_; try exact trivial)
          · (refine zs ?_; try exact trivial)
          rintro _ _ ⟨rfl, rfl⟩
          (refine zc ?_; try exact trivial)
          refine a_call [.loc [20, 0, 14, 0, 14]] (o3) (ok1 rfl) ?_ ?_ ?_
          · (refine zs ?_; try exact trivial)
          · (refine zs ?_; try exact trivial)
          rintro _ _ ⟨rfl, rfl⟩
          (refine zc ?_; try exact trivial)
          refine a_call [.loc [20, 0, 14, 0, 14]] (o8) (ok1 rfl) ?_ ?_ ?_
          · (refine zs ?_; try exact trivial)
          · (refine zs ?_; try exact trivial)
          rintro _ _ ⟨rfl, rfl⟩
          (refine zc ?_; try exact trivial)
          refine a_call [.loc [20, 0, 14, 0, 14]] (n4) (ok1 rfl) ?_ ?_ ?_
          · (refine zs ?_; try exact trivial)
          · (refine zs ?_; try exact trivial)
          rintro _ _ ⟨rfl, rfl⟩
          (refine zc ?_; try exact trivial)
          refine a_call [.loc [20, 0, 14, 0, 14]] (n2') (ok1 rfl) ?_ ?_ ?_
          · (refine zs ?_; try exact trivial)
          · (refine zs ?_; try exact trivial)
          rintro _ _ ⟨rfl, rfl⟩
          (refine zc ?_; try exact trivial)
          refine a_call [.loc [20, 0, 14, 0, 14]] (n58) (ok1 rfl) ?_ ?_ ?_
          · (refine zs ?_; try exact trivial)
          · (refine zs ?_; try exact trivial)
          rintro _ _ ⟨rfl, rfl⟩
          (refine zc ?_; try exact trivial)
          cases w : decide (¬ wrong = 2)
          · simp (maxSteps := 2000000) (disch := omega) only [go_sem, Nat.reduceAdd, Nat.reduceSub, Nat.reduceMul, Nat.reduceBEq, Nat.reduceEqDiff, Nat.reduceLT, Nat.reduceLeDiff, Nat.reduceDiv, reduceIte, reduceCtorEq, w]
            refine a_call [.loc [20, 0, 14, 0, 14]] (hy) (ok1 rfl) ?_ ?_ ?_
            · (refine zs ?_; try exact trivial)
            · (refine zs ?_; try exact trivial)
            rintro _ _ ⟨rfl, rfl⟩
            (refine zc ?_; try exact trivial)
            refine a_call [.loc [20, 0, 14, 0, 14]] (hz) (ok1 rfl) ?_ ?_ ?_
            · (refine zs ?_; try exact trivial)
            · (refine zs ?_; try exact trivial)
            rintro _ _ ⟨rfl, rfl⟩
            (refine zc ?_; try exact trivial)
            refine a_call [.loc [20, 0, 14, 0, 14]] (hs2) (ok1 rfl) ?_ ?_ ?_
            · (refine zs ?_; try exact trivial)
            · (refine zs ?_; try exact trivial)
            rintro _ _ ⟨rfl, rfl⟩
            (refine zc ?_; try exact trivial)
            refine a_call [] (known_h18) ok0 ?_ ?_ ?_
            · (refine zs ?_; try exact trivial)
            · (refine zs ?_; try exact trivial)
            rintro _ _ ⟨rfl, rfl⟩
            (refine zs ?_; try exact trivial)
          · simp (maxSteps := 2000000) (disch := omega) only [go_sem, Nat.reduceAdd, Nat.reduceSub, Nat.reduceMul, Nat.reduceBEq, Nat.reduceEqDiff, Nat.reduceLT, Nat.reduceLeDiff, Nat.reduceDiv, reduceIte, reduceCtorEq, w]
            refine a_call [.loc [20, 0, 14, 0, 14]] (n53 (of_decide_eq_true w)) (ok1 rfl) ?_ ?_ ?_
            · (refine zs ?_; try exact trivial)
            · (refine zs ?_; try exact trivial)
            rintro _ _ ⟨rfl, rfl⟩
            simp (maxSteps := 2000000) (disch := omega) only [go_sem, Nat.reduceAdd, Nat.reduceSub, Nat.reduceMul, Nat.reduceBEq, Nat.reduceEqDiff, Nat.reduceLT, Nat.reduceLeDiff, Nat.reduceDiv, reduceIte, reduceCtorEq, Int.reduceEq, not_true_eq_false, decide_false]
            refine a_call [.loc [20, 0, 14, 0, 14]] (hy) (ok1 rfl) ?_ ?_ ?_
            · (refine zs ?_; try exact trivial)
            · (refine zs ?_; try exact trivial)
            rintro _ _ ⟨rfl, rfl⟩
            (refine zc ?_; try exact trivial)
            refine a_call [.loc [20, 0, 14, 0, 14]] (hz) (ok1 rfl) ?_ ?_ ?_
            · (refine zs ?_; try exact trivial)
            · (refine zs ?_; try exact trivial)
            rintro _ _ ⟨rfl, rfl⟩
            (refine zc ?_; try exact trivial)
            refine a_call [.loc [20, 0, 14, 0, 14]] (hs2) (ok1 rfl) ?_ ?_ ?_
            · (refine zs ?_; try exact trivial)
            · (refine zs ?_; try exact trivial)
            rintro _ _ ⟨rfl, rfl⟩
            (refine zc ?_; try exact trivial)
            refine a_call [] (known_h18) ok0 ?_ ?_ ?_
            · (refine zs ?_; try exact trivial)
            · (refine zs ?_; try exact trivial)
            rintro _ _ ⟨rfl, rfl⟩
            (refine zs ?_; try exact trivial)
  · simp (maxSteps := 2000000) (disch := omega) only [go_sem, Nat.reduceAdd, Nat.reduceSub, Nat.reduceMul, Nat.reduceBEq, Nat.reduceEqDiff, Nat.reduceLT, Nat.reduceLeDiff, Nat.reduceDiv, reduceIte, reduceCtorEq, d1]
    refine a_call [] (known_h18) ok0 ?_ ?_ ?_
    · (refine zs ?_; try exact trivial)
    · (refine zs ?_; try exact trivial)
    rintro _ _ ⟨rfl, rfl⟩
    (refine zs ?_; try exact trivial)
end Go.Proofs.Ytamcjecgkfmjkaa

/- The row of the law gauntletlaw18.ContestEnds. -/
open Go Go.RowKit Go.ChangeShapes Go.WideShapes Go.ChangeAt
namespace Go.Proofs.Ytamcjecgkfmjkaa.contestEnds
set_option linter.unusedVariables false
set_option maxRecDepth 100000 in
theorem lifted (os : Os) (started : os.Started) (H : Type) (enc : TypeId × Value → H) :
    ReturnsInHanded {} Try.checked os 5 .any (Rows.contestEndsSpec.pre6 enc Try.prog Try.f5 Rows.contestEndsRow.domain false) (Rows.contestEndsSpec.post enc Try.prog Try.f5 false true false false) := by
  refine returnsInHanded_of_change_sized (C := Try.checked) rowOwn started (by kernel_rfl) Try.func5
    (ChangeSpec.witness6 (enc := enc) (C := Try.checked) false ⟨#[], #[.int .i64 0, .int .u16 0, .int .i64 0], []⟩ 8 (by kernel_rfl) (by kernel_rfl) (by kernel_rfl) (by kernel_rfl)) ?_
  intro W base args ds gs before hval0 hW hcnd hsz0 _
  have hsz : (DataW.weightsEach Try.prog (Try.f5.params.toList ++ Rows.contestEndsSpec.plain.varTypes Try.prog) (ds ++ gs)).all (· ≤ reachBytes) = true := hsz0
  have hval : ∀ (j : Nat) t v, Try.f5.params[j]? = some t → args[j]? = some v → Value.okWide Try.prog W .any base t v := hval0
  have hW' := hW
  obtain ⟨p, q, hA0, hV, rfl, hfz, hnd⟩ := hW
  have hA : DataW.TrodAll enc Try.prog W 0 (fun _ => true) true Try.f5.params.toList args.toList ds p := hA0
  rw [Try.params5] at hA hval hsz
  obtain ⟨v0, vs0, d0, ds0, pp0, q0, hargs, rfl, rfl, h0, r0⟩ := trodAll_cons hA
  obtain ⟨v1, vs1, d1, ds1, pp1, q1, rfl, rfl, rfl, h1, r1⟩ := trodAll_cons r0
  obtain ⟨v2, vs2, d2, ds2, pp2, q2, rfl, rfl, rfl, h2, r2⟩ := trodAll_cons r1
  obtain ⟨rfl, rfl, rfl⟩ := trodAll_nil r2
  obtain rfl : args = #[v0, v1, v2] := by cases args; simp_all
  obtain ⟨rfl, rfl⟩ := trodVars_none hV
  have k0 := h0
  have lt0 := places_lt h0
  obtain ⟨z0, hr0, hlo0, hhi0⟩ := open_i64n Try.underlying3 (hval 0 3 v0 rfl rfl) h0
  have k1 := h1
  have lt1 := places_lt h1
  obtain ⟨u1, hr1⟩ := open_u16 (hval 1 35 v1 rfl rfl) h1
  have k2 := h2
  have lt2 := places_lt h2
  obtain ⟨z2, hr2, hlo2, hhi2⟩ := open_i64n Try.underlying3 (hval 2 3 v2 rfl rfl) h2
  clear hA0 hval0 hsz0 hsz
  refine ((contestEnds_h z0 z2 u1).calls W (globNone rfl W) (.cons hr0 (.cons hr1 (.cons hr2 .nil)))).mono fun e W' ⟨he, kept⟩ => ?_
  have bel := kept.below
  subst he
  exact ⟨_, rfl, _, _, _, [], _, [], hW', trodAll_mk1 (shut_bool Try.underlying4 _), (trodAll_cons_mk (Below.trod rowLaid (by kernel_rfl) (of_decide_eq_true (by kernel_rfl)) k0 bel lt0) (trodAll_cons_mk (Below.trod rowLaid (by kernel_rfl) (of_decide_eq_true (by kernel_rfl)) k1 bel lt1) (trodAll_cons_mk (Below.trod rowLaid (by kernel_rfl) (of_decide_eq_true (by kernel_rfl)) k2 bel lt2) trodAll_mk0))), rfl, bel.frame _, fun h => by cases h⟩
theorem over : Rows.contestEndsRow.holds Try.pinned (OpenSpec.ofChange Rows.contestEndsSpec) :=
  OpenClaim.holds_of_wide 5 Try.f5 rfl rfl rfl rfl rfl rfl rfl ⟨rfl, rfl, rfl, rfl, rfl⟩ rfl rfl rfl rfl rfl (by kernel_rfl) Try.func5 (by kernel_rfl)
    (of_decide_eq_true (by kernel_rfl)) (by unfold Func.isWrapper; first | (rw [if_pos (by decide +kernel)]; kernel_rfl) | (rw [if_neg (by decide +kernel)]; exact ⟨rfl, rfl⟩))
    (fun os started H enc _ => lifted os started H enc)
end Go.Proofs.Ytamcjecgkfmjkaa.contestEnds
namespace Go.Proofs.Ytamcjecgkfmjkaa
/-- The row. -/
theorem contestEnds_holds : Rows.ContestEndsSaid := contestEnds.over
#print axioms contestEnds_holds
end Go.Proofs.Ytamcjecgkfmjkaa
