/- Parts of a proof: Chapter 18: a match, in plain words; who sits where, what may be, From the logic to the rows of the laws: an event, Chapter 18: what an event does, The logic: rows whose items take several cells grow, Chapter 18: copies; what a match tells, Chapter 9: whether instructions are a program, Chapter 9: the table of the ops. (written by gentbl.py), Chapter 9: Check, in both, Chapters 10 and 18: games, the state at first, a new match, From the logic to the rows of the laws: games, rows of numbers, Chapter 10: the cells of a machine (written by genbox.py), Chapter 10: the table of the doers. (written by gentbl.py), Chapter 10: a frame of a game without instructions, Chapter 8 in the logic: sums, products, quotients, Chapter 10: the machine: its numbers taken and laid, its doers, Chapter 10: an instruction, and a frame's run. -/
import Derived.Test.YtamcjecgkfmjkaaMFo3
import Derived.Test.YtamcjecgkfmjkaaMFo2
import Derived.Deep.Slices
/- Chapter 18: a match, in plain words; who sits where, what may be. -/
open Go Go.RowKit
namespace Go.Proofs.Ytamcjecgkfmjkaa
set_option linter.unusedSimpArgs false
set_option linter.unusedVariables false
/-- an event -/
structure Ev where
  kind : Int
  player : Int
  other : Int
  frame : Int
  inp : UInt16
  n : Int
def evD (e : Ev) : List D := [.val (.int .i64 e.kind), .val (.int .i64 e.player), .val (.int .i64 e.other), .val (.int .i64 e.frame), .val (.int .u16 (U16 e.inp)), .val (.int .i64 e.n)]
abbrev evC (e : Ev) : List C := [.val (.int .i64 e.kind), .val (.int .i64 e.player), .val (.int .i64 e.other), .val (.int .i64 e.frame), .val (.int .u16 (U16 e.inp)), .val (.int .i64 e.n)]
abbrev W.ev (e : Ev) : W := .agg (evC e)
def evs (l : List Ev) : List D := (l.map evD).flatten
def fU (x : UInt16) : D := .val (.int .u16 (U16 x))
def prD (x : UInt16 × UInt16) : List D := [fU x.1, fU x.2]
def prs (l : List (UInt16 × UInt16)) : List D := (l.map prD).flatten
/-- a match -/
structure Ct where
  code : List (Int × Int)
  cap : Int
  fuel : Int
  p0 : Int
  p1 : Int
  seed : UInt32
  l0 : Int
  l1 : Int
  over : Bool
  winner : Int
  why : Int
  opn : Bool
  in0 : List UInt16
  in1 : List UInt16
  pairs : List (UInt16 × UInt16)
  st : Sta
  events : List Ev
abbrev ctB (i : Id) (c : Ct) : List C := ctC (.lst .no none 2 (ins c.code)) c.cap c.fuel c.p0 c.p1 c.seed c.l0 c.l1 (c.in0.length : Int) (c.in1.length : Int) c.over c.winner c.why c.opn (.lst (.tag (.cell i 14)) none 1 (ls fU c.in0)) (.lst (.tag (.cell i 15)) none 1 (ls fU c.in1)) (.lst (.tag (.cell i 16)) none 2 (prs c.pairs)) c.st (.lst (.tag (.cell i 37)) none 6 (evs c.events))
def seatP (c : Ct) (x : Int) : Int := if c.p0 = x then 0 else if c.p1 = x then 1 else -1
theorem index_h (c : Ct) (x : Int) : Holds Try.prog 53 [.c (.row (.arg 0) 3 2 2), .int .i64 x] [(.arg 0, ctB (.arg 0) c)] (fun r h' => r = .int .i64 (seatP c x) ∧ h' = [(.arg 0, ctB (.arg 0) c)]) := by
  refine holds_of_awp Try.func53 rfl (by decide +kernel) mixed Try.ntmps53 Try.results53 ?_
  simp only [entrySt, List.map_cons, List.map_nil, List.length_cons, List.length_nil, Nat.reduceAdd, Nat.reduceSub, List.replicate_succ, List.replicate_zero, List.cons_append, List.nil_append]
  (refine zs ?_; try exact trivial)
  refine a_loopk (fun k : Nat => ⟨[V.cell (.row (.arg 0) 3 2 2), V.int .i64 x, .undef, .undef, .undef, .undef, V.cell (.row (.arg 0) 3 2 2), V.int .i64 2, V.int .i64 k, .undef, .undef, .undef, .undef, .undef, .undef, .undef, .undef, .undef, .undef], [(.arg 0, ctB (.arg 0) c)]⟩) (fun k => k ≤ 2 ∧ (0 < k → c.p0 ≠ x) ∧ (1 < k → c.p1 ≠ x)) (2 - ·) 0 ⟨by omega, by omega, by omega⟩ ?_ ?_
  · try (refine zs ?_; try exact trivial)
  · rintro k ⟨hk, h0, h1⟩
    rcases (by omega : k = 0 ∨ k = 1 ∨ k = 2) with rfl | rfl | rfl
    · (refine zc ?_; try exact trivial)
      refine c_dec (fun h => ?_) (fun h => ?_)
      · have e : seatP c x = 0 := by unfold seatP; rw [if_pos h.symm]
        rw [e]
        (refine zc ?_; try exact trivial)
      · (refine zc ?_; try exact trivial)
        exact ⟨1, by omega, ⟨by omega, fun _ q => h q.symm, by omega⟩, rfl⟩
    · have h0' := h0 (by omega)
      (refine zc ?_; try exact trivial)
      refine c_dec (fun h => ?_) (fun h => ?_)
      · have e : seatP c x = 1 := by unfold seatP; rw [if_neg h0', if_pos h.symm]
        rw [e]
        (refine zc ?_; try exact trivial)
      · (refine zc ?_; try exact trivial)
        exact ⟨2, by omega, ⟨by omega, fun _ => h0', fun _ q => h q.symm⟩, rfl⟩
    · have h0' := h0 (by omega)
      have h1' := h1 (by omega)
      have e : seatP c x = -1 := by simp [seatP, h0', h1']
      rw [e]
      (refine zc ?_; try exact trivial)
theorem seat_h (c : Ct) (x : Int) : Holds Try.prog 30 [.ptr (.arg 0) 0, .int .i64 x] [(.arg 0, ctB (.arg 0) c)] (fun r h' => r = .int .i64 (seatP c x) ∧ h' = [(.arg 0, ctB (.arg 0) c)]) := by
  refine holds_of_awp Try.func30 rfl (by decide +kernel) mixed Try.ntmps30 Try.results30 ?_
  simp only [entrySt, List.map_cons, List.map_nil, List.length_cons, List.length_nil, Nat.reduceAdd, Nat.reduceSub, List.replicate_succ, List.replicate_zero, List.cons_append, List.nil_append]
  (refine zc ?_; try exact trivial)
  refine a_call [.arg 0] (index_h c x) (ok1 rfl) ?_ ?_ ?_
  · (refine zs ?_; try exact trivial)
  · (refine zs ?_; try exact trivial)
  rintro _ _ ⟨rfl, rfl⟩
  (refine zs ?_; try exact trivial)
theorem ended_h (c : Ct) : Holds Try.prog 29 [.ptr (.arg 0) 0] [(.arg 0, ctB (.arg 0) c)] (fun r h' => r = V.bool (c.over || c.st.over) ∧ h' = [(.arg 0, ctB (.arg 0) c)]) := by
  refine holds_of_awp Try.func29 rfl (by decide +kernel) mixed Try.ntmps29 Try.results29 ?_
  simp only [entrySt, List.map_cons, List.map_nil, List.length_cons, List.length_nil, Nat.reduceAdd, Nat.reduceSub, List.replicate_succ, List.replicate_zero, List.cons_append, List.nil_append]
  cases d : c.over
  · simp (maxSteps := 2000000) (disch := omega) only [go_sem, Nat.reduceAdd, Nat.reduceSub, Nat.reduceMul, Nat.reduceBEq, Nat.reduceEqDiff, Nat.reduceLT, Nat.reduceLeDiff, Nat.reduceDiv, reduceIte, reduceCtorEq, d]
  · simp (maxSteps := 2000000) (disch := omega) only [go_sem, Nat.reduceAdd, Nat.reduceSub, Nat.reduceMul, Nat.reduceBEq, Nat.reduceEqDiff, Nat.reduceLT, Nat.reduceLeDiff, Nat.reduceDiv, reduceIte, reduceCtorEq, d]
/-- may a player do something? -/
def actP (c : Ct) (p : Int) : Int := if c.opn = false then 15 else if (c.over || c.st.over) = true then 12 else if seatP c p < 0 then 14 else 0
def mayOpenP (c : Ct) (e : Ev) : Int := if c.opn = true then 15 else if e.player < 1 ∨ e.other < 1 ∨ e.player = e.other ∨ e.n < 0 ∨ 4294967295 < e.n then 1 else 0
theorem mayAct_h (c : Ct) (e : Ev) : Holds Try.prog 56 [.ptr (.arg 0) 0, .ev e] [(.arg 0, ctB (.arg 0) c)] (fun r h' => r = .int .i64 (actP c e.player) ∧ h' = [(.arg 0, ctB (.arg 0) c)]) := by
  refine holds_of_awp Try.func56 rfl (by decide +kernel) mixed Try.ntmps56 Try.results56 ?_
  simp only [entrySt, List.map_cons, List.map_nil, List.length_cons, List.length_nil, Nat.reduceAdd, Nat.reduceSub, List.replicate_succ, List.replicate_zero, List.cons_append, List.nil_append]
  (refine zs ?_; try exact trivial)
  refine c_b (fun d => ?_) (fun d => ?_)
  · have e1 : actP c e.player = 15 := by
      unfold actP
      cases q : c.opn <;> simp_all
    rw [e1]
    (refine zs ?_; try exact trivial)
  · (refine zs ?_; try exact trivial)
    refine a_call [.arg 0] (ended_h c) (ok1 rfl) ?_ ?_ ?_
    · (refine zs ?_; try exact trivial)
    · (refine zs ?_; try exact trivial)
    rintro _ _ ⟨rfl, rfl⟩
    (refine zs ?_; try exact trivial)
    have d1 : c.opn = true := by cases q : c.opn <;> simp_all
    refine c_b (fun d2 => ?_) (fun d2 => ?_)
    · have e1 : actP c e.player = 12 := by
        unfold actP
        rw [if_neg (by simp [d1]), if_pos d2]
      rw [e1]
      (refine zs ?_; try exact trivial)
    · (refine zs ?_; try exact trivial)
      refine a_call [.arg 0] (seat_h c e.player) (ok1 rfl) ?_ ?_ ?_
      · (refine zs ?_; try exact trivial)
      · (refine zs ?_; try exact trivial)
      rintro _ _ ⟨rfl, rfl⟩
      (refine zs ?_; try exact trivial)
      refine c_dec (fun h => ?_) (fun h => ?_)
      · have e1 : actP c e.player = 14 := by
          unfold actP
          rw [if_neg (by simp [d1]), if_neg (by simp [d2]), if_pos h]
        rw [e1]
        (refine zs ?_; try exact trivial)
      · have e1 : actP c e.player = 0 := by
          unfold actP
          rw [if_neg (by simp [d1]), if_neg (by simp [d2]), if_neg h]
        rw [e1]
        (refine zs ?_; try exact trivial)
theorem mayOpen_h (c : Ct) (e : Ev) : Holds Try.prog 36 [.ptr (.arg 0) 0, .ev e] [(.arg 0, ctB (.arg 0) c)] (fun r h' => r = .int .i64 (mayOpenP c e) ∧ h' = [(.arg 0, ctB (.arg 0) c)]) := by
  refine holds_of_awp Try.func36 rfl (by decide +kernel) mixed Try.ntmps36 Try.results36 ?_
  simp only [entrySt, List.map_cons, List.map_nil, List.length_cons, List.length_nil, Nat.reduceAdd, Nat.reduceSub, List.replicate_succ, List.replicate_zero, List.cons_append, List.nil_append]
  (refine zs ?_; try exact trivial)
  refine c_b (fun d => ?_) (fun d => ?_)
  · have e1 : mayOpenP c e = 15 := by unfold mayOpenP; rw [if_pos d]
    rw [e1]
    (refine zs ?_; try exact trivial)
  · (refine zs ?_; try exact trivial)
    cases d1 : decide (e.player < 1)
    · have d1f := of_decide_eq_false d1
      cases d2 : decide (e.other < 1)
      · have d2f := of_decide_eq_false d2
        cases d3 : decide (e.player = e.other)
        · have d3f := of_decide_eq_false d3
          cases d4 : decide (e.n < 0)
          · have d4f := of_decide_eq_false d4
            simp (maxSteps := 2000000) (disch := omega) only [go_sem, Nat.reduceAdd, Nat.reduceSub, Nat.reduceMul, Nat.reduceBEq, Nat.reduceEqDiff, Nat.reduceLT, Nat.reduceLeDiff, Nat.reduceDiv, reduceIte, reduceCtorEq, d1, d2, d3, d4]
            refine c_dec (fun h => ?_) (fun h => ?_)
            · have e1 : mayOpenP c e = 1 := by
                unfold mayOpenP
                rw [if_neg (by simp [d]), if_pos (by omega)]
              rw [e1]
              (refine zs ?_; try exact trivial)
            · have e1 : mayOpenP c e = 0 := by
                unfold mayOpenP
                rw [if_neg (by simp [d]), if_neg (by omega)]
              rw [e1]
              (refine zs ?_; try exact trivial)
          · have d4f := of_decide_eq_true d4
            have e1 : mayOpenP c e = 1 := by
              unfold mayOpenP
              rw [if_neg (by simp [d]), if_pos (by omega)]
            rw [e1]
            simp (maxSteps := 2000000) (disch := omega) only [go_sem, Nat.reduceAdd, Nat.reduceSub, Nat.reduceMul, Nat.reduceBEq, Nat.reduceEqDiff, Nat.reduceLT, Nat.reduceLeDiff, Nat.reduceDiv, reduceIte, reduceCtorEq, d1, d2, d3, d4]
        · have d3f := of_decide_eq_true d3
          have e1 : mayOpenP c e = 1 := by
            unfold mayOpenP
            rw [if_neg (by simp [d]), if_pos (by omega)]
          rw [e1]
          simp (maxSteps := 2000000) (disch := omega) only [go_sem, Nat.reduceAdd, Nat.reduceSub, Nat.reduceMul, Nat.reduceBEq, Nat.reduceEqDiff, Nat.reduceLT, Nat.reduceLeDiff, Nat.reduceDiv, reduceIte, reduceCtorEq, d1, d2, d3]
      · have d2f := of_decide_eq_true d2
        have e1 : mayOpenP c e = 1 := by
          unfold mayOpenP
          rw [if_neg (by simp [d]), if_pos (by omega)]
        rw [e1]
        simp (maxSteps := 2000000) (disch := omega) only [go_sem, Nat.reduceAdd, Nat.reduceSub, Nat.reduceMul, Nat.reduceBEq, Nat.reduceEqDiff, Nat.reduceLT, Nat.reduceLeDiff, Nat.reduceDiv, reduceIte, reduceCtorEq, d1, d2]
    · have d1f := of_decide_eq_true d1
      have e1 : mayOpenP c e = 1 := by
        unfold mayOpenP
        rw [if_neg (by simp [d]), if_pos (by omega)]
      rw [e1]
      simp (maxSteps := 2000000) (disch := omega) only [go_sem, Nat.reduceAdd, Nat.reduceSub, Nat.reduceMul, Nat.reduceBEq, Nat.reduceEqDiff, Nat.reduceLT, Nat.reduceLeDiff, Nat.reduceDiv, reduceIte, reduceCtorEq, d1]
end Go.Proofs.Ytamcjecgkfmjkaa

/- From the logic to the rows of the laws: an event. -/
open Go Go.RowKit Go.ChangeShapes Go.WideShapes
namespace Go.Proofs.Ytamcjecgkfmjkaa
set_option linter.unusedVariables false
theorem u16_wf {z : Int} (h : (Lit.int .u16 z).wf = true) : U16 (UInt16.ofNat z.toNat) = z := by
  simp only [Lit.wf, Bool.and_eq_true, decide_eq_true_eq] at h
  have e1 : IntKind.u16.min = 0 := by kernel_rfl
  have e2 : IntKind.u16.max = 65535 := by kernel_rfl
  rw [e1, e2] at h
  unfold U16; rw [UInt16.toNat_ofNat']; omega
set_option maxRecDepth 100000 in
theorem open_u16 {H : Type} {enc : TypeId × Value → H} {W : World} {v : Value} {d : DataW H} {ps : List MemPlace} {r : Reach} {b0 : Nat}
    (hv : Value.okWide Try.prog W r b0 35 v) (h : DataW.Trod enc Try.prog W 0 (fun _ => true) true 35 v d ps) :
    ∃ u : UInt16, RelW (ghOf W) (.c (.val (.int .u16 (U16 u)))) v := by
  obtain ⟨z, hr, h1, h2⟩ := open_intn Try.underlying35 hv h
  have e1 : IntKind.u16.min = 0 := by kernel_rfl
  have e2 : IntKind.u16.max = 65535 := by kernel_rfl
  rw [e1] at h1
  rw [e2] at h2
  refine ⟨UInt16.ofNat z.toNat, ?_⟩
  have e : U16 (UInt16.ofNat z.toNat) = z := by unfold U16; rw [UInt16.toNat_ofNat']; omega
  rw [e]
  exact hr
theorem ev_inv {cs : List Value} (h : All2 okW [some .i64, some .i64, some .i64, some .i64, some .u16, some .i64] cs) : ∃ e : Ev, cs.map C.val = evC e := by
  obtain ⟨_, l1, rfl, ⟨a, rfl, _⟩, h1⟩ := h.cons_inv
  obtain ⟨_, l2, rfl, ⟨b, rfl, _⟩, h2⟩ := h1.cons_inv
  obtain ⟨_, l3, rfl, ⟨c, rfl, _⟩, h3⟩ := h2.cons_inv
  obtain ⟨_, l4, rfl, ⟨d, rfl, _⟩, h4⟩ := h3.cons_inv
  obtain ⟨_, l5, rfl, ⟨x, rfl, hx⟩, h5⟩ := h4.cons_inv
  obtain ⟨_, l6, rfl, ⟨f, rfl, _⟩, h6⟩ := h5.cons_inv
  obtain rfl := h6.nil_inv
  refine ⟨⟨a, b, c, d, UInt16.ofNat x.toNat, f⟩, ?_⟩
  simp only [List.map_cons, List.map_nil, evC, u16_wf hx]
theorem flatEv : flatK Try.prog 8 37 = some [some .i64, some .i64, some .i64, some .i64, some .u16, some .i64] := by kernel_rfl
set_option maxRecDepth 100000 in
theorem open_ev {H : Type} {enc : TypeId × Value → H} {W : World} {v : Value} {d : DataW H} {ps : List MemPlace} {r : Reach} {b0 : Nat}
    (hv : Value.okWide Try.prog W r b0 37 v) (h : DataW.Trod enc Try.prog W 0 (fun _ => true) true 37 v d ps) :
    ∃ e : Ev, RelW (ghOf W) (.agg (evC e)) v := by
  obtain ⟨cs, rfl, _⟩ := okWide_struct Try.underlying37 hv
  obtain ⟨h1, h2⟩ := open_flat flatEv h
  obtain ⟨e, he⟩ := ev_inv h1
  refine ⟨e, ?_⟩
  rw [he] at h2
  exact h2
end Go.Proofs.Ytamcjecgkfmjkaa

/- Chapter 18: what an event does. -/
open Go Go.RowKit
namespace Go.Proofs.Ytamcjecgkfmjkaa
set_option linter.unusedSimpArgs false
set_option linter.unusedVariables false
theorem bare1_h (e : Ev) : Holds Try.prog 38 [.ev e] [] (fun r h' => r = .w (.ev { e with player := 0, other := 0, n := 0 }) ∧ h' = []) := by
  refine holds_of_awp Try.func38 rfl (by decide +kernel) mixed Try.ntmps38 Try.results38 ?_
  simp only [entrySt, List.map_cons, List.map_nil, List.length_cons, List.length_nil, Nat.reduceAdd, Nat.reduceSub, List.replicate_succ, List.replicate_zero, List.cons_append, List.nil_append]
  (refine zs ?_; try exact trivial)
theorem bare2_h (e : Ev) : Holds Try.prog 41 [.ev e] [] (fun r h' => r = .w (.ev { e with player := 0 }) ∧ h' = []) := by
  refine holds_of_awp Try.func41 rfl (by decide +kernel) mixed Try.ntmps41 Try.results41 ?_
  simp only [entrySt, List.map_cons, List.map_nil, List.length_cons, List.length_nil, Nat.reduceAdd, Nat.reduceSub, List.replicate_succ, List.replicate_zero, List.cons_append, List.nil_append]
  (refine zs ?_; try exact trivial)
theorem bare3_h (e : Ev) : Holds Try.prog 44 [.ev e] [] (fun r h' => r = .w (.ev { e with player := 0, frame := 0, inp := 0 }) ∧ h' = []) := by
  refine holds_of_awp Try.func44 rfl (by decide +kernel) mixed Try.ntmps44 Try.results44 ?_
  simp only [entrySt, List.map_cons, List.map_nil, List.length_cons, List.length_nil, Nat.reduceAdd, Nat.reduceSub, List.replicate_succ, List.replicate_zero, List.cons_append, List.nil_append]
  (refine zs ?_; try exact trivial)
  rfl
theorem bare4_h (e : Ev) : Holds Try.prog 47 [.ev e] [] (fun r h' => r = .w (.ev { e with player := 0 }) ∧ h' = []) := by
  refine holds_of_awp Try.func47 rfl (by decide +kernel) mixed Try.ntmps47 Try.results47 ?_
  simp only [entrySt, List.map_cons, List.map_nil, List.length_cons, List.length_nil, Nat.reduceAdd, Nat.reduceSub, List.replicate_succ, List.replicate_zero, List.cons_append, List.nil_append]
  (refine zs ?_; try exact trivial)
theorem bare5_h (e : Ev) : Holds Try.prog 50 [.ev e] [] (fun r h' => r = .w (.ev { e with player := 0, n := 0 }) ∧ h' = []) := by
  refine holds_of_awp Try.func50 rfl (by decide +kernel) mixed Try.ntmps50 Try.results50 ?_
  simp only [entrySt, List.map_cons, List.map_nil, List.length_cons, List.length_nil, Nat.reduceAdd, Nat.reduceSub, List.replicate_succ, List.replicate_zero, List.cons_append, List.nil_append]
  (refine zs ?_; try exact trivial)
def mayJoinP (c : Ct) (e : Ev) : Int := if actP c e.player ≠ 0 then actP c e.player else if 100 ≤ (if seatP c e.player = 0 then c.l0 else c.l1) then 17 else 0
theorem seat_cases (c : Ct) (x : Int) (h : 0 ≤ seatP c x) : seatP c x = 0 ∨ seatP c x = 1 := by unfold seatP at *; split at h <;> simp_all; split at h <;> simp_all
theorem act_seat {c : Ct} {x : Int} (h : actP c x = 0) : 0 ≤ seatP c x := by
  unfold actP at h
  split at h
  · omega
  · split at h
    · omega
    · split at h <;> omega
theorem mayJoin_h (c : Ct) (e : Ev) : Holds Try.prog 39 [.ptr (.arg 0) 0, .ev e] [(.arg 0, ctB (.arg 0) c)] (fun r h' => r = .int .i64 (mayJoinP c e) ∧ h' = [(.arg 0, ctB (.arg 0) c)]) := by
  refine holds_of_awp Try.func39 rfl (by decide +kernel) mixed Try.ntmps39 Try.results39 ?_
  simp only [entrySt, List.map_cons, List.map_nil, List.length_cons, List.length_nil, Nat.reduceAdd, Nat.reduceSub, List.replicate_succ, List.replicate_zero, List.cons_append, List.nil_append]
  (refine zs ?_; try exact trivial)
  refine a_call [.arg 0] (mayAct_h c e) (ok1 rfl) ?_ ?_ ?_
  · (refine zs ?_; try exact trivial)
  · (refine zs ?_; try exact trivial)
  rintro _ _ ⟨rfl, rfl⟩
  (refine zs ?_; try exact trivial)
  refine c_dec (fun h => ?_) (fun h => ?_)
  · have e1 : mayJoinP c e = actP c e.player := by unfold mayJoinP; rw [if_pos (by omega)]
    rw [e1]
    (refine zs ?_; try exact trivial)
  · have ha : actP c e.player = 0 := by omega
    have hs := act_seat ha
    (refine zs ?_; try exact trivial)
    refine a_drawC (⟨[.undef, .undef, .undef, .undef, .undef, .undef, .undef, .undef, .undef, .undef, .undef, .undef, .undef, .undef, .undef, .undef, .undef, .undef, .undef, .undef, .undef, .undef, V.bool (decide (100 ≤ (if seatP c e.player = 0 then c.l0 else c.l1)))], [(.arg 0, ctB (.arg 0) c)]⟩) (.take 0 (.take 1 (.take 2 (.take 5 (.take 6 (.take 7 (.both [(3, .both [(4, .take 8 (.take 9 (.take 10 (.done))))])]))))))) (by kernel_rfl) (by kernel_rfl) ?_ ?_
    · (refine zc ?_; try exact trivial)
      repeat' (with_reducible apply And.intro)
      all_goals (
        refine a_call [.arg 0] (seat_h c e.player) (ok1 rfl) ?_ ?_ ?_
        · (refine zs ?_; try exact trivial)
        · (refine zs ?_; try exact trivial)
        rintro _ _ ⟨rfl, rfl⟩
        rcases seat_cases c e.player hs with q | q
        · rw [q]
          (refine zc ?_; try exact trivial)
        · rw [q]
          (refine zc ?_; try exact trivial))
    · (refine zs ?_; try exact trivial)
      refine c_dec (fun h2 => ?_) (fun h2 => ?_)
      · have e1 : mayJoinP c e = 17 := by unfold mayJoinP; rw [if_neg (by omega), if_pos h2]
        rw [e1]
        (refine zs ?_; try exact trivial)
      · have e1 : mayJoinP c e = 0 := by unfold mayJoinP; rw [if_neg (by omega), if_neg h2]
        rw [e1]
        (refine zs ?_; try exact trivial)
theorem mayForfeit_h (c : Ct) (e : Ev) : Holds Try.prog 45 [.ptr (.arg 0) 0, .ev e] [(.arg 0, ctB (.arg 0) c)] (fun r h' => r = .int .i64 (actP c e.player) ∧ h' = [(.arg 0, ctB (.arg 0) c)]) := by
  refine holds_of_awp Try.func45 rfl (by decide +kernel) mixed Try.ntmps45 Try.results45 ?_
  simp only [entrySt, List.map_cons, List.map_nil, List.length_cons, List.length_nil, Nat.reduceAdd, Nat.reduceSub, List.replicate_succ, List.replicate_zero, List.cons_append, List.nil_append]
  (refine zs ?_; try exact trivial)
  refine a_call [.arg 0] (mayAct_h c e) (ok1 rfl) ?_ ?_ ?_
  · (refine zs ?_; try exact trivial)
  · (refine zs ?_; try exact trivial)
  rintro _ _ ⟨rfl, rfl⟩
  (refine zs ?_; try exact trivial)
def joinP (c : Ct) (e : Ev) : Ct := if seatP c e.player = 0 then { c with l0 := c.l0 + 1 } else { c with l1 := c.l1 + 1 }
def forfeitP (c : Ct) (e : Ev) : Ct := { c with over := true, winner := 1 - seatP c e.player, why := 3 }
def resultP (c : Ct) (e : Ev) : Ct := { c with over := true, winner := seatP c e.player, why := e.n }
theorem join_h (c : Ct) (e : Ev) (hs : 0 ≤ seatP c e.player) (h0 : 0 ≤ c.l0 ∧ c.l0 ≤ 1000) (h1 : 0 ≤ c.l1 ∧ c.l1 ≤ 1000) : Holds Try.prog 40 [.ptr (.arg 0) 0, .ev e] [(.arg 0, ctB (.arg 0) c)] (fun r h' => r = .tup [] ∧ h' = [(.arg 0, ctB (.arg 0) (joinP c e))]) := by
  refine holds_of_awp Try.func40 rfl (by decide +kernel) mixed Try.ntmps40 Try.results40 ?_
  simp only [entrySt, List.map_cons, List.map_nil, List.length_cons, List.length_nil, Nat.reduceAdd, Nat.reduceSub, List.replicate_succ, List.replicate_zero, List.cons_append, List.nil_append]
  (refine zs ?_; try exact trivial)
  refine a_drawC (⟨[.undef, .undef, .undef, .undef, .undef, .undef, .undef, .undef, .undef, .undef, .undef, .undef, .undef, .undef, .undef, .undef, .undef, .undef, .undef], [(.arg 0, ctB (.arg 0) (joinP c e))]⟩) (.take 0 (.take 1 (.take 2 (.take 5 (.take 6 (.take 7 (.take 11 (.take 12 (.take 13 (.both [(3, .both [(4, .take 8 (.both [(9, .take 10 (.take 14 (.both [(15, .done)])))]))])])))))))))) (by kernel_rfl) (by kernel_rfl) ?_ ?_
  · (refine zc ?_; try exact trivial)
    repeat' (with_reducible apply And.intro)
    all_goals first | omega | skip
    all_goals (
      refine a_call [.arg 0] (seat_h c e.player) (ok1 rfl) ?_ ?_ ?_
      · (refine zs ?_; try exact trivial)
      · (refine zs ?_; try exact trivial)
      rintro _ _ ⟨rfl, rfl⟩
      rcases seat_cases c e.player hs with q | q
      · have ej : joinP c e = { c with l0 := c.l0 + 1 } := by simp [joinP, q]
        rw [ej, q]
        (refine zc ?_; try exact trivial)
      · have ej : joinP c e = { c with l1 := c.l1 + 1 } := by simp [joinP, q]
        rw [ej, q]
        (refine zc ?_; try exact trivial))
  · (refine zs ?_; try exact trivial)
theorem forfeit_h (c : Ct) (e : Ev) (hs : 0 ≤ seatP c e.player) : Holds Try.prog 46 [.ptr (.arg 0) 0, .ev e] [(.arg 0, ctB (.arg 0) c)] (fun r h' => r = .tup [] ∧ h' = [(.arg 0, ctB (.arg 0) (forfeitP c e))]) := by
  refine holds_of_awp Try.func46 rfl (by decide +kernel) mixed Try.ntmps46 Try.results46 ?_
  simp only [entrySt, List.map_cons, List.map_nil, List.length_cons, List.length_nil, Nat.reduceAdd, Nat.reduceSub, List.replicate_succ, List.replicate_zero, List.cons_append, List.nil_append]
  (refine zs ?_; try exact trivial)
  refine a_call [.arg 0] (seat_h c e.player) (ok1 rfl) ?_ ?_ ?_
  · (refine zs ?_; try exact trivial)
  · (refine zs ?_; try exact trivial)
  rintro _ _ ⟨rfl, rfl⟩
  rcases seat_cases c e.player hs with q | q
  · have ej : forfeitP c e = { c with over := true, winner := 1, why := 3 } := by simp [forfeitP, q]
    rw [ej, q]
    (refine zc ?_; try exact trivial)
  · have ej : forfeitP c e = { c with over := true, winner := 0, why := 3 } := by simp [forfeitP, q]
    rw [ej, q]
    (refine zc ?_; try exact trivial)
theorem result_h (c : Ct) (e : Ev) (hs : 0 ≤ seatP c e.player) : Holds Try.prog 49 [.ptr (.arg 0) 0, .ev e] [(.arg 0, ctB (.arg 0) c)] (fun r h' => r = .tup [] ∧ h' = [(.arg 0, ctB (.arg 0) (resultP c e))]) := by
  refine holds_of_awp Try.func49 rfl (by decide +kernel) mixed Try.ntmps49 Try.results49 ?_
  simp only [entrySt, List.map_cons, List.map_nil, List.length_cons, List.length_nil, Nat.reduceAdd, Nat.reduceSub, List.replicate_succ, List.replicate_zero, List.cons_append, List.nil_append]
  (refine zs ?_; try exact trivial)
  refine a_drawC (⟨[.undef, .undef, .undef, .undef, .undef, .undef, .undef, .undef, .undef, .undef, .undef, .undef, .undef, .undef, .undef, .undef, .undef, .undef, .undef, .undef, .undef, .undef], [(.arg 0, ctB (.arg 0) (resultP c e))]⟩) (.take 0 (.take 1 (.take 2 (.take 3 (.take 4 (.take 7 (.both [(5, .both [(6, .take 9 (.take 10 (.take 11 (.both [(8, .both [(12, .take 13 (.take 14 (.take 15 (.both [(16, .take 17 (.take 18 (.take 19 (.both [(20, .done)]))))]))))]), (12, .take 13 (.take 14 (.take 15 (.both [(8, .both [(16, .take 17 (.take 18 (.take 19 (.both [(20, .done)]))))]), (16, .both [(8, .take 17 (.take 18 (.take 19 (.both [(20, .done)]))))])]))))])))), (8, .both [(6, .take 9 (.take 10 (.take 11 (.both [(12, .take 13 (.take 14 (.take 15 (.both [(16, .take 17 (.take 18 (.take 19 (.both [(20, .done)]))))]))))]))))])]), (8, .both [(5, .both [(6, .take 9 (.take 10 (.take 11 (.both [(12, .take 13 (.take 14 (.take 15 (.both [(16, .take 17 (.take 18 (.take 19 (.both [(20, .done)]))))]))))]))))])])]))))))) (by kernel_rfl) (by kernel_rfl) ?_ ?_
  · (refine zc ?_; try exact trivial)
    repeat' (with_reducible apply And.intro)
    all_goals first | omega | skip
    all_goals (
      refine a_call [.arg 0] (seat_h c e.player) (ok1 rfl) ?_ ?_ ?_
      · (refine zs ?_; try exact trivial)
      · (refine zs ?_; try exact trivial)
      rintro _ _ ⟨rfl, rfl⟩
      rcases seat_cases c e.player hs with q | q
      · have ej : resultP c e = { c with over := true, winner := 0, why := e.n } := by simp [resultP, q]
        rw [ej, q]
        (refine zc ?_; try exact trivial)
      · have ej : resultP c e = { c with over := true, winner := 1, why := e.n } := by simp [resultP, q]
        rw [ej, q]
        (refine zc ?_; try exact trivial))
  · (refine zs ?_; try exact trivial)
def resP (s : Sta) (cap : Int) : Int × Int × Bool := if s.over = false then (0, 0, false) else (if s.win = 2 then 0 else s.win, if s.frame = cap then 2 else 1, true)
theorem dresult_h (s : Sta) (cap fuel : Int) (o : Own) (nl : Option Bool) (l : List (Int × Int)) : Holds Try.prog 58 [.agg ((sd s).map D.toC), .agg [.lst .no none 2 (ins l), .val (.int .i64 cap), .val (.int .i64 fuel)]] [] (fun r h' => r = .tup [.int .i64 (resP s cap).1, .int .i64 (resP s cap).2.1, .c (.val (.bool (resP s cap).2.2))] ∧ h' = []) := by
  refine holds_of_awp Try.func58 rfl (by decide +kernel) mixed Try.ntmps58 Try.results58 ?_
  simp only [entrySt, List.map_cons, List.map_nil, List.length_cons, List.length_nil, Nat.reduceAdd, Nat.reduceSub, List.replicate_succ, List.replicate_zero, List.cons_append, List.nil_append]
  (refine zs ?_; try exact trivial)
  refine c_b (fun d => ?_) (fun d => ?_)
  · have d' : s.over = false := by simpa using d
    have e : resP s cap = (0, 0, false) := by unfold resP; rw [if_pos d']
    rw [e]
    (refine zs ?_; try exact trivial)
  · have d' : s.over = true := by simpa using d
    (refine zs ?_; try exact trivial)
    refine c_dec (fun w => ?_) (fun w => ?_)
    · (refine zs ?_; try exact trivial)
      refine c_dec (fun f => ?_) (fun f => ?_)
      · have e : resP s cap = (0, 2, true) := by unfold resP; rw [if_neg (by simp [d']), if_pos w, if_pos f]
        rw [e]
        (refine zs ?_; try exact trivial)
      · have e : resP s cap = (0, 1, true) := by unfold resP; rw [if_neg (by simp [d']), if_pos w, if_neg f]
        rw [e]
        (refine zs ?_; try exact trivial)
    · (refine zs ?_; try exact trivial)
      refine c_dec (fun f => ?_) (fun f => ?_)
      · have e : resP s cap = (s.win, 2, true) := by unfold resP; rw [if_neg (by simp [d']), if_neg w, if_pos f]
        rw [e]
        (refine zs ?_; try exact trivial)
      · have e : resP s cap = (s.win, 1, true) := by unfold resP; rw [if_neg (by simp [d']), if_neg w, if_neg f]
        rw [e]
        (refine zs ?_; try exact trivial)
/-- may this be the result? -/
def mayResultP (c : Ct) (e : Ev) : Int :=
  if c.opn = false then 15 else if c.over = true then 12 else if (resP c.st c.cap).2.2 = false then 15
  else if e.player ≠ (if (resP c.st c.cap).1 = 0 then c.p0 else c.p1) ∨ e.n ≠ (resP c.st c.cap).2.1 then 18 else 0
set_option maxHeartbeats 1000000 in
theorem mayResult_h (c : Ct) (e : Ev) (hw : 0 ≤ c.st.win ∧ c.st.win ≤ 2) : Holds Try.prog 48 [.ptr (.arg 0) 0, .ev e] [(.arg 0, ctB (.arg 0) c)] (fun r h' => r = .int .i64 (mayResultP c e) ∧ h' = [(.arg 0, ctB (.arg 0) c)]) := by
  refine holds_of_awp Try.func48 rfl (by decide +kernel) mixed Try.ntmps48 Try.results48 ?_
  simp only [entrySt, List.map_cons, List.map_nil, List.length_cons, List.length_nil, Nat.reduceAdd, Nat.reduceSub, List.replicate_succ, List.replicate_zero, List.cons_append, List.nil_append]
  (refine zs ?_; try exact trivial)
  refine a_drawC (⟨[V.cell (.ptr (.arg 0) 0), .undef, .undef, V.cell (.ptr (.loc [3]) 0), .undef, V.int .i64 (resP c.st c.cap).1, V.int .i64 (resP c.st c.cap).2.1, V.bool (resP c.st c.cap).2.2, .undef, .undef, .undef, .undef, .undef, .undef, .undef, .undef, .undef, .undef, .undef, .undef, .undef, .undef, .undef, .undef, .undef, .undef, .undef, .undef, .undef, .undef, .undef, .undef, .undef, .undef, .undef, .undef, .undef, .undef, .undef, .undef, .undef, .undef, .undef, .undef, .undef, .undef, .undef, .undef, .undef, .undef, .undef, .undef, .undef, .undef], [(.loc [3], evC e), (.arg 0, ctB (.arg 0) c)]⟩) (.take 0 (.take 1 (.take 2 (.take 4 (.take 5 (.take 6 (.both [(3, .both [(7, .both [(8, .take 9 (.take 10 (.take 11 (.take 12 (.take 13 (.take 14 (.take 15 (.done))))))))])]), (7, .both [(3, .both [(8, .take 9 (.take 10 (.take 11 (.take 12 (.take 13 (.take 14 (.take 15 (.done))))))))])])]))))))) (by kernel_rfl) (by kernel_rfl) ?_ ?_
  · (refine zc ?_; try exact trivial)
    repeat' (with_reducible apply And.intro)
    all_goals (
      refine a_call [] (dresult_h c.st c.cap c.fuel .no none c.code) ok0 ?_ ?_ ?_
      · (refine zs ?_; try exact trivial)
      · (refine zs ?_; try exact trivial)
      rintro _ _ ⟨rfl, rfl⟩
      (refine zc ?_; try exact trivial))
  · have hb : (resP c.st c.cap).1 = 0 ∨ (resP c.st c.cap).1 = 1 := by
      unfold resP
      split
      · exact .inl rfl
      · split
        · exact .inl rfl
        · show c.st.win = 0 ∨ c.st.win = 1; omega
    unfold mayResultP
    generalize resP c.st c.cap = q at *
    obtain ⟨w, y, o⟩ := q
    simp only at hb ⊢
    (refine zs ?_; try exact trivial)
    refine c_b (fun d => ?_) (fun d => ?_)
    · have d' : c.opn = false := by simpa using d
      rw [if_pos d']
      (refine zs ?_; try exact trivial)
    · have d' : ¬ c.opn = false := by simpa using d
      rw [if_neg d']
      (refine zs ?_; try exact trivial)
      refine c_b (fun d2 => ?_) (fun d2 => ?_)
      · rw [if_pos d2]
        (refine zs ?_; try exact trivial)
      · rw [if_neg (by simp [d2])]
        cases o
        · rw [if_pos rfl]
          (refine zc ?_; try exact trivial)
        · rw [if_neg (by simp)]
          (refine zc ?_; try exact trivial)
          refine a_drawC (⟨[.undef, .undef, .undef, .undef, .undef, .undef, .undef, .undef, .undef, .undef, .undef, .undef, .undef, .undef, .undef, .undef, .undef, .undef, .undef, .undef, .undef, .undef, .undef, .undef, .undef, .undef, .undef, .undef, .undef, .undef, .undef, .undef, .undef, .undef, .undef, .undef, .undef, V.bool (decide (e.player ≠ (if w = 0 then c.p0 else c.p1) ∨ e.n ≠ y)), .undef, .undef, .undef, .undef, .undef, .undef, .undef, .undef, .undef, .undef, .undef, .undef, .undef, .undef, .undef, .undef], [(.arg 0, ctB (.arg 0) c)]⟩) (.take 0 (.take 1 (.take 2 (.take 3 (.take 4 (.take 5 (.take 6 (.take 7 (.take 8 (.take 9 (.take 10 (.take 11 (.take 12 (.take 13 (.take 14 (.take 15 (.take 16 (.done)))))))))))))))))) (by kernel_rfl) (by kernel_rfl) ?_ ?_
          · rcases hb with rfl | rfl
            · by_cases q : e.player = c.p0
              · simp (maxSteps := 2000000) (disch := omega) only [go_sem, Nat.reduceAdd, Nat.reduceSub, Nat.reduceMul, Nat.reduceBEq, Nat.reduceEqDiff, Nat.reduceLT, Nat.reduceLeDiff, Nat.reduceDiv, reduceIte, reduceCtorEq, q, not_true_eq_false, not_false_eq_true, decide_true, decide_false, true_or, false_or]
              · simp (maxSteps := 2000000) (disch := omega) only [go_sem, Nat.reduceAdd, Nat.reduceSub, Nat.reduceMul, Nat.reduceBEq, Nat.reduceEqDiff, Nat.reduceLT, Nat.reduceLeDiff, Nat.reduceDiv, reduceIte, reduceCtorEq, q, not_true_eq_false, not_false_eq_true, decide_true, decide_false, true_or, false_or]
            · by_cases q : e.player = c.p1
              · simp (maxSteps := 2000000) (disch := omega) only [go_sem, Nat.reduceAdd, Nat.reduceSub, Nat.reduceMul, Nat.reduceBEq, Nat.reduceEqDiff, Nat.reduceLT, Nat.reduceLeDiff, Nat.reduceDiv, reduceIte, reduceCtorEq, q, Int.reduceEq, not_true_eq_false, not_false_eq_true, decide_true, decide_false, true_or, false_or]
              · simp (maxSteps := 2000000) (disch := omega) only [go_sem, Nat.reduceAdd, Nat.reduceSub, Nat.reduceMul, Nat.reduceBEq, Nat.reduceEqDiff, Nat.reduceLT, Nat.reduceLeDiff, Nat.reduceDiv, reduceIte, reduceCtorEq, q, Int.reduceEq, not_true_eq_false, not_false_eq_true, decide_true, decide_false, true_or, false_or]
          · (refine zs ?_; try exact trivial)
            refine c_dec (fun h => ?_) (fun h => ?_)
            · rw [if_pos h]
              (refine zs ?_; try exact trivial)
            · rw [if_neg h]
              (refine zs ?_; try exact trivial)
end Go.Proofs.Ytamcjecgkfmjkaa

/- The logic: rows whose items take several cells grow. -/
open Go Go.RowKit
namespace Go.Proofs.Ytamcjecgkfmjkaa
set_option linter.unusedSimpArgs false
section
variable {K : V → St → Prop} {d : Nat} {s : St} {o : Own} {nl : Option Bool}
@[go_sem ↓ 900] theorem e_apM {z : List C} {b sz : Nat} {xs : List D} {x : V} (h : 2 ≤ sz) : aAp2 (some z) (some (b + 1)) o nl sz xs sz x d s K = (z.length = sz ∧ o ≠ .no ∧ aSrc sz x s fun ys =>
    (xs.length + ys.length) / sz * (b + 1) ≤ 140737488355328 ∧ K (.cell (.lst (.tag (.slot [d])) (nlA nl) sz (xs ++ ys))) (s.clean (fun _ => false) (killT o d))) := by
  have h0 : 0 < sz := by omega
  simp [aAp2, h0]
@[go_sem ↓ 900] theorem e_srcM {sz : Nat} {ys : List D} {J : List D → Prop} : aSrc sz (.cell (.lst o nl sz ys)) s J = J ys := by simp [aSrc]
/-- onto nil -/
@[go_sem ↓ 890] theorem e_apM0 {z : List C} {b sz sz' : Nat} {x : V} (h : 2 ≤ sz) : aAp2 (some z) (some (b + 1)) .full nl sz' [] sz x d s K = (z.length = sz ∧ aSrc sz x s fun ys =>
    ys.length / sz * (b + 1) ≤ 140737488355328 ∧ K (.cell (.lst (.tag (.slot [d])) (nlA nl) sz ys)) (s.clean (fun _ => false) (killT .full d))) := by
  have h0 : 0 < sz := by omega
  simp [aAp2, h0]
end
end Go.Proofs.Ytamcjecgkfmjkaa

/- Chapter 18: copies; what a match tells. -/
open Go Go.RowKit
namespace Go.Proofs.Ytamcjecgkfmjkaa
set_option linter.unusedSimpArgs false
set_option linter.unusedVariables false
@[go_sem] theorem evs_len {l : List Ev} : (evs l).length = l.length * 6 := by
  induction l with
  | nil => rfl
  | cons s l ih => rw [show evs (s :: l) = evD s ++ evs l by simp [evs], List.length_append, ih, List.length_cons]; simp [evD]; omega
@[go_sem] theorem prs_len {l : List (UInt16 × UInt16)} : (prs l).length = l.length * 2 := by
  induction l with
  | nil => rfl
  | cons s l ih => rw [show prs (s :: l) = prD s ++ prs l by simp [prs], List.length_append, ih, List.length_cons]; simp [prD]; omega
set_option maxHeartbeats 1000000 in
theorem cloneU_h (l : List UInt16) (hb : l.length ≤ 100000000) : Holds Try.prog 31 [.c (.lst .no none 1 (ls fU l))] [] (fun v h' => v = .cell (.lst (.tag (.slot [7])) none 1 (ls fU l)) ∧ h' = []) := by
  refine holds_of_awp Try.func31 rfl (by decide +kernel) mixed Try.ntmps31 Try.results31 ?_
  simp only [entrySt, List.map_cons, List.map_nil, List.length_cons, List.length_nil, Nat.reduceAdd, Nat.reduceSub, List.replicate_succ, List.replicate_zero, List.cons_append, List.nil_append]
  (refine zs ?_; try exact trivial)
  refine ⟨fun e => ?_, ?_⟩
  · exact e
  · refine a_apA ?_
    (refine zs ?_; try exact trivial)
    try omega
set_option maxHeartbeats 1000000 in
theorem cloneI_h (l : List (Int × Int)) (hb : l.length ≤ 100000000) : Holds Try.prog 26 [.c (.lst .no none 2 (ins l))] [] (fun v h' => v = .cell (.lst (.tag (.slot [7])) none 2 (ins l)) ∧ h' = []) := by
  refine holds_of_awp Try.func26 rfl (by decide +kernel) mixed Try.ntmps26 Try.results26 ?_
  simp only [entrySt, List.map_cons, List.map_nil, List.length_cons, List.length_nil, Nat.reduceAdd, Nat.reduceSub, List.replicate_succ, List.replicate_zero, List.cons_append, List.nil_append]
  (refine zs ?_; try exact trivial)
  refine ⟨fun e => ?_, ?_⟩
  · rw [e]; simp [leC]; rfl
  · refine a_apA ?_
    (refine zs ?_; try exact trivial)
    try omega
set_option maxHeartbeats 1000000 in
theorem cloneE_h (l : List Ev) (hb : l.length ≤ 100000000) : Holds Try.prog 32 [.c (.lst .no none 6 (evs l))] [] (fun v h' => v = .cell (.lst (.tag (.slot [7])) none 6 (evs l)) ∧ h' = []) := by
  refine holds_of_awp Try.func32 rfl (by decide +kernel) mixed Try.ntmps32 Try.results32 ?_
  simp only [entrySt, List.map_cons, List.map_nil, List.length_cons, List.length_nil, Nat.reduceAdd, Nat.reduceSub, List.replicate_succ, List.replicate_zero, List.cons_append, List.nil_append]
  (refine zs ?_; try exact trivial)
  refine ⟨fun e => ?_, ?_⟩
  · rw [e]; simp [leC]; rfl
  · refine a_apA ?_
    (refine zs ?_; try exact trivial)
    try omega
set_option maxHeartbeats 1000000 in
theorem cloneP_h (l : List (UInt16 × UInt16)) (hb : l.length ≤ 100000000) : Holds Try.prog 33 [.c (.lst .no none 2 (prs l))] [] (fun v h' => v = .cell (.lst (.tag (.slot [7])) none 2 (prs l)) ∧ h' = []) := by
  refine holds_of_awp Try.func33 rfl (by decide +kernel) mixed Try.ntmps33 Try.results33 ?_
  simp only [entrySt, List.map_cons, List.map_nil, List.length_cons, List.length_nil, Nat.reduceAdd, Nat.reduceSub, List.replicate_succ, List.replicate_zero, List.cons_append, List.nil_append]
  (refine zs ?_; try exact trivial)
  refine ⟨fun e => ?_, ?_⟩
  · rw [e]; simp [leC]; rfl
  · refine a_apA ?_
    (refine zs ?_; try exact trivial)
    try omega
theorem state_h (c : Ct) : Holds Try.prog 15 [.ptr (.arg 0) 0] [(.arg 0, ctB (.arg 0) c)] (fun r h' => r = .w (.agg ((sd c.st).map D.toC)) ∧ h' = [(.arg 0, ctB (.arg 0) c)]) := by
  refine holds_of_awp Try.func15 rfl (by decide +kernel) mixed Try.ntmps15 Try.results15 ?_
  simp only [entrySt, List.map_cons, List.map_nil, List.length_cons, List.length_nil, Nat.reduceAdd, Nat.reduceSub, List.replicate_succ, List.replicate_zero, List.cons_append, List.nil_append]
  (refine zs ?_; try exact trivial)
theorem state0_h : Holds Try.prog 15 [.c (.val (.pointer none))] [] (fun r h' => r = .w (.agg ((sd (stz 0 0)).map D.toC)) ∧ h' = []) := by
  refine holds_of_awp Try.func15 rfl (by decide +kernel) mixed Try.ntmps15 Try.results15 ?_
  simp only [entrySt, List.map_cons, List.map_nil, List.length_cons, List.length_nil, Nat.reduceAdd, Nat.reduceSub, List.replicate_succ, List.replicate_zero, List.cons_append, List.nil_append]
  (refine zs ?_; try exact trivial)
abbrev statC (c : Ct) : List C := [.val (.int .i64 c.p0), .val (.int .i64 c.p1), .val (.int .u32 (U32 c.seed)), .val (.int .i64 c.l0), .val (.int .i64 c.l1), .val (.int .i64 c.in0.length), .val (.int .i64 c.in1.length), .val (.bool c.over), .val (.int .i64 c.winner), .val (.int .i64 c.why), .val (.bool c.opn)]
theorem status_h (c : Ct) : Holds Try.prog 16 [.ptr (.arg 0) 0] [(.arg 0, ctB (.arg 0) c)] (fun r h' => r = .w (.agg (statC c)) ∧ h' = [(.arg 0, ctB (.arg 0) c)]) := by
  refine holds_of_awp Try.func16 rfl (by decide +kernel) mixed Try.ntmps16 Try.results16 ?_
  simp only [entrySt, List.map_cons, List.map_nil, List.length_cons, List.length_nil, Nat.reduceAdd, Nat.reduceSub, List.replicate_succ, List.replicate_zero, List.cons_append, List.nil_append]
  (refine zs ?_; try exact trivial)
theorem status0_h : Holds Try.prog 16 [.c (.val (.pointer none))] [] (fun r h' => r = .w (.agg [.val (.int .i64 0), .val (.int .i64 0), .val (.int .u32 0), .val (.int .i64 0), .val (.int .i64 0), .val (.int .i64 0), .val (.int .i64 0), .val (.bool false), .val (.int .i64 0), .val (.int .i64 0), .val (.bool false)]) ∧ h' = []) := by
  refine holds_of_awp Try.func16 rfl (by decide +kernel) mixed Try.ntmps16 Try.results16 ?_
  simp only [entrySt, List.map_cons, List.map_nil, List.length_cons, List.length_nil, Nat.reduceAdd, Nat.reduceSub, List.replicate_succ, List.replicate_zero, List.cons_append, List.nil_append]
  (refine zs ?_; try exact trivial)
def owesP (c : Ct) (x : Int) : Bool := c.opn && !(c.over || c.st.over) && (if seatP c x = 0 then decide (c.in0.length ≤ c.in1.length) else if seatP c x = 1 then decide (c.in1.length ≤ c.in0.length) else false)
theorem owes0_h (x : Int) : Holds Try.prog 17 [.c (.val (.pointer none)), .int .i64 x] [] (fun r h' => r = V.bool false ∧ h' = []) := by
  refine holds_of_awp Try.func17 rfl (by decide +kernel) mixed Try.ntmps17 Try.results17 ?_
  simp only [entrySt, List.map_cons, List.map_nil, List.length_cons, List.length_nil, Nat.reduceAdd, Nat.reduceSub, List.replicate_succ, List.replicate_zero, List.cons_append, List.nil_append]
  (refine zs ?_; try exact trivial)
theorem owes_h (c : Ct) (x : Int) : Holds Try.prog 17 [.ptr (.arg 0) 0, .int .i64 x] [(.arg 0, ctB (.arg 0) c)] (fun r h' => r = V.bool (owesP c x) ∧ h' = [(.arg 0, ctB (.arg 0) c)]) := by
  refine holds_of_awp Try.func17 rfl (by decide +kernel) mixed Try.ntmps17 Try.results17 ?_
  simp only [entrySt, List.map_cons, List.map_nil, List.length_cons, List.length_nil, Nat.reduceAdd, Nat.reduceSub, List.replicate_succ, List.replicate_zero, List.cons_append, List.nil_append]
  (refine zs ?_; try exact trivial)
  cases dn : (!c.opn)
  · have do1 : c.opn = true := by simpa using dn
    simp (maxSteps := 2000000) (disch := omega) only [go_sem, Nat.reduceAdd, Nat.reduceSub, Nat.reduceMul, Nat.reduceBEq, Nat.reduceEqDiff, Nat.reduceLT, Nat.reduceLeDiff, Nat.reduceDiv, reduceIte, reduceCtorEq, dn]
    refine a_call [.arg 0] (ended_h c) (ok1 rfl) ?_ ?_ ?_
    · (refine zs ?_; try exact trivial)
    · (refine zs ?_; try exact trivial)
    rintro _ _ ⟨rfl, rfl⟩
    cases d2 : (c.over || c.st.over)
    · simp (maxSteps := 2000000) (disch := omega) only [go_sem, Nat.reduceAdd, Nat.reduceSub, Nat.reduceMul, Nat.reduceBEq, Nat.reduceEqDiff, Nat.reduceLT, Nat.reduceLeDiff, Nat.reduceDiv, reduceIte, reduceCtorEq, d2]
      refine a_call [.arg 0] (seat_h c x) (ok1 rfl) ?_ ?_ ?_
      · (refine zs ?_; try exact trivial)
      · (refine zs ?_; try exact trivial)
      rintro _ _ ⟨rfl, rfl⟩
      (refine zs ?_; try exact trivial)
      refine a_quiet (by kernel_rfl) (by kernel_rfl) (by kernel_rfl) ?_
      by_cases q0 : seatP c x = 0
      · have e : owesP c x = decide ((c.in0.length : Int) ≤ (c.in1.length : Int)) := by
          unfold owesP
          rw [do1, d2, if_pos q0]
          simp
        rw [q0, e]
        simp (maxSteps := 2000000) (disch := omega) only [go_sem, Nat.reduceAdd, Nat.reduceSub, Nat.reduceMul, Nat.reduceBEq, Nat.reduceEqDiff, Nat.reduceLT, Nat.reduceLeDiff, Nat.reduceDiv, reduceIte, reduceCtorEq, Int.reduceLE, decide_true]
        (refine zc ?_; try exact trivial)
      · by_cases q1 : seatP c x = 1
        · have e : owesP c x = decide ((c.in1.length : Int) ≤ (c.in0.length : Int)) := by
            unfold owesP
            rw [do1, d2, if_neg q0, if_pos q1]
            simp
          rw [q1, e]
          simp (maxSteps := 2000000) (disch := omega) only [go_sem, Nat.reduceAdd, Nat.reduceSub, Nat.reduceMul, Nat.reduceBEq, Nat.reduceEqDiff, Nat.reduceLT, Nat.reduceLeDiff, Nat.reduceDiv, reduceIte, reduceCtorEq, Int.reduceLE, decide_true]
          (refine zc ?_; try exact trivial)
        · have qn : decide (0 ≤ seatP c x) = false := by
            rw [decide_eq_false_iff_not]
            intro h
            rcases seat_cases c x h with h | h <;> contradiction
          have e : owesP c x = false := by unfold owesP; rw [do1, d2, if_neg q0, if_neg q1]; rfl
          rw [e]
          simp (maxSteps := 2000000) (disch := omega) only [go_sem, Nat.reduceAdd, Nat.reduceSub, Nat.reduceMul, Nat.reduceBEq, Nat.reduceEqDiff, Nat.reduceLT, Nat.reduceLeDiff, Nat.reduceDiv, reduceIte, reduceCtorEq, qn]
    · have e : owesP c x = false := by unfold owesP; rw [do1, d2]; rfl
      rw [e]
      simp (maxSteps := 2000000) (disch := omega) only [go_sem, Nat.reduceAdd, Nat.reduceSub, Nat.reduceMul, Nat.reduceBEq, Nat.reduceEqDiff, Nat.reduceLT, Nat.reduceLeDiff, Nat.reduceDiv, reduceIte, reduceCtorEq, d2]
  · have do1 : c.opn = false := by simpa using dn
    have e : owesP c x = false := by unfold owesP; rw [do1]; rfl
    rw [e]
    simp (maxSteps := 2000000) (disch := omega) only [go_sem, Nat.reduceAdd, Nat.reduceSub, Nat.reduceMul, Nat.reduceBEq, Nat.reduceEqDiff, Nat.reduceLT, Nat.reduceLeDiff, Nat.reduceDiv, reduceIte, reduceCtorEq, dn]
theorem events0_h : Holds Try.prog 21 [.c (.val (.pointer none))] [] (fun r h' => r = .cell (.lst .full (some true) 1 []) ∧ h' = []) := by
  refine holds_of_awp Try.func21 rfl (by decide +kernel) mixed Try.ntmps21 Try.results21 ?_
  simp only [entrySt, List.map_cons, List.map_nil, List.length_cons, List.length_nil, Nat.reduceAdd, Nat.reduceSub, List.replicate_succ, List.replicate_zero, List.cons_append, List.nil_append]
  (refine zs ?_; try exact trivial)
theorem events_h (c : Ct) (hb : c.events.length ≤ 100000000) : Holds Try.prog 21 [.ptr (.arg 0) 0] [(.arg 0, ctB (.arg 0) c)] (fun r h' => r = .cell (.lst .no none 6 (evs c.events)) ∧ h' = [(.arg 0, ctB (.arg 0) c)]) := by
  refine holds_of_awp Try.func21 rfl (by decide +kernel) mixed Try.ntmps21 Try.results21 ?_
  simp only [entrySt, List.map_cons, List.map_nil, List.length_cons, List.length_nil, Nat.reduceAdd, Nat.reduceSub, List.replicate_succ, List.replicate_zero, List.cons_append, List.nil_append]
  (refine zs ?_; try exact trivial)
  refine a_call [] (cloneE_h c.events hb) ok0 ?_ ?_ ?_
  · (refine zs ?_; try exact trivial)
  · (refine zs ?_; try exact trivial)
  rintro _ _ ⟨rfl, rfl⟩
  (refine zs ?_; try exact trivial)
theorem pairs0_h : Holds Try.prog 22 [.c (.val (.pointer none))] [] (fun r h' => r = .cell (.lst .full (some true) 1 []) ∧ h' = []) := by
  refine holds_of_awp Try.func22 rfl (by decide +kernel) mixed Try.ntmps22 Try.results22 ?_
  simp only [entrySt, List.map_cons, List.map_nil, List.length_cons, List.length_nil, Nat.reduceAdd, Nat.reduceSub, List.replicate_succ, List.replicate_zero, List.cons_append, List.nil_append]
  (refine zs ?_; try exact trivial)
theorem inputs0_h (x y : Int) : Holds Try.prog 19 [.c (.val (.pointer none)), .int .i64 x, .int .i64 y] [] (fun r h' => r = .cell (.lst .full (some true) 1 []) ∧ h' = []) := by
  refine holds_of_awp Try.func19 rfl (by decide +kernel) mixed Try.ntmps19 Try.results19 ?_
  simp only [entrySt, List.map_cons, List.map_nil, List.length_cons, List.length_nil, Nat.reduceAdd, Nat.reduceSub, List.replicate_succ, List.replicate_zero, List.cons_append, List.nil_append]
  (refine zs ?_; try exact trivial)
end Go.Proofs.Ytamcjecgkfmjkaa

/- Chapter 9: whether instructions are a program. -/
open Go Go.RowKit
namespace Go.Proofs.Ytamcjecgkfmjkaa
set_option linter.unusedSimpArgs false
set_option linter.unusedVariables false
/-- may an op have this argument, in a program of so many? -/
def mayP (op arg n : Int) : Bool :=
  if op = 1 then decide (-2147483648 ≤ arg) && decide (arg ≤ 2147483647)
  else if op = 2 ∨ op = 3 then decide (0 ≤ arg) && decide (arg ≤ 15)
  else if op = 16 then decide (0 ≤ arg) && decide (arg ≤ 1)
  else if op = 18 ∨ op = 19 then decide (0 ≤ arg) && decide (arg ≤ n)
  else if op = 20 then decide (0 ≤ arg) && decide (arg ≤ 2)
  else decide (1 ≤ op) && decide (op ≤ 22) && decide (arg = 0)
/-- how many of the first are instructions -/
def firstBad (l : List (Int × Int)) (n : Int) : Nat := (l.takeWhile fun x => mayP x.1 x.2 n).length
theorem mayP_not {op arg n : Int} (h : ¬ (1 ≤ op ∧ op ≤ 22)) : mayP op arg n = false := by
  unfold mayP
  rw [if_neg (by omega), if_neg (by omega), if_neg (by omega), if_neg (by omega), if_neg (by omega)]
  simp
  omega
theorem firstBad_le (l : List (Int × Int)) (n : Int) : firstBad l n ≤ l.length := (List.takeWhile_prefix _).length_le
theorem firstBad_at {l : List (Int × Int)} {n : Int} {i : Nat} (h : i < firstBad l n) : mayP (gi l i).1 (gi l i).2 n = true := by
  induction l generalizing i with
  | nil => simp [firstBad] at h
  | cons x l ih =>
    unfold firstBad at h ih
    rw [List.takeWhile_cons] at h
    split at h
    · rename_i hx
      cases i with
      | zero => simpa [gi] using hx
      | succ i => simpa [gi] using ih (by simpa using h)
    · simp at h
theorem firstBad_stop {l : List (Int × Int)} {n : Int} (h : firstBad l n < l.length) : mayP (gi l (firstBad l n)).1 (gi l (firstBad l n)).2 n = false := by
  induction l with
  | nil => simp at h
  | cons x l ih =>
    unfold firstBad at h ih ⊢
    rw [List.takeWhile_cons] at h ⊢
    split
    · rename_i hx
      rw [if_pos hx] at h
      simpa [gi] using ih (by simpa using h)
    · rename_i hx
      simpa [gi] using hx
theorem firstBad_up {l : List (Int × Int)} {n : Int} {i : Nat} (h : i ≤ firstBad l n) (hl : i < l.length) (hm : mayP (gi l i).1 (gi l i).2 n = true) : i + 1 ≤ firstBad l n := by
  rcases Nat.lt_or_ge i (firstBad l n) with h2 | h2
  · exact h2
  · have e : i = firstBad l n := by omega
    subst e
    rw [firstBad_stop hl] at hm
    cases hm
theorem firstBad_is {l : List (Int × Int)} {n : Int} {i : Nat} (h : i ≤ firstBad l n) (hm : mayP (gi l i).1 (gi l i).2 n = false) : firstBad l n = i := by
  rcases Nat.lt_or_ge i (firstBad l n) with h2 | h2
  · rw [firstBad_at h2] at hm; cases hm
  · omega
def chkP (l : List (Int × Int)) : Int × Int :=
  if 256 < l.length then (0, 5) else if firstBad l l.length < l.length then (firstBad l l.length, 3) else (0, 0)
theorem mayP_fin {a b : Bool} (h : a = true ↔ b = true) : a = b := Bool.eq_iff_iff.2 h
theorem chkP_bad {l : List (Int × Int)} {i : Nat} (h : ¬ 256 < l.length) (hb : i ≤ firstBad l l.length) (hl : i < l.length) (hm : mayP (gi l i).1 (gi l i).2 l.length = false) : chkP l = ((i : Int), 3) := by
  have e := firstBad_is hb hm
  unfold chkP
  rw [if_neg h, e, if_pos hl]
theorem chkP_ok {l : List (Int × Int)} (h : ¬ 256 < l.length) (hb : l.length ≤ firstBad l l.length) : chkP l = (0, 0) := by
  have := firstBad_le l l.length
  unfold chkP
  rw [if_neg h, if_neg (by omega)]
theorem chkP_long {l : List (Int × Int)} (h : 256 < l.length) : chkP l = (0, 5) := by unfold chkP; rw [if_pos h]
set_option maxHeartbeats 1000000 in
theorem rmay_h (op arg n : Int) : Holds Try.prog 34 [.agg [.val (.int .i64 op), .val (.int .i64 arg)], .int .i64 n] [] (fun r h' => r = V.bool (mayP op arg n) ∧ h' = []) := by
  refine holds_of_awp Try.func34 rfl (by decide +kernel) mixed Try.ntmps34 Try.results34 ?_
  simp only [entrySt, List.map_cons, List.map_nil, List.length_cons, List.length_nil, Nat.reduceAdd, Nat.reduceSub, List.replicate_succ, List.replicate_zero, List.cons_append, List.nil_append]
  (refine zs ?_; try exact trivial)
  refine c_dec (fun h1 => ?_) (fun h1 => ?_)
  · cases d : decide (-2147483648 ≤ arg)
    · simp (maxSteps := 2000000) (disch := omega) only [go_sem, Nat.reduceAdd, Nat.reduceSub, Nat.reduceMul, Nat.reduceBEq, Nat.reduceEqDiff, Nat.reduceLT, Nat.reduceLeDiff, Nat.reduceDiv, reduceIte, reduceCtorEq, d]
      congr 1
      exact mayP_fin (by simp_all [mayP] <;> omega)
    · simp (maxSteps := 2000000) (disch := omega) only [go_sem, Nat.reduceAdd, Nat.reduceSub, Nat.reduceMul, Nat.reduceBEq, Nat.reduceEqDiff, Nat.reduceLT, Nat.reduceLeDiff, Nat.reduceDiv, reduceIte, reduceCtorEq, d]
      congr 1
      exact mayP_fin (by simp_all [mayP] <;> omega)
  (refine zs ?_; try exact trivial)
  refine c_dec (fun h2 => ?_) (fun h2 => ?_)
  · (refine zs ?_; try exact trivial)
    refine c_dec (fun _ => ?_) (fun h => absurd h2 h)
    cases d : decide (0 ≤ arg)
    · simp (maxSteps := 2000000) (disch := omega) only [go_sem, Nat.reduceAdd, Nat.reduceSub, Nat.reduceMul, Nat.reduceBEq, Nat.reduceEqDiff, Nat.reduceLT, Nat.reduceLeDiff, Nat.reduceDiv, reduceIte, reduceCtorEq, d]
      congr 1
      exact mayP_fin (by simp_all [mayP] <;> omega)
    · simp (maxSteps := 2000000) (disch := omega) only [go_sem, Nat.reduceAdd, Nat.reduceSub, Nat.reduceMul, Nat.reduceBEq, Nat.reduceEqDiff, Nat.reduceLT, Nat.reduceLeDiff, Nat.reduceDiv, reduceIte, reduceCtorEq, d]
      congr 1
      exact mayP_fin (by simp_all [mayP] <;> omega)
  (refine zs ?_; try exact trivial)
  refine c_dec (fun h2' => ?_) (fun h2' => ?_)
  · cases d : decide (0 ≤ arg)
    · simp (maxSteps := 2000000) (disch := omega) only [go_sem, Nat.reduceAdd, Nat.reduceSub, Nat.reduceMul, Nat.reduceBEq, Nat.reduceEqDiff, Nat.reduceLT, Nat.reduceLeDiff, Nat.reduceDiv, reduceIte, reduceCtorEq, d]
      congr 1
      exact mayP_fin (by simp_all [mayP] <;> omega)
    · simp (maxSteps := 2000000) (disch := omega) only [go_sem, Nat.reduceAdd, Nat.reduceSub, Nat.reduceMul, Nat.reduceBEq, Nat.reduceEqDiff, Nat.reduceLT, Nat.reduceLeDiff, Nat.reduceDiv, reduceIte, reduceCtorEq, d]
      congr 1
      exact mayP_fin (by simp_all [mayP] <;> omega)
  (refine zs ?_; try exact trivial)
  refine c_dec (fun h3 => ?_) (fun h3 => ?_)
  · cases d : decide (arg = 0)
    · simp (maxSteps := 2000000) (disch := omega) only [go_sem, Nat.reduceAdd, Nat.reduceSub, Nat.reduceMul, Nat.reduceBEq, Nat.reduceEqDiff, Nat.reduceLT, Nat.reduceLeDiff, Nat.reduceDiv, reduceIte, reduceCtorEq, d]
      congr 1
      exact mayP_fin (by simp_all [mayP] <;> omega)
    · simp (maxSteps := 2000000) (disch := omega) only [go_sem, Nat.reduceAdd, Nat.reduceSub, Nat.reduceMul, Nat.reduceBEq, Nat.reduceEqDiff, Nat.reduceLT, Nat.reduceLeDiff, Nat.reduceDiv, reduceIte, reduceCtorEq, d]
      congr 1
      exact mayP_fin (by simp_all [mayP] <;> omega)
  (refine zs ?_; try exact trivial)
  refine c_dec (fun h4 => ?_) (fun h4 => ?_)
  · (refine zs ?_; try exact trivial)
    refine c_dec (fun _ => ?_) (fun h => absurd h4 h)
    cases d : decide (0 ≤ arg)
    · simp (maxSteps := 2000000) (disch := omega) only [go_sem, Nat.reduceAdd, Nat.reduceSub, Nat.reduceMul, Nat.reduceBEq, Nat.reduceEqDiff, Nat.reduceLT, Nat.reduceLeDiff, Nat.reduceDiv, reduceIte, reduceCtorEq, d]
      congr 1
      exact mayP_fin (by simp_all [mayP] <;> omega)
    · simp (maxSteps := 2000000) (disch := omega) only [go_sem, Nat.reduceAdd, Nat.reduceSub, Nat.reduceMul, Nat.reduceBEq, Nat.reduceEqDiff, Nat.reduceLT, Nat.reduceLeDiff, Nat.reduceDiv, reduceIte, reduceCtorEq, d]
      congr 1
      exact mayP_fin (by simp_all [mayP] <;> omega)
  (refine zs ?_; try exact trivial)
  refine c_dec (fun h4' => ?_) (fun h4' => ?_)
  · cases d : decide (0 ≤ arg)
    · simp (maxSteps := 2000000) (disch := omega) only [go_sem, Nat.reduceAdd, Nat.reduceSub, Nat.reduceMul, Nat.reduceBEq, Nat.reduceEqDiff, Nat.reduceLT, Nat.reduceLeDiff, Nat.reduceDiv, reduceIte, reduceCtorEq, d]
      congr 1
      exact mayP_fin (by simp_all [mayP] <;> omega)
    · simp (maxSteps := 2000000) (disch := omega) only [go_sem, Nat.reduceAdd, Nat.reduceSub, Nat.reduceMul, Nat.reduceBEq, Nat.reduceEqDiff, Nat.reduceLT, Nat.reduceLeDiff, Nat.reduceDiv, reduceIte, reduceCtorEq, d]
      congr 1
      exact mayP_fin (by simp_all [mayP] <;> omega)
  (refine zs ?_; try exact trivial)
  refine c_dec (fun h5 => ?_) (fun h5 => ?_)
  · cases d : decide (0 ≤ arg)
    · simp (maxSteps := 2000000) (disch := omega) only [go_sem, Nat.reduceAdd, Nat.reduceSub, Nat.reduceMul, Nat.reduceBEq, Nat.reduceEqDiff, Nat.reduceLT, Nat.reduceLeDiff, Nat.reduceDiv, reduceIte, reduceCtorEq, d]
      congr 1
      exact mayP_fin (by simp_all [mayP] <;> omega)
    · simp (maxSteps := 2000000) (disch := omega) only [go_sem, Nat.reduceAdd, Nat.reduceSub, Nat.reduceMul, Nat.reduceBEq, Nat.reduceEqDiff, Nat.reduceLT, Nat.reduceLeDiff, Nat.reduceDiv, reduceIte, reduceCtorEq, d]
      congr 1
      exact mayP_fin (by simp_all [mayP] <;> omega)
  (refine zs ?_; try exact trivial)
  cases d : decide (1 ≤ op)
  · simp (maxSteps := 2000000) (disch := omega) only [go_sem, Nat.reduceAdd, Nat.reduceSub, Nat.reduceMul, Nat.reduceBEq, Nat.reduceEqDiff, Nat.reduceLT, Nat.reduceLeDiff, Nat.reduceDiv, reduceIte, reduceCtorEq, d]
    congr 1
    exact mayP_fin (by simp_all [mayP] <;> omega)
  · cases d2 : decide (op ≤ 22)
    · simp (maxSteps := 2000000) (disch := omega) only [go_sem, Nat.reduceAdd, Nat.reduceSub, Nat.reduceMul, Nat.reduceBEq, Nat.reduceEqDiff, Nat.reduceLT, Nat.reduceLeDiff, Nat.reduceDiv, reduceIte, reduceCtorEq, d, d2]
      congr 1
      exact mayP_fin (by simp_all [mayP] <;> omega)
    · simp (maxSteps := 2000000) (disch := omega) only [go_sem, Nat.reduceAdd, Nat.reduceSub, Nat.reduceMul, Nat.reduceBEq, Nat.reduceEqDiff, Nat.reduceLT, Nat.reduceLeDiff, Nat.reduceDiv, reduceIte, reduceCtorEq, d, d2]
      congr 1
      exact mayP_fin (by simp_all [mayP] <;> omega)
theorem isOp_h (op : Int) : Holds Try.prog 55 [.int .i64 op] [] (fun r h' => r = V.bool (decide (1 ≤ op) && decide (op ≤ 22)) ∧ h' = []) := by
  refine holds_of_awp Try.func55 rfl (by decide +kernel) mixed Try.ntmps55 Try.results55 ?_
  simp only [entrySt, List.map_cons, List.map_nil, List.length_cons, List.length_nil, Nat.reduceAdd, Nat.reduceSub, List.replicate_succ, List.replicate_zero, List.cons_append, List.nil_append]
  cases d : decide (1 ≤ op)
  · simp (maxSteps := 2000000) (disch := omega) only [go_sem, Nat.reduceAdd, Nat.reduceSub, Nat.reduceMul, Nat.reduceBEq, Nat.reduceEqDiff, Nat.reduceLT, Nat.reduceLeDiff, Nat.reduceDiv, reduceIte, reduceCtorEq, d]
    rfl
  · simp (maxSteps := 2000000) (disch := omega) only [go_sem, Nat.reduceAdd, Nat.reduceSub, Nat.reduceMul, Nat.reduceBEq, Nat.reduceEqDiff, Nat.reduceLT, Nat.reduceLeDiff, Nat.reduceDiv, reduceIte, reduceCtorEq, d]
theorem number_h (arg n : Int) : Holds Try.prog 62 [.int .i64 arg, .int .i64 n] [] (fun r h' => r = V.bool (decide (-2147483648 ≤ arg) && decide (arg ≤ 2147483647)) ∧ h' = []) := by
  refine holds_of_awp Try.func62 rfl (by decide +kernel) mixed Try.ntmps62 Try.results62 ?_
  simp only [entrySt, List.map_cons, List.map_nil, List.length_cons, List.length_nil, Nat.reduceAdd, Nat.reduceSub, List.replicate_succ, List.replicate_zero, List.cons_append, List.nil_append]
  cases d : decide (-2147483648 ≤ arg)
  · simp (maxSteps := 2000000) (disch := omega) only [go_sem, Nat.reduceAdd, Nat.reduceSub, Nat.reduceMul, Nat.reduceBEq, Nat.reduceEqDiff, Nat.reduceLT, Nat.reduceLeDiff, Nat.reduceDiv, reduceIte, reduceCtorEq, d]
    rfl
  · simp (maxSteps := 2000000) (disch := omega) only [go_sem, Nat.reduceAdd, Nat.reduceSub, Nat.reduceMul, Nat.reduceBEq, Nat.reduceEqDiff, Nat.reduceLT, Nat.reduceLeDiff, Nat.reduceDiv, reduceIte, reduceCtorEq, d]
theorem place_h (arg n : Int) : Holds Try.prog 63 [.int .i64 arg, .int .i64 n] [] (fun r h' => r = V.bool (decide (0 ≤ arg) && decide (arg ≤ n)) ∧ h' = []) := by
  refine holds_of_awp Try.func63 rfl (by decide +kernel) mixed Try.ntmps63 Try.results63 ?_
  simp only [entrySt, List.map_cons, List.map_nil, List.length_cons, List.length_nil, Nat.reduceAdd, Nat.reduceSub, List.replicate_succ, List.replicate_zero, List.cons_append, List.nil_append]
  cases d : decide (0 ≤ arg)
  · simp (maxSteps := 2000000) (disch := omega) only [go_sem, Nat.reduceAdd, Nat.reduceSub, Nat.reduceMul, Nat.reduceBEq, Nat.reduceEqDiff, Nat.reduceLT, Nat.reduceLeDiff, Nat.reduceDiv, reduceIte, reduceCtorEq, d]
    rfl
  · simp (maxSteps := 2000000) (disch := omega) only [go_sem, Nat.reduceAdd, Nat.reduceSub, Nat.reduceMul, Nat.reduceBEq, Nat.reduceEqDiff, Nat.reduceLT, Nat.reduceLeDiff, Nat.reduceDiv, reduceIte, reduceCtorEq, d]
theorem upTo1_h (arg n m : Int) : Holds Try.prog 71 [.int .i64 arg, .int .i64 n, .ptr (.arg 0) 0] [(.arg 0, [.val (.int .i64 m)])] (fun r h' => r = V.bool (decide (0 ≤ arg) && decide (arg ≤ m)) ∧ h' = [(.arg 0, [.val (.int .i64 m)])]) := by
  refine holds_of_awp Try.func71 rfl (by decide +kernel) mixed Try.ntmps71 Try.results71 ?_
  simp only [entrySt, List.map_cons, List.map_nil, List.length_cons, List.length_nil, Nat.reduceAdd, Nat.reduceSub, List.replicate_succ, List.replicate_zero, List.cons_append, List.nil_append]
  cases d : decide (0 ≤ arg)
  · simp (maxSteps := 2000000) (disch := omega) only [go_sem, Nat.reduceAdd, Nat.reduceSub, Nat.reduceMul, Nat.reduceBEq, Nat.reduceEqDiff, Nat.reduceLT, Nat.reduceLeDiff, Nat.reduceDiv, reduceIte, reduceCtorEq, d]
    rfl
  · simp (maxSteps := 2000000) (disch := omega) only [go_sem, Nat.reduceAdd, Nat.reduceSub, Nat.reduceMul, Nat.reduceBEq, Nat.reduceEqDiff, Nat.reduceLT, Nat.reduceLeDiff, Nat.reduceDiv, reduceIte, reduceCtorEq, d]
theorem upTo_h (m : Int) : Holds Try.prog 61 [.int .i64 m] [] (fun r h' => r = V.cell (.fn (.func 71) [] [(.loc [1], 0)]) ∧ h' = [(.loc [1], [.val (.int .i64 m)])]) := by
  refine holds_of_awp Try.func61 rfl (by decide +kernel) mixed Try.ntmps61 Try.results61 ?_
  simp only [entrySt, List.map_cons, List.map_nil, List.length_cons, List.length_nil, Nat.reduceAdd, Nat.reduceSub, List.replicate_succ, List.replicate_zero, List.cons_append, List.nil_append]
  (refine zs ?_; try exact trivial)
end Go.Proofs.Ytamcjecgkfmjkaa

/- Chapter 9: the table of the ops. (written by gentbl.py) -/
open Go Go.RowKit
namespace Go.Proofs.Ytamcjecgkfmjkaa
set_option linter.unusedSimpArgs false
set_option linter.unusedVariables false
set_option maxRecDepth 20000
/-! ### the table's cells, and the boxes that its closures hold -/
def tblC (a b c d e : Id) : List C := [.val (.string { data := #[] }), .val (.bool false), .val .nilFunc, .val (.string (strB [112, 117, 115, 104])), .val (.bool true), .fn (.func 62) [] [], .val (.string (strB [108, 111, 97, 100])), .val (.bool true), .fn (.func 71) [] [(b, 0)], .val (.string (strB [115, 116, 111, 114, 101])), .val (.bool true), .fn (.func 71) [] [(c, 0)], .val (.string (strB [97, 100, 100])), .val (.bool false), .fn (.func 71) [] [(a, 0)], .val (.string (strB [115, 117, 98])), .val (.bool false), .fn (.func 71) [] [(a, 0)], .val (.string (strB [109, 117, 108])), .val (.bool false), .fn (.func 71) [] [(a, 0)], .val (.string (strB [100, 105, 118])), .val (.bool false), .fn (.func 71) [] [(a, 0)], .val (.string (strB [109, 105, 110])), .val (.bool false), .fn (.func 71) [] [(a, 0)], .val (.string (strB [109, 97, 120])), .val (.bool false), .fn (.func 71) [] [(a, 0)], .val (.string (strB [108, 101, 115, 115])), .val (.bool false), .fn (.func 71) [] [(a, 0)], .val (.string (strB [115, 97, 109, 101])), .val (.bool false), .fn (.func 71) [] [(a, 0)], .val (.string (strB [110, 111, 116])), .val (.bool false), .fn (.func 71) [] [(a, 0)], .val (.string (strB [100, 117, 112])), .val (.bool false), .fn (.func 71) [] [(a, 0)], .val (.string (strB [115, 119, 97, 112])), .val (.bool false), .fn (.func 71) [] [(a, 0)], .val (.string (strB [100, 114, 111, 112])), .val (.bool false), .fn (.func 71) [] [(a, 0)], .val (.string (strB [105, 110])), .val (.bool true), .fn (.func 71) [] [(d, 0)], .val (.string (strB [102, 114, 97, 109, 101])), .val (.bool false), .fn (.func 71) [] [(a, 0)], .val (.string (strB [106, 117, 109, 112])), .val (.bool true), .fn (.func 63) [] [], .val (.string (strB [122, 101, 114, 111])), .val (.bool true), .fn (.func 63) [] [], .val (.string (strB [119, 105, 110])), .val (.bool true), .fn (.func 71) [] [(e, 0)], .val (.string (strB [114, 97, 110, 100])), .val (.bool false), .fn (.func 71) [] [(a, 0)], .val (.string (strB [104, 97, 108, 116])), .val (.bool false), .fn (.func 71) [] [(a, 0)]]
def tblU (bi : Id → Bool) (bt : Tag → Bool) (a b c d e : Id) : List C := (tblC a b c d e).map (C.clean bi bt)
section
variable {a b c d e : Id} {V' : V → Prop} {r : List C} {ks : List Id} {m : Nat}
@[go_sem] theorem tbl_k {bi : Id → Bool} {bt : Tag → Bool} : (tblC a b c d e).map (C.clean bi bt) = if (bi a || bi b || bi c || bi d || bi e) = true then tblU bi bt a b c d e else tblC a b c d e := by
  split
  · rfl
  · rename_i h
    simp only [Bool.or_eq_true, not_or, Bool.not_eq_true] at h
    simp [tblC, C.clean, h]
@[go_sem] theorem tbl_r : (tblC a b c d e).map (C.ren ks m) = tblC (renI ks m a) (renI ks m b) (renI ks m c) (renI ks m d) (renI ks m e) := nr rfl
@[go_sem] theorem tbl_t {ta tb : Tag} : (tblC a b c d e).map (C.retag ta tb) = tblC a b c d e := nr rfl
@[go_sem] theorem tbl_n : (tblC a b c d e).all known = true := nr rfl
@[go_sem] theorem tbl_l : (tblC a b c d e).length = 69 := nr rfl
@[go_sem 1300] theorem tbl_s : spl [.val (.string { data := #[] }), .val (.bool false), .val .nilFunc, .val (.string { data := #[] }), .val (.bool false), .val .nilFunc, .val (.string { data := #[] }), .val (.bool false), .val .nilFunc, .val (.string { data := #[] }), .val (.bool false), .val .nilFunc, .val (.string { data := #[] }), .val (.bool false), .val .nilFunc, .val (.string { data := #[] }), .val (.bool false), .val .nilFunc, .val (.string { data := #[] }), .val (.bool false), .val .nilFunc, .val (.string { data := #[] }), .val (.bool false), .val .nilFunc, .val (.string { data := #[] }), .val (.bool false), .val .nilFunc, .val (.string { data := #[] }), .val (.bool false), .val .nilFunc, .val (.string { data := #[] }), .val (.bool false), .val .nilFunc, .val (.string { data := #[] }), .val (.bool false), .val .nilFunc, .val (.string { data := #[] }), .val (.bool false), .val .nilFunc, .val (.string { data := #[] }), .val (.bool false), .val .nilFunc, .val (.string { data := #[] }), .val (.bool false), .val .nilFunc, .val (.string { data := #[] }), .val (.bool false), .val .nilFunc, .val (.string { data := #[] }), .val (.bool false), .val .nilFunc, .val (.string { data := #[] }), .val (.bool false), .val .nilFunc, .val (.string { data := #[] }), .val (.bool false), .val .nilFunc, .val (.string { data := #[] }), .val (.bool false), .val .nilFunc, .val (.string { data := #[] }), .val (.bool false), .val .nilFunc, .val (.string { data := #[] }), .val (.bool false), .val .nilFunc, .val (.string { data := #[] }), .val (.bool false), .val .nilFunc] 0 (tblC a b c d e) = tblC a b c d e := spl_all rfl
@[go_sem ↓] theorem tbl_w {l : List V} {hp : Heap} {i : Id} {off : Nat} {cs : List C} : St.stow ⟨l, hp⟩ i off cs (tblC a b c d e) = ⟨l, hset hp i (spl cs off (tblC a b c d e))⟩ := by
  have eq : (tblC a b c d e).map (C.clean (fun _ => false) fun _ => true) = tblC a b c d e := by rw [tbl_k]; rfl
  rw [stow_big (show 2 ≤ (tblC a b c d e).length by rw [tbl_l]; omega), eq]
@[go_sem 1300] theorem tbl_td : List.take 69 (List.drop 0 (tblC a b c d e)) = tblC a b c d e := nr rfl
@[go_sem 1300] theorem tbl_ta : List.take 69 (tblC a b c d e) = tblC a b c d e := nr rfl
@[go_sem ↓ 1300] theorem tbl_p : aPt (some true) 69 (tblC a b c d e) 0 V' = V' (.w (.agg (tblC a b c d e))) := by
  simp only [aPt, tbl_l, tbl_td]
  simp
@[go_sem ↓ 1300] theorem tbl_le : leCs (tblC a b c d e) (tblC a b c d e) = True := eq_true (leCs_refl _)
end
abbrev tblH (a b c d e : Id) : Heap := [(e, [.val (.int .i64 2)]), (d, [.val (.int .i64 1)]), (c, [.val (.int .i64 15)]), (b, [.val (.int .i64 15)]), (a, [.val (.int .i64 0)])]
/-- what tells which argument an op may have -/
def mayC (a b c d e : Id) (op : Nat) : C :=
  if op = 1 then .fn (.func 62) [] []
  else if op = 2 then .fn (.func 71) [] [(b, 0)]
  else if op = 3 then .fn (.func 71) [] [(c, 0)]
  else if op = 16 then .fn (.func 71) [] [(d, 0)]
  else if op = 18 ∨ op = 19 then .fn (.func 63) [] []
  else if op = 20 then .fn (.func 71) [] [(e, 0)]
  else .fn (.func 71) [] [(a, 0)]
theorem tbl_may {a b c d e : Id} {op : Nat} (h1 : 1 ≤ op) (h2 : op ≤ 22) : (tblC a b c d e)[op * 3 + 2]? = some (mayC a b c d e op) := by
  have : op = 1 ∨ op = 2 ∨ op = 3 ∨ op = 4 ∨ op = 5 ∨ op = 6 ∨ op = 7 ∨ op = 8 ∨ op = 9 ∨ op = 10 ∨ op = 11 ∨ op = 12 ∨ op = 13 ∨ op = 14 ∨ op = 15 ∨ op = 16 ∨ op = 17 ∨ op = 18 ∨ op = 19 ∨ op = 20 ∨ op = 21 ∨ op = 22 := by omega
  rcases this with rfl | rfl | rfl | rfl | rfl | rfl | rfl | rfl | rfl | rfl | rfl | rfl | rfl | rfl | rfl | rfl | rfl | rfl | rfl | rfl | rfl | rfl <;> rfl
theorem ex_some9 {α : Type} {q : Option α} {x : α} {K : α → Prop} (h : q = some x) : (∃ c, q = some c ∧ K c) = K x := by subst h; simp
@[go_sem ↓ 1300] theorem m_may {a b c d e : Id} {op : Nat} {K : C → Prop} (h1 : 1 ≤ op) (h2 : op ≤ 22) : (∃ x, (tblC a b c d e)[op * 3 + 2]? = some x ∧ K x) = K (mayC a b c d e op) := ex_some9 (tbl_may h1 h2)
set_option maxHeartbeats 2000000 in
theorem table_h : Holds Try.prog 54 [] [] (fun r h' => r = .w (.agg (tblC (.loc [2, 0, 1]) (.loc [4, 0, 1]) (.loc [6, 0, 1]) (.loc [32, 0, 1]) (.loc [38, 0, 1]))) ∧ h' = tblH (.loc [2, 0, 1]) (.loc [4, 0, 1]) (.loc [6, 0, 1]) (.loc [32, 0, 1]) (.loc [38, 0, 1])) := by
  refine holds_of_awp Try.func54 rfl (by decide +kernel) mixed Try.ntmps54 Try.results54 ?_
  simp only [entrySt, List.map_cons, List.map_nil, List.length_cons, List.length_nil, Nat.reduceAdd, Nat.reduceSub, List.replicate_succ, List.replicate_zero, List.cons_append, List.nil_append]
  unfold tblC
  (refine zs ?_; try exact trivial)
  refine a_call [] (upTo_h 0) ok0 ?_ ?_ ?_
  · (refine zs ?_; try exact trivial)
  · (refine zs ?_; try exact trivial)
  rintro _ _ ⟨rfl, rfl⟩
  (refine zs ?_; try exact trivial)
  refine a_call [] (upTo_h 15) ok0 ?_ ?_ ?_
  · (refine zs ?_; try exact trivial)
  · (refine zs ?_; try exact trivial)
  rintro _ _ ⟨rfl, rfl⟩
  (refine zs ?_; try exact trivial)
  refine a_call [] (upTo_h 15) ok0 ?_ ?_ ?_
  · (refine zs ?_; try exact trivial)
  · (refine zs ?_; try exact trivial)
  rintro _ _ ⟨rfl, rfl⟩
  (refine zs ?_; try exact trivial)
  refine a_call [] (upTo_h 1) ok0 ?_ ?_ ?_
  · (refine zs ?_; try exact trivial)
  · (refine zs ?_; try exact trivial)
  rintro _ _ ⟨rfl, rfl⟩
  (refine zs ?_; try exact trivial)
  refine a_call [] (upTo_h 2) ok0 ?_ ?_ ?_
  · (refine zs ?_; try exact trivial)
  · (refine zs ?_; try exact trivial)
  rintro _ _ ⟨rfl, rfl⟩
  (refine zs ?_; try exact trivial)
  try (refine zs ?_; try exact trivial)
  exact leCs_refl _
end Go.Proofs.Ytamcjecgkfmjkaa

/- Chapter 9: Check, in both. -/
open Go Go.RowKit
namespace Go.Proofs.Ytamcjecgkfmjkaa
set_option linter.unusedSimpArgs false
set_option linter.unusedVariables false
theorem rcheck_h (l : List (Int × Int)) (hl : l.length ≤ 9223372036854775807) : Holds Try.prog 23 [.c (.lst .no none 2 (ins l))] [] (fun r h' => r = .tup [.int .i64 (chkP l).1, .int .i64 (chkP l).2] ∧ h' = []) := by
  refine holds_of_awp Try.func23 rfl (by decide +kernel) mixed Try.ntmps23 Try.results23 ?_
  simp only [entrySt, List.map_cons, List.map_nil, List.length_cons, List.length_nil, Nat.reduceAdd, Nat.reduceSub, List.replicate_succ, List.replicate_zero, List.cons_append, List.nil_append]
  (refine zs ?_; try exact trivial)
  refine c_dec (fun h => ?_) (fun h => ?_)
  · rw [chkP_long (by omega)]
    (refine zs ?_; try exact trivial)
  · refine a_loopk (fun i : Nat => ⟨[V.cell (.lst .no none 2 (ins l)), .undef, .undef, .undef, V.int .i64 i, .undef, .undef, .undef, .undef, .undef, .undef, .undef, .undef, .undef, .undef, .undef, .undef, .undef, .undef, .undef, .undef, .undef, .undef], []⟩) (fun i => i ≤ l.length ∧ i ≤ firstBad l l.length) (l.length - ·) 0 ⟨by omega, by omega⟩ ?_ ?_
    · try (refine zs ?_; try exact trivial)
    · rintro i ⟨hi, hb⟩
      (refine zs ?_; try exact trivial)
      refine c_dec (fun h2 => ?_) (fun h2 => ?_)
      · (refine zs ?_; try exact trivial)
        refine a_call [] (rmay_h (gi l i).1 (gi l i).2 l.length) ok0 ?_ ?_ ?_
        · (refine zs ?_; try exact trivial)
        · (refine zs ?_; try exact trivial)
        rintro _ _ ⟨rfl, rfl⟩
        cases dm : mayP (gi l i).1 (gi l i).2 l.length
        · have e := chkP_bad (by omega) hb (by omega) dm
          rw [e]
          simp (maxSteps := 2000000) (disch := omega) only [go_sem, Nat.reduceAdd, Nat.reduceSub, Nat.reduceMul, Nat.reduceBEq, Nat.reduceEqDiff, Nat.reduceLT, Nat.reduceLeDiff, Nat.reduceDiv, reduceIte, reduceCtorEq, dm]
        · simp (maxSteps := 2000000) (disch := omega) only [go_sem, Nat.reduceAdd, Nat.reduceSub, Nat.reduceMul, Nat.reduceBEq, Nat.reduceEqDiff, Nat.reduceLT, Nat.reduceLeDiff, Nat.reduceDiv, reduceIte, reduceCtorEq, dm]
          exact ⟨i + 1, by omega, ⟨by omega, firstBad_up hb (by omega) dm⟩, by congr 1⟩
      · have e : i = l.length := by omega
        subst e
        rw [chkP_ok (by omega) hb]
        (refine zs ?_; try exact trivial)
set_option maxRecDepth 20000 in
set_option maxHeartbeats 2000000 in
theorem check_h9 (l : List (Int × Int)) (hl : l.length ≤ 9223372036854775807) : Holds Try.prog 35 [.c (.lst .no none 2 (ins l))] [] (fun r h' => r = .tup [.int .i64 (chkP l).1, .int .i64 (chkP l).2] ∧ h' = []) := by
  refine holds_of_awp Try.func35 rfl (by decide +kernel) mixed Try.ntmps35 Try.results35 ?_
  simp only [entrySt, List.map_cons, List.map_nil, List.length_cons, List.length_nil, Nat.reduceAdd, Nat.reduceSub, List.replicate_succ, List.replicate_zero, List.cons_append, List.nil_append]
  (refine zs ?_; try exact trivial)
  refine c_dec (fun h => ?_) (fun h => ?_)
  · rw [chkP_long (by omega)]
    (refine zs ?_; try exact trivial)
  · (refine zs ?_; try exact trivial)
    refine a_call [] (table_h) ok0 ?_ ?_ ?_
    · (refine zs ?_; try exact trivial)
    · (refine zs ?_; try exact trivial)
    rintro _ _ ⟨rfl, rfl⟩
    (refine zs ?_; try exact trivial)
    refine a_loopk (fun i : Nat => ⟨[V.cell (.lst .no none 2 (ins l)), .undef, .undef, .undef, V.cell (.ptr (.loc [4]) 0), .undef, .undef, .undef, .undef, .undef, .undef, V.cell (.lst .no none 2 (ins l)), V.int .i64 l.length, V.int .i64 i, .undef, .undef, .undef, .undef, .undef, .undef, .undef, .undef, .undef, .undef, .undef, .undef, .undef, .undef, .undef, .undef, .undef, .undef, .undef, .undef, .undef, .undef, .undef], (.loc [4], tblC (.loc [10, 0, 2, 0, 1]) (.loc [10, 0, 4, 0, 1]) (.loc [10, 0, 6, 0, 1]) (.loc [10, 0, 32, 0, 1]) (.loc [10, 0, 38, 0, 1])) :: tblH (.loc [10, 0, 2, 0, 1]) (.loc [10, 0, 4, 0, 1]) (.loc [10, 0, 6, 0, 1]) (.loc [10, 0, 32, 0, 1]) (.loc [10, 0, 38, 0, 1])⟩) (fun i => i ≤ l.length ∧ i ≤ firstBad l l.length) (l.length - ·) 0 ⟨by omega, by omega⟩ ?_ ?_
    · try (refine zs ?_; try exact trivial)
    · rintro i ⟨hi, hb⟩
      (refine zs ?_; try exact trivial)
      refine c_dec (fun h2 => ?_) (fun h2 => ?_)
      · have hs := firstBad_up hb (by omega)
        have hx := chkP_bad (l := l) (i := i) (by omega) hb (by omega)
        (refine zs ?_; try exact trivial)
        generalize gi l i = x at *
        obtain ⟨op, arg⟩ := x
        refine a_drawC (⟨[V.cell (.lst .no none 2 (ins l)), .undef, .undef, .undef, V.cell (.ptr (.loc [4]) 0), V.int .i64 i, .undef, .undef, .undef, .undef, .undef, V.cell (.lst .no none 2 (ins l)), V.int .i64 l.length, V.int .i64 i, .undef, .undef, .undef, .undef, .undef, .undef, .undef, .undef, .undef, .undef, .undef, .undef, .undef, .undef, .undef, .undef, .undef, .undef, .undef, .undef, V.bool (!mayP op arg l.length), .undef, .undef], (.loc [4], tblC (.loc [10, 0, 2, 0, 1]) (.loc [10, 0, 4, 0, 1]) (.loc [10, 0, 6, 0, 1]) (.loc [10, 0, 32, 0, 1]) (.loc [10, 0, 38, 0, 1])) :: tblH (.loc [10, 0, 2, 0, 1]) (.loc [10, 0, 4, 0, 1]) (.loc [10, 0, 6, 0, 1]) (.loc [10, 0, 32, 0, 1]) (.loc [10, 0, 38, 0, 1])⟩) (.take 0 (.both [(1, .both [(2, .take 3 (.take 4 (.take 5 (.take 10 (.take 12 (.take 13 (.both [(6, .take 7 (.take 8 (.both [(9, .both [(11, .both [(14, .take 15 (.take 16 (.done)))])]), (11, .both [(9, .both [(14, .take 15 (.take 16 (.done)))])])]))), (11, .both [(6, .take 7 (.take 8 (.both [(9, .both [(14, .take 15 (.take 16 (.done)))])])))])])))))))])])) (by kernel_rfl) (by kernel_rfl) ?_ ?_
        · (refine zs ?_; try exact trivial)
          refine a_call [] (isOp_h op) ok0 ?_ ?_ ?_
          · (refine zs ?_; try exact trivial)
          · (refine zs ?_; try exact trivial)
          rintro _ _ ⟨rfl, rfl⟩
          by_cases ho : 1 ≤ op ∧ op ≤ 22
          · have d : (decide (1 ≤ op) && decide (op ≤ 22)) = true := by simp [ho]
            have ho1 := ho.1
            have ho2 := ho.2
            simp (maxSteps := 2000000) (disch := omega) only [go_sem, Nat.reduceAdd, Nat.reduceSub, Nat.reduceMul, Nat.reduceBEq, Nat.reduceEqDiff, Nat.reduceLT, Nat.reduceLeDiff, Nat.reduceDiv, reduceIte, reduceCtorEq, d]
            by_cases q1 : op = 1
            · have hm : mayC (.loc [10, 0, 2, 0, 1]) (.loc [10, 0, 4, 0, 1]) (.loc [10, 0, 6, 0, 1]) (.loc [10, 0, 32, 0, 1]) (.loc [10, 0, 38, 0, 1]) op.toNat = .fn (.func 62) [] [] := by
                have q' : op.toNat = 1 := by omega
                simp [mayC, q']
              have dm : mayP op arg l.length = (decide (-2147483648 ≤ arg) && decide (arg ≤ 2147483647)) := by simp [mayP, q1]
              simp (maxSteps := 2000000) (disch := omega) only [go_sem, Nat.reduceAdd, Nat.reduceSub, Nat.reduceMul, Nat.reduceBEq, Nat.reduceEqDiff, Nat.reduceLT, Nat.reduceLeDiff, Nat.reduceDiv, reduceIte, reduceCtorEq, hm]
              refine a_call [] (number_h arg l.length) ok0 ?_ ?_ ?_
              · (refine zs ?_; try exact trivial)
              · (refine zs ?_; try exact trivial)
              rintro _ _ ⟨rfl, rfl⟩
              simp (maxSteps := 2000000) (disch := omega) only [go_sem, Nat.reduceAdd, Nat.reduceSub, Nat.reduceMul, Nat.reduceBEq, Nat.reduceEqDiff, Nat.reduceLT, Nat.reduceLeDiff, Nat.reduceDiv, reduceIte, reduceCtorEq, dm]
            by_cases q2 : op = 2
            · have hm : mayC (.loc [10, 0, 2, 0, 1]) (.loc [10, 0, 4, 0, 1]) (.loc [10, 0, 6, 0, 1]) (.loc [10, 0, 32, 0, 1]) (.loc [10, 0, 38, 0, 1]) op.toNat = .fn (.func 71) [] [(.loc [10, 0, 4, 0, 1], 0)] := by
                have q' : op.toNat = 2 := by omega
                simp [mayC, q']
              have dm : mayP op arg l.length = (decide (0 ≤ arg) && decide (arg ≤ 15)) := by simp [mayP, q2]
              simp (maxSteps := 2000000) (disch := omega) only [go_sem, Nat.reduceAdd, Nat.reduceSub, Nat.reduceMul, Nat.reduceBEq, Nat.reduceEqDiff, Nat.reduceLT, Nat.reduceLeDiff, Nat.reduceDiv, reduceIte, reduceCtorEq, hm]
              refine a_call [.loc [10, 0, 4, 0, 1]] (upTo1_h arg l.length 15) (ok1 rfl) ?_ ?_ ?_
              · (refine zs ?_; try exact trivial)
              · (refine zs ?_; try exact trivial)
              rintro _ _ ⟨rfl, rfl⟩
              simp (maxSteps := 2000000) (disch := omega) only [go_sem, Nat.reduceAdd, Nat.reduceSub, Nat.reduceMul, Nat.reduceBEq, Nat.reduceEqDiff, Nat.reduceLT, Nat.reduceLeDiff, Nat.reduceDiv, reduceIte, reduceCtorEq, dm]
            by_cases q3 : op = 3
            · have hm : mayC (.loc [10, 0, 2, 0, 1]) (.loc [10, 0, 4, 0, 1]) (.loc [10, 0, 6, 0, 1]) (.loc [10, 0, 32, 0, 1]) (.loc [10, 0, 38, 0, 1]) op.toNat = .fn (.func 71) [] [(.loc [10, 0, 6, 0, 1], 0)] := by
                have q' : op.toNat = 3 := by omega
                simp [mayC, q']
              have dm : mayP op arg l.length = (decide (0 ≤ arg) && decide (arg ≤ 15)) := by simp [mayP, q3]
              simp (maxSteps := 2000000) (disch := omega) only [go_sem, Nat.reduceAdd, Nat.reduceSub, Nat.reduceMul, Nat.reduceBEq, Nat.reduceEqDiff, Nat.reduceLT, Nat.reduceLeDiff, Nat.reduceDiv, reduceIte, reduceCtorEq, hm]
              refine a_call [.loc [10, 0, 6, 0, 1]] (upTo1_h arg l.length 15) (ok1 rfl) ?_ ?_ ?_
              · (refine zs ?_; try exact trivial)
              · (refine zs ?_; try exact trivial)
              rintro _ _ ⟨rfl, rfl⟩
              simp (maxSteps := 2000000) (disch := omega) only [go_sem, Nat.reduceAdd, Nat.reduceSub, Nat.reduceMul, Nat.reduceBEq, Nat.reduceEqDiff, Nat.reduceLT, Nat.reduceLeDiff, Nat.reduceDiv, reduceIte, reduceCtorEq, dm]
            by_cases q16 : op = 16
            · have hm : mayC (.loc [10, 0, 2, 0, 1]) (.loc [10, 0, 4, 0, 1]) (.loc [10, 0, 6, 0, 1]) (.loc [10, 0, 32, 0, 1]) (.loc [10, 0, 38, 0, 1]) op.toNat = .fn (.func 71) [] [(.loc [10, 0, 32, 0, 1], 0)] := by
                have q' : op.toNat = 16 := by omega
                simp [mayC, q']
              have dm : mayP op arg l.length = (decide (0 ≤ arg) && decide (arg ≤ 1)) := by simp [mayP, q16]
              simp (maxSteps := 2000000) (disch := omega) only [go_sem, Nat.reduceAdd, Nat.reduceSub, Nat.reduceMul, Nat.reduceBEq, Nat.reduceEqDiff, Nat.reduceLT, Nat.reduceLeDiff, Nat.reduceDiv, reduceIte, reduceCtorEq, hm]
              refine a_call [.loc [10, 0, 32, 0, 1]] (upTo1_h arg l.length 1) (ok1 rfl) ?_ ?_ ?_
              · (refine zs ?_; try exact trivial)
              · (refine zs ?_; try exact trivial)
              rintro _ _ ⟨rfl, rfl⟩
              simp (maxSteps := 2000000) (disch := omega) only [go_sem, Nat.reduceAdd, Nat.reduceSub, Nat.reduceMul, Nat.reduceBEq, Nat.reduceEqDiff, Nat.reduceLT, Nat.reduceLeDiff, Nat.reduceDiv, reduceIte, reduceCtorEq, dm]
            by_cases q18 : op = 18 ∨ op = 19
            · have hm : mayC (.loc [10, 0, 2, 0, 1]) (.loc [10, 0, 4, 0, 1]) (.loc [10, 0, 6, 0, 1]) (.loc [10, 0, 32, 0, 1]) (.loc [10, 0, 38, 0, 1]) op.toNat = .fn (.func 63) [] [] := by
                have q' : op.toNat = 18 ∨ op.toNat = 19 := by omega
                have q'' : ¬ op.toNat = 1 ∧ ¬ op.toNat = 2 ∧ ¬ op.toNat = 3 ∧ ¬ op.toNat = 16 := by omega
                simp [mayC, q', q'']
              have dm : mayP op arg l.length = (decide (0 ≤ arg) && decide (arg ≤ l.length)) := by simp [mayP, q18, q1, q2, q3, q16]
              simp (maxSteps := 2000000) (disch := omega) only [go_sem, Nat.reduceAdd, Nat.reduceSub, Nat.reduceMul, Nat.reduceBEq, Nat.reduceEqDiff, Nat.reduceLT, Nat.reduceLeDiff, Nat.reduceDiv, reduceIte, reduceCtorEq, hm]
              refine a_call [] (place_h arg l.length) ok0 ?_ ?_ ?_
              · (refine zs ?_; try exact trivial)
              · (refine zs ?_; try exact trivial)
              rintro _ _ ⟨rfl, rfl⟩
              simp (maxSteps := 2000000) (disch := omega) only [go_sem, Nat.reduceAdd, Nat.reduceSub, Nat.reduceMul, Nat.reduceBEq, Nat.reduceEqDiff, Nat.reduceLT, Nat.reduceLeDiff, Nat.reduceDiv, reduceIte, reduceCtorEq, dm]
            by_cases q20 : op = 20
            · have hm : mayC (.loc [10, 0, 2, 0, 1]) (.loc [10, 0, 4, 0, 1]) (.loc [10, 0, 6, 0, 1]) (.loc [10, 0, 32, 0, 1]) (.loc [10, 0, 38, 0, 1]) op.toNat = .fn (.func 71) [] [(.loc [10, 0, 38, 0, 1], 0)] := by
                have q' : op.toNat = 20 := by omega
                simp [mayC, q']
              have dm : mayP op arg l.length = (decide (0 ≤ arg) && decide (arg ≤ 2)) := by simp [mayP, q20]
              simp (maxSteps := 2000000) (disch := omega) only [go_sem, Nat.reduceAdd, Nat.reduceSub, Nat.reduceMul, Nat.reduceBEq, Nat.reduceEqDiff, Nat.reduceLT, Nat.reduceLeDiff, Nat.reduceDiv, reduceIte, reduceCtorEq, hm]
              refine a_call [.loc [10, 0, 38, 0, 1]] (upTo1_h arg l.length 2) (ok1 rfl) ?_ ?_ ?_
              · (refine zs ?_; try exact trivial)
              · (refine zs ?_; try exact trivial)
              rintro _ _ ⟨rfl, rfl⟩
              simp (maxSteps := 2000000) (disch := omega) only [go_sem, Nat.reduceAdd, Nat.reduceSub, Nat.reduceMul, Nat.reduceBEq, Nat.reduceEqDiff, Nat.reduceLT, Nat.reduceLeDiff, Nat.reduceDiv, reduceIte, reduceCtorEq, dm]
            have hm : mayC (.loc [10, 0, 2, 0, 1]) (.loc [10, 0, 4, 0, 1]) (.loc [10, 0, 6, 0, 1]) (.loc [10, 0, 32, 0, 1]) (.loc [10, 0, 38, 0, 1]) op.toNat = .fn (.func 71) [] [(.loc [10, 0, 2, 0, 1], 0)] := by
              have : ¬ op.toNat = 1 ∧ ¬ op.toNat = 2 ∧ ¬ op.toNat = 3 ∧ ¬ op.toNat = 16 ∧ ¬ (op.toNat = 18 ∨ op.toNat = 19) ∧ ¬ op.toNat = 20 := by omega
              simp [mayC, this]
            have dm : mayP op arg l.length = (decide (0 ≤ arg) && decide (arg ≤ 0)) := by
              unfold mayP
              rw [if_neg q1, if_neg (by omega), if_neg q16, if_neg q18, if_neg q20, d, Bool.true_and]
              rw [Bool.eq_iff_iff]
              simp
              omega
            simp (maxSteps := 2000000) (disch := omega) only [go_sem, Nat.reduceAdd, Nat.reduceSub, Nat.reduceMul, Nat.reduceBEq, Nat.reduceEqDiff, Nat.reduceLT, Nat.reduceLeDiff, Nat.reduceDiv, reduceIte, reduceCtorEq, hm]
            refine a_call [.loc [10, 0, 2, 0, 1]] (upTo1_h arg l.length 0) (ok1 rfl) ?_ ?_ ?_
            · (refine zs ?_; try exact trivial)
            · (refine zs ?_; try exact trivial)
            rintro _ _ ⟨rfl, rfl⟩
            simp (maxSteps := 2000000) (disch := omega) only [go_sem, Nat.reduceAdd, Nat.reduceSub, Nat.reduceMul, Nat.reduceBEq, Nat.reduceEqDiff, Nat.reduceLT, Nat.reduceLeDiff, Nat.reduceDiv, reduceIte, reduceCtorEq, dm]
          · have d : (decide (1 ≤ op) && decide (op ≤ 22)) = false := by
              have := mayP_not (arg := 0) (n := 0) ho
              simp; omega
            have dm := mayP_not (arg := arg) (n := l.length) ho
            simp (maxSteps := 2000000) (disch := omega) only [go_sem, Nat.reduceAdd, Nat.reduceSub, Nat.reduceMul, Nat.reduceBEq, Nat.reduceEqDiff, Nat.reduceLT, Nat.reduceLeDiff, Nat.reduceDiv, reduceIte, reduceCtorEq, d, dm]
        · cases dm : mayP op arg l.length
          · rw [hx dm]
            simp (maxSteps := 2000000) (disch := omega) only [go_sem, Nat.reduceAdd, Nat.reduceSub, Nat.reduceMul, Nat.reduceBEq, Nat.reduceEqDiff, Nat.reduceLT, Nat.reduceLeDiff, Nat.reduceDiv, reduceIte, reduceCtorEq, dm]
          · simp (maxSteps := 2000000) (disch := omega) only [go_sem, Nat.reduceAdd, Nat.reduceSub, Nat.reduceMul, Nat.reduceBEq, Nat.reduceEqDiff, Nat.reduceLT, Nat.reduceLeDiff, Nat.reduceDiv, reduceIte, reduceCtorEq, dm]
            exact ⟨i + 1, by omega, ⟨by omega, hs dm⟩, by congr 1⟩
      · have e : i = l.length := by omega
        subst e
        rw [chkP_ok (by omega) hb]
        (refine zs ?_; try exact trivial)
end Go.Proofs.Ytamcjecgkfmjkaa

/- Chapters 10 and 18: games, the state at first, a new match. -/
open Go Go.RowKit
namespace Go.Proofs.Ytamcjecgkfmjkaa
set_option linter.unusedSimpArgs false
set_option linter.unusedVariables false
/-- what is wrong with a game -/
def gameP (l : List (Int × Int)) (cap fuel : Int) : Int := if (chkP l).2 ≠ 0 then (chkP l).2 else if cap < 1 ∨ 600 < cap ∨ fuel < 1 ∨ 2000 < fuel then 1 else 0
abbrev W.game (l : List (Int × Int)) (cap fuel : Int) : W := .agg [.lst .no none 2 (ins l), .val (.int .i64 cap), .val (.int .i64 fuel)]
def startS (seed : UInt32) : Sta := stz 0 (UInt32.ofNat (max 1 (U32 seed)).toNat)
theorem gcheck_h (l : List (Int × Int)) (cap fuel : Int) (hl : l.length ≤ 9223372036854775807) : Holds Try.prog 24 [.game l cap fuel] [] (fun r h' => r = .int .i64 (gameP l cap fuel) ∧ h' = []) := by
  refine holds_of_awp Try.func24 rfl (by decide +kernel) mixed Try.ntmps24 Try.results24 ?_
  simp only [entrySt, List.map_cons, List.map_nil, List.length_cons, List.length_nil, Nat.reduceAdd, Nat.reduceSub, List.replicate_succ, List.replicate_zero, List.cons_append, List.nil_append]
  (refine zs ?_; try exact trivial)
  refine a_call [] (check_h9 l hl) ok0 ?_ ?_ ?_
  · (refine zs ?_; try exact trivial)
  · (refine zs ?_; try exact trivial)
  rintro _ _ ⟨rfl, rfl⟩
  (refine zs ?_; try exact trivial)
  refine c_dec (fun h => ?_) (fun h => ?_)
  · have e : gameP l cap fuel = (chkP l).2 := by unfold gameP; rw [if_pos h]
    rw [e]
    (refine zs ?_; try exact trivial)
  · have e0 : ¬ (chkP l).2 ≠ 0 := h
    (refine zs ?_; try exact trivial)
    cases d1 : decide (cap < 1)
    · cases d2 : decide (600 < cap)
      · cases d3 : decide (fuel < 1)
        · simp (maxSteps := 2000000) (disch := omega) only [go_sem, Nat.reduceAdd, Nat.reduceSub, Nat.reduceMul, Nat.reduceBEq, Nat.reduceEqDiff, Nat.reduceLT, Nat.reduceLeDiff, Nat.reduceDiv, reduceIte, reduceCtorEq, d1, d2, d3]
          have f1 := of_decide_eq_false d1
          have f2 := of_decide_eq_false d2
          have f3 := of_decide_eq_false d3
          refine c_dec (fun h => ?_) (fun h => ?_)
          · have e : gameP l cap fuel = 1 := by unfold gameP; rw [if_neg e0, if_pos (by omega)]
            rw [e]
            (refine zs ?_; try exact trivial)
          · have e : gameP l cap fuel = 0 := by unfold gameP; rw [if_neg e0, if_neg (by omega)]
            rw [e]
            (refine zs ?_; try exact trivial)
        · have f := of_decide_eq_true d3
          have e : gameP l cap fuel = 1 := by unfold gameP; rw [if_neg e0, if_pos (by omega)]
          rw [e]
          simp (maxSteps := 2000000) (disch := omega) only [go_sem, Nat.reduceAdd, Nat.reduceSub, Nat.reduceMul, Nat.reduceBEq, Nat.reduceEqDiff, Nat.reduceLT, Nat.reduceLeDiff, Nat.reduceDiv, reduceIte, reduceCtorEq, d1, d2, d3]
      · have f := of_decide_eq_true d2
        have e : gameP l cap fuel = 1 := by unfold gameP; rw [if_neg e0, if_pos (by omega)]
        rw [e]
        simp (maxSteps := 2000000) (disch := omega) only [go_sem, Nat.reduceAdd, Nat.reduceSub, Nat.reduceMul, Nat.reduceBEq, Nat.reduceEqDiff, Nat.reduceLT, Nat.reduceLeDiff, Nat.reduceDiv, reduceIte, reduceCtorEq, d1, d2]
    · have f := of_decide_eq_true d1
      have e : gameP l cap fuel = 1 := by unfold gameP; rw [if_neg e0, if_pos (by omega)]
      rw [e]
      simp (maxSteps := 2000000) (disch := omega) only [go_sem, Nat.reduceAdd, Nat.reduceSub, Nat.reduceMul, Nat.reduceBEq, Nat.reduceEqDiff, Nat.reduceLT, Nat.reduceLeDiff, Nat.reduceDiv, reduceIte, reduceCtorEq, d1]
theorem start_h (seed : UInt32) : Holds Try.prog 25 [.c (.val (.int .u32 (U32 seed)))] [] (fun r h' => r = .w (.agg ((sd (startS seed)).map D.toC)) ∧ h' = []) := by
  have hb : 0 ≤ max 1 (U32 seed) ∧ max 1 (U32 seed) < 4294967296 := by
    have := seed.toNat_lt
    unfold U32
    omega
  refine holds_of_awp Try.func25 rfl (by decide +kernel) mixed Try.ntmps25 Try.results25 ?_
  simp only [entrySt, List.map_cons, List.map_nil, List.length_cons, List.length_nil, Nat.reduceAdd, Nat.reduceSub, List.replicate_succ, List.replicate_zero, List.cons_append, List.nil_append]
  (refine zs ?_; try exact trivial)
  have e : U32 (UInt32.ofNat (max 1 (U32 seed)).toNat) = max 1 (U32 seed) := by
    have h : ∀ z : Int, 0 ≤ z ∧ z < 4294967296 → U32 (UInt32.ofNat z.toNat) = z := fun z hz => by unfold U32; rw [UInt32.toNat_ofNat']; omega
    exact h _ hb
  simp only [startS, sd, stz]
  rw [e]
  exact leCs_refl _
theorem start0_h : Holds Try.prog 25 [.c (.val (.int .u32 0))] [] (fun r h' => r = .w (.agg ((sd (startS 0)).map D.toC)) ∧ h' = []) := start_h 0
/-- a match of a game that is right -/
def ctNew (l : List (Int × Int)) (cap fuel : Int) : Ct := ⟨l, cap, fuel, 0, 0, 0, 0, 0, false, 0, 0, false, [], [], [], startS 0, []⟩
theorem new_bad18 (l : List (Int × Int)) (cap fuel : Int) (hl : l.length ≤ 9223372036854775807) (hg : gameP l cap fuel ≠ 0) : Holds Try.prog 12 [.game l cap fuel] [] (fun r h' => r = .tup [.c (.val (.pointer none)), .int .i64 (gameP l cap fuel)] ∧ h' = []) := by
  refine holds_of_awp Try.func12 rfl (by decide +kernel) mixed Try.ntmps12 Try.results12 ?_
  simp only [entrySt, List.map_cons, List.map_nil, List.length_cons, List.length_nil, Nat.reduceAdd, Nat.reduceSub, List.replicate_succ, List.replicate_zero, List.cons_append, List.nil_append]
  (refine zs ?_; try exact trivial)
  refine a_call [] (gcheck_h l cap fuel hl) ok0 ?_ ?_ ?_
  · (refine zs ?_; try exact trivial)
  · (refine zs ?_; try exact trivial)
  rintro _ _ ⟨rfl, rfl⟩
  (refine zs ?_; try exact trivial)
  refine c_dec (fun h => ?_) (fun h => ?_)
  · (refine zs ?_; try exact trivial)
  · exact (h hg).elim
theorem game_len {l : List (Int × Int)} {cap fuel : Int} (hg : gameP l cap fuel = 0) : l.length ≤ 256 := by
  rcases Nat.lt_or_ge 256 l.length with q | q
  · unfold gameP at hg
    rw [chkP_long q] at hg
    simp at hg
  · exact q
theorem nil_row {τ : Tag} {sz : Nat} (h : (Own.tag τ).lax = true) (h0 : 0 < sz) : leC (.lst (.tag τ) none sz []) (.lst .full (some true) 1 []) := by
  simp [leC, h, h0]
theorem no_row {o : Own} {nl : Option Bool} {sz : Nat} {xs : List D} : leC (.lst .no none sz xs) (.lst o nl sz xs) := by
  simp [leC]
@[go_sem 1300] theorem ct_lit {rc r0 r1 rp re : C} {cap fuel : Int} {s : Sta} : spl [rc, .val (.int .i64 cap), .val (.int .i64 fuel), .val (.int .i64 0), .val (.int .i64 0), .val (.int .u32 0), .val (.int .i64 0), .val (.int .i64 0), .val (.int .i64 0), .val (.int .i64 0), .val (.bool false), .val (.int .i64 0), .val (.int .i64 0), .val (.bool false), r0, r1, rp, .val (.int .i64 0), .val (.int .i32 0), .val (.int .i32 0), .val (.int .i32 0), .val (.int .i32 0), .val (.int .i32 0), .val (.int .i32 0), .val (.int .i32 0), .val (.int .i32 0), .val (.int .i32 0), .val (.int .i32 0), .val (.int .i32 0), .val (.int .i32 0), .val (.int .i32 0), .val (.int .i32 0), .val (.int .i32 0), .val (.int .i32 0), .val (.int .u32 0), .val (.bool false), .val (.int .i64 0), re] 17 ((sd s).map D.toC) = ctC rc cap fuel 0 0 0 0 0 0 0 false 0 0 false r0 r1 rp s re := by
  show spl (ctC rc cap fuel 0 0 0 0 0 0 0 false 0 0 false r0 r1 rp (stz 0 0) re) 17 ((sd s).map D.toC) = _
  exact ct_ss
set_option maxHeartbeats 1000000 in
theorem new_ok18 (l : List (Int × Int)) (cap fuel : Int) (hl : l.length ≤ 9223372036854775807) (hg : gameP l cap fuel = 0) : Holds Try.prog 12 [.game l cap fuel] [] (fun r h' => r = .tup [.c (.ptr (.loc [14]) 0), .int .i64 0] ∧ h' = [(.loc [14], ctB (.loc [14]) (ctNew l cap fuel))]) := by
  have hl2 := game_len hg
  refine holds_of_awp Try.func12 rfl (by decide +kernel) mixed Try.ntmps12 Try.results12 ?_
  simp only [entrySt, List.map_cons, List.map_nil, List.length_cons, List.length_nil, Nat.reduceAdd, Nat.reduceSub, List.replicate_succ, List.replicate_zero, List.cons_append, List.nil_append]
  (refine zs ?_; try exact trivial)
  refine a_call [] (gcheck_h l cap fuel hl) ok0 ?_ ?_ ?_
  · (refine zs ?_; try exact trivial)
  · (refine zs ?_; try exact trivial)
  rintro _ _ ⟨rfl, rfl⟩
  rw [hg]
  (refine zc ?_; try exact trivial)
  refine a_drawC (⟨[.undef, V.cell (.ptr (.loc [1]) 0), .undef, .undef, .undef, V.cell (.ptr (.loc [14]) 0), .undef, .undef, .undef, .undef, .undef, .undef, .undef, .undef, .undef, .undef, .undef, .undef, .undef, .undef, .undef, .undef, .undef], [(.loc [14], ctB (.loc [14]) (ctNew l cap fuel)), (.loc [1], [.lst .no none 2 (ins l), .val (.int .i64 cap), .val (.int .i64 fuel)])]⟩) (.both [(0, .both [(1, .both [(2, .both [(3, .take 4 (.done))])])]), (1, .both [(0, .both [(2, .both [(3, .take 4 (.done))])])])]) (by kernel_rfl) (by kernel_rfl) ?_ ?_
  · (refine zc ?_; try exact trivial)
    repeat' (with_reducible apply And.intro)
    all_goals (
      refine a_call [] (start0_h) ok0 ?_ ?_ ?_
      · (refine zs ?_; try exact trivial)
      · (refine zs ?_; try exact trivial)
      rintro _ _ ⟨rfl, rfl⟩
      (refine zc ?_; try exact trivial)
      exact ct_le ⟨leC_refl _, rfl, rfl, rfl, rfl, rfl, rfl, rfl, rfl, rfl, rfl, rfl, rfl, rfl, nil_row rfl (by omega), nil_row rfl (by omega), nil_row rfl (by omega), rfl, nil_row rfl (by omega)⟩)
  · (refine zc ?_; try exact trivial)
    refine a_call [] (cloneI_h l (by omega)) ok0 ?_ ?_ ?_
    · (refine zs ?_; try exact trivial)
    · (refine zs ?_; try exact trivial)
    rintro _ _ ⟨rfl, rfl⟩
    (refine zc ?_; try exact trivial)
    exact ct_le ⟨no_row, rfl, rfl, rfl, rfl, rfl, rfl, rfl, rfl, rfl, rfl, rfl, rfl, rfl, leC_refl _, leC_refl _, leC_refl _, rfl, leC_refl _⟩
end Go.Proofs.Ytamcjecgkfmjkaa

/- From the logic to the rows of the laws: games, rows of numbers. -/
open Go Go.RowKit Go.ChangeShapes Go.WideShapes
namespace Go.Proofs.Ytamcjecgkfmjkaa
set_option linter.unusedVariables false
theorem trod_flats {H : Type} {enc : TypeId × Value → H} {P : Program} {W : World} {t e : TypeId} {ks : List (Option IntKind)} {cs : List Value} {x : DataW H × List MemPlace} {fuel sz : Nat}
    (hu : P.underlying t = some (.slice e)) (hk : flatK P 8 e = some ks) (hsz : ks.length = sz) (h0 : 0 < sz)
    (hf : DataW.trod enc P W 0 (fun _ => true) true fuel t cs = some x) :
    ∃ (v : Value) (L : List (List Value)), cs = [v] ∧ (∀ q ∈ L, All2 okW ks q) ∧ L.length ≤ maxLen ∧ RelC (ghOf W) (.lst .no none sz (L.flatten.map D.val)) v := by
  rcases Go.Deep.open_slice hu hf with ⟨rfl, _⟩ | ⟨x, l, c, m, n, D', Pl, rfl, _, hl, hm, hmm, _, hx⟩
  · exact ⟨_, [], rfl, by simp, by simp, ⟨RelD.nil (by simp) h0, trivial⟩⟩
  · have hlm : l ≤ m := by rw [hmm]; simp only [if_true]; exact hl
    have hV : ∀ i, i < l → ∃ cs' : List Value, (∀ j, j < sz → W.cell? (x.add (i * sz + j)) = cs'[j]?) ∧ All2 okW ks cs' := by
      intro i hi
      obtain ⟨cs', h1, h2⟩ := hx i (by omega)
      have h3 := flat_trod 8 hk h2
      obtain ⟨_, h4, h5⟩ := World.cells?_some h1
      have h6 : P.cellsOf e = sz := by rw [← h4, ← h3.length, hsz]
      rw [h6] at h5
      refine ⟨cs', fun j hj => ?_, h3⟩
      rw [← add_of_add]
      exact h5 j hj
    obtain ⟨V, hV⟩ := Go.Deep.choose_lt hV
    have hL : ∀ q ∈ (List.range l).map V, All2 okW ks q := by
      intro q hq
      simp only [List.mem_map, List.mem_range] at hq
      obtain ⟨i, hi, rfl⟩ := hq
      exact (hV i hi).2
    have hl2 : ∀ q ∈ (List.range l).map V, q.length = sz := fun q hq => by rw [← (hL q hq).length, hsz]
    obtain ⟨f1, f2⟩ := flat_row _ hl2
    rw [List.length_map, List.length_range] at f1
    refine ⟨_, (List.range l).map V, rfl, hL, by simp; omega, ⟨RelD.mk (by simp) h0 (by simp only [List.length_map, f1]) hl hm ?_, trivial⟩⟩
    intro i dd hi
    rw [List.getElem?_map, Option.map_eq_some_iff] at hi
    obtain ⟨u, hu2, rfl⟩ := hi
    have hlt := (List.getElem?_eq_some_iff.1 hu2).1
    rw [f1] at hlt
    have e1 : i / sz * sz + i % sz = i := by rw [Nat.mul_comm]; exact Nat.div_add_mod i sz
    have e2 : i / sz < l := Nat.div_lt_of_lt_mul (by rw [Nat.mul_comm]; exact hlt)
    have e3 : i % sz < sz := Nat.mod_lt _ h0
    have h7 := f2 (i / sz) (i % sz) e3
    rw [e1, hu2] at h7
    have h8 := (hV _ e2).1 _ e3
    rw [e1] at h8
    rw [List.getElem?_map, List.getElem?_range e2] at h7
    simp only [Option.map_some, Option.bind_some] at h7
    refine ⟨u, by rw [show (ghOf W).M = fun a => W.cell? a from rfl]; dsimp only; rw [h8, ← h7], .val ?_⟩
    exact okW_all (hV _ e2).2 u (List.mem_of_getElem? h7.symm)
theorem u16_rows : ∀ {L : List (List Value)}, (∀ q ∈ L, All2 okW [some .u16] q) → ∃ l : List UInt16, L.flatten.map D.val = ls fU l ∧ l.length = L.length
  | [], _ => ⟨[], rfl, rfl⟩
  | q :: L, h => by
    obtain ⟨v, q', rfl, ⟨n, rfl, hn⟩, hq⟩ := (h q (List.mem_cons_self ..)).cons_inv
    obtain rfl := hq.nil_inv
    obtain ⟨l, h1, h2⟩ := u16_rows (L := L) fun q hq => h q (List.mem_cons_of_mem _ hq)
    refine ⟨UInt16.ofNat n.toNat :: l, ?_, by simp [h2]⟩
    rw [List.flatten_cons, List.map_append, h1]
    show [D.val (.int .u16 n)] ++ ls fU l = D.val (.int .u16 (U16 (UInt16.ofNat n.toNat))) :: ls fU l
    rw [u16_wf hn]; rfl
theorem i64_rows : ∀ {L : List (List Value)}, (∀ q ∈ L, All2 okW [some .i64] q) → ∃ l : List Int, L.flatten.map D.val = ls fI l ∧ l.length = L.length ∧ ∀ z ∈ l, i64B z
  | [], _ => ⟨[], rfl, rfl, by simp⟩
  | q :: L, h => by
    obtain ⟨v, q', rfl, ⟨n, rfl, hn⟩, hq⟩ := (h q (List.mem_cons_self ..)).cons_inv
    obtain rfl := hq.nil_inv
    obtain ⟨l, h1, h2, h3⟩ := i64_rows (L := L) fun q hq => h q (List.mem_cons_of_mem _ hq)
    refine ⟨n :: l, ?_, by simp [h2], fun z hz => ?_⟩
    · rw [List.flatten_cons, List.map_append, h1]; rfl
    · rcases List.mem_cons.1 hz with rfl | hz
      · exact i64_wf hn
      · exact h3 z hz
theorem ins_rows : ∀ {L : List (List Value)}, (∀ q ∈ L, All2 okW [some .i64, some .i64] q) → ∃ l : List (Int × Int), L.flatten.map D.val = ins l ∧ l.length = L.length
  | [], _ => ⟨[], rfl, rfl⟩
  | q :: L, h => by
    obtain ⟨v, q', rfl, ⟨n, rfl, hn⟩, hq⟩ := (h q (List.mem_cons_self ..)).cons_inv
    obtain ⟨v2, q2, rfl, ⟨m, rfl, hm⟩, hq2⟩ := hq.cons_inv
    obtain rfl := hq2.nil_inv
    obtain ⟨l, h1, h2⟩ := ins_rows (L := L) fun q hq => h q (List.mem_cons_of_mem _ hq)
    refine ⟨(n, m) :: l, ?_, by simp [h2]⟩
    rw [List.flatten_cons, List.map_append, h1]; rfl
theorem flatU : flatK Try.prog 8 35 = some [some .u16] := by kernel_rfl
set_option maxRecDepth 100000 in
theorem open_u16s {H : Type} {enc : TypeId × Value → H} {W : World} {v : Value} {d : DataW H} {ps : List MemPlace} {r : Reach} {b0 : Nat}
    (hv : Value.okWide Try.prog W r b0 25 v) (h : DataW.Trod enc Try.prog W 0 (fun _ => true) true 25 v d ps) :
    ∃ l : List UInt16, RelW (ghOf W) (.c (.lst .no none 1 (ls fU l))) v ∧ l.length ≤ maxLen := by
  obtain ⟨L, h1, h2, h3⟩ := open_flats (sz := 1) Try.underlying25 flatU rfl (by omega) hv h
  obtain ⟨l, e, h4⟩ := u16_rows h1
  rw [e] at h3
  exact ⟨l, h3, by omega⟩
theorem flatI : flatK Try.prog 8 3 = some [some .i64] := by kernel_rfl
set_option maxRecDepth 100000 in
theorem open_ints' {H : Type} {enc : TypeId × Value → H} {W : World} {v : Value} {d : DataW H} {ps : List MemPlace} {r : Reach} {b0 : Nat}
    (hv : Value.okWide Try.prog W r b0 26 v) (h : DataW.Trod enc Try.prog W 0 (fun _ => true) true 26 v d ps) :
    ∃ l : List Int, RelW (ghOf W) (.c (.lst .no none 1 (ls fI l))) v ∧ l.length ≤ maxLen ∧ ∀ z ∈ l, i64B z := by
  obtain ⟨L, h1, h2, h3⟩ := open_flats (sz := 1) Try.underlying26 flatI rfl (by omega) hv h
  obtain ⟨l, e, h4, h5⟩ := i64_rows h1
  rw [e] at h3
  exact ⟨l, h3, by omega, h5⟩
theorem flatIns : flatK Try.prog 8 74 = some [some .i64, some .i64] := by kernel_rfl
theorem trod_f3 {H : Type} {enc : TypeId × Value → H} {P : Program} {W : World} {t : TypeId} {f0 f1 f2 : Field} {cs : List Value} {x : DataW H × List MemPlace} {fuel : Nat}
    (ht : P.underlying t = some (.struct #[f0, f1, f2])) (hc : P.cellsOf t = 3) (o0 : f0.offset = 0) (o1 : f1.offset = 1) (o2 : f2.offset = 2) (c0 : P.cellsOf f0.type = 1) (c1 : P.cellsOf f1.type = 1) (c2 : P.cellsOf f2.type = 1)
    (hx : DataW.trod enc P W 0 (fun _ => true) true fuel t cs = some x) :
    ∃ v0 v1 v2 y0 y1 y2 n, cs = [v0, v1, v2] ∧ DataW.trod enc P W 0 (fun _ => true) true n f0.type [v0] = some y0 ∧ DataW.trod enc P W 0 (fun _ => true) true n f1.type [v1] = some y1 ∧ DataW.trod enc P W 0 (fun _ => true) true n f2.type [v2] = some y2 := by
  obtain ⟨xs, m, _, _, hlen, hxl, hall⟩ := DataW.trod_struct ht hx
  rw [hc] at hlen
  have a0 := hall 0 f0 rfl
  have a1 := hall 1 f1 rfl
  have a2 := hall 2 f2 rfl
  have hxl' : xs.length = 3 := hxl
  rw [List.getElem?_eq_getElem (by omega)] at a0 a1 a2
  match cs, hlen with
  | [v0, v1, v2], _ =>
    rw [c0, o0] at a0
    rw [c1, o1] at a1
    rw [c2, o2] at a2
    exact ⟨v0, v1, v2, _, _, _, m, rfl, a0, a1, a2⟩
set_option maxRecDepth 100000 in
theorem game_cells {cs : List Value} {W : World} {H : Type} {enc : TypeId × Value → H} {fuel : Nat} {x : DataW H × List MemPlace} (hx : DataW.trod enc Try.prog W 0 (fun _ => true) true fuel 24 cs = some x) :
    ∃ (code : List (Int × Int)) (cap fu : Int), code.length ≤ maxLen ∧ i64B cap ∧ i64B fu ∧ All2 (RelC (ghOf W)) [.lst .no none 2 (ins code), .val (.int .i64 cap), .val (.int .i64 fu)] cs := by
  obtain ⟨v0, v1, v2, _, _, _, m, rfl, a0, a1, a2⟩ := trod_f3 Try.underlying24 (by kernel_rfl) rfl rfl rfl (by kernel_rfl) (by kernel_rfl) (by kernel_rfl) hx
  obtain ⟨v, L, e, h1, h2, h3⟩ := trod_flats (sz := 2) Try.underlying22 flatIns rfl (by omega) a0
  obtain ⟨code, e2, h4⟩ := ins_rows h1
  rw [e2] at h3
  obtain ⟨n, e3, _, hn⟩ := DataW.trod_int Try.underlying3 a1
  obtain ⟨k, e4, _, hk⟩ := DataW.trod_int Try.underlying3 a2
  obtain rfl : v0 = v := by simpa using e
  obtain rfl : v1 = .int .i64 n := by simpa using e3
  obtain rfl : v2 = .int .i64 k := by simpa using e4
  exact ⟨code, n, k, by omega, i64_wf hn, i64_wf hk, .cons h3 (.cons ⟨rfl, rfl⟩ (.cons ⟨rfl, rfl⟩ .nil))⟩
set_option maxRecDepth 100000 in
theorem open_game {H : Type} {enc : TypeId × Value → H} {W : World} {v : Value} {d : DataW H} {ps : List MemPlace} {r : Reach} {b0 : Nat}
    (hv : Value.okWide Try.prog W r b0 24 v) (h : DataW.Trod enc Try.prog W 0 (fun _ => true) true 24 v d ps) :
    ∃ (code : List (Int × Int)) (cap fu : Int), RelW (ghOf W) (.game code cap fu) v ∧ code.length ≤ maxLen ∧ i64B cap ∧ i64B fu := by
  obtain ⟨cs, rfl, _⟩ := okWide_struct Try.underlying24 hv
  obtain ⟨fuel, hf⟩ := h
  obtain ⟨code, cap, fu, h1, h2, h3, h4⟩ := game_cells hf
  exact ⟨code, cap, fu, ⟨cs, rfl, h4⟩, h1, h2, h3⟩
end Go.Proofs.Ytamcjecgkfmjkaa

/- Chapter 10: the cells of a machine (written by genbox.py) -/
open Go Go.RowKit
namespace Go.Proofs.Ytamcjecgkfmjkaa
set_option linter.unusedSimpArgs false
set_option linter.unusedVariables false
set_option maxRecDepth 20000
def mcC (s : Sta) (i0 : UInt16) (i1 : UInt16) (sk : C) (atP : Int) (en : Bool) (bad : Bool) : List C := ((sd s).map D.toC ++ [.val (.int .u16 (U16 i0)), .val (.int .u16 (U16 i1)), sk, .val (.int .i64 atP), .val (.bool en), .val (.bool bad)])
section
variable {s : Sta} {i0 : UInt16} {i1 : UInt16} {sk : C} {atP : Int} {en : Bool} {bad : Bool} {V' : V → Prop} {K : C → Prop} {ks : List Id} {m : Nat}
@[go_sem] theorem mc_l : (mcC s i0 i1 sk atP en bad).length = 26 := by
  unfold mcC
  simp only [List.length_append, List.length_map, sd_len, List.length_cons, List.length_nil]
@[go_sem] theorem mc_k {bi : Id → Bool} {bt : Tag → Bool} : (mcC s i0 i1 sk atP en bad).map (C.clean bi bt) = (mcC s i0 i1 (C.clean bi bt sk) atP en bad) := by
  unfold mcC
  simp only [List.map_append, List.map_cons, List.map_nil, go_sem]
@[go_sem] theorem mc_r  : (mcC s i0 i1 sk atP en bad).map (C.ren ks m) = (mcC s i0 i1 (C.ren ks m sk) atP en bad) := by
  unfold mcC
  simp only [List.map_append, List.map_cons, List.map_nil, go_sem]
@[go_sem] theorem mc_t {ta tb : Tag} : (mcC s i0 i1 sk atP en bad).map (C.retag ta tb) = (mcC s i0 i1 (C.retag ta tb sk) atP en bad) := by
  unfold mcC
  simp only [List.map_append, List.map_cons, List.map_nil, go_sem]
@[go_sem] theorem mc_n : (mcC s i0 i1 sk atP en bad).all known = (known sk) := by
  unfold mcC
  simp only [List.all_append, List.all_cons, List.all_nil, go_sem, Bool.true_and, Bool.and_true, Bool.and_assoc]
theorem mc_gs_frame : (mcC s i0 i1 sk atP en bad)[0]? = some (.val (.int .i64 s.frame)) := by
  unfold mcC
  first | exact get_frame | (rw [List.getElem?_append_left (by rw [sdC_len]; omega)]; exact get_frame)
@[go_sem ↓ 1300] theorem mc_ms_frame : (∃ c, (mcC s i0 i1 sk atP en bad)[0]? = some c ∧ K c) = K (.val (.int .i64 s.frame)) := ex_some mc_gs_frame
theorem mc_gs_seed : (mcC s i0 i1 sk atP en bad)[17]? = some (.val (.int .u32 (U32 s.seed))) := by
  unfold mcC
  first | exact get_seed | (rw [List.getElem?_append_left (by rw [sdC_len]; omega)]; exact get_seed)
@[go_sem ↓ 1300] theorem mc_ms_seed : (∃ c, (mcC s i0 i1 sk atP en bad)[17]? = some c ∧ K c) = K (.val (.int .u32 (U32 s.seed))) := ex_some mc_gs_seed
theorem mc_gs_over : (mcC s i0 i1 sk atP en bad)[18]? = some (.val (.bool s.over)) := by
  unfold mcC
  first | exact get_over | (rw [List.getElem?_append_left (by rw [sdC_len]; omega)]; exact get_over)
@[go_sem ↓ 1300] theorem mc_ms_over : (∃ c, (mcC s i0 i1 sk atP en bad)[18]? = some c ∧ K c) = K (.val (.bool s.over)) := ex_some mc_gs_over
theorem mc_gs_win : (mcC s i0 i1 sk atP en bad)[19]? = some (.val (.int .i64 s.win)) := by
  unfold mcC
  first | exact get_win | (rw [List.getElem?_append_left (by rw [sdC_len]; omega)]; exact get_win)
@[go_sem ↓ 1300] theorem mc_ms_win : (∃ c, (mcC s i0 i1 sk atP en bad)[19]? = some c ∧ K c) = K (.val (.int .i64 s.win)) := ex_some mc_gs_win
@[go_sem 1300] theorem mc_as : ((mcC s i0 i1 sk atP en bad).drop 0).take 20 = (sd s).map D.toC := by
  unfold mcC
  show List.take 20 ((sd s).map D.toC ++ _) = _
  rw [List.take_left' sdC_len]
@[go_sem ↓ 1300] theorem mc_ps : aPt (some true) 20 (mcC s i0 i1 sk atP en bad) 0 V' = V' (.w (.agg ((sd s).map D.toC))) := by
  simp only [aPt, mc_l, mc_as, Nat.reduceAdd, Nat.reduceLeDiff, true_and]
@[go_sem ↓ 1300] theorem mc_m_i0 : (∃ c, (mcC s i0 i1 sk atP en bad)[20]? = some c ∧ K c) = K (.val (.int .u16 (U16 i0))) := ex_some (by
  unfold mcC
  rw [List.getElem?_append_right (by first | simp only [List.length_cons, List.length_nil, List.length_map, sd_len]; omega | simp [sd_len])]
  simp only [List.length_cons, List.length_nil, List.length_map, sd_len, Nat.reduceAdd, Nat.reduceSub]
  first | rfl | (rw [List.getElem?_append_left (by simp)]; rfl))
@[go_sem ↓ 1300] theorem mc_m_i1 : (∃ c, (mcC s i0 i1 sk atP en bad)[21]? = some c ∧ K c) = K (.val (.int .u16 (U16 i1))) := ex_some (by
  unfold mcC
  rw [List.getElem?_append_right (by first | simp only [List.length_cons, List.length_nil, List.length_map, sd_len]; omega | simp [sd_len])]
  simp only [List.length_cons, List.length_nil, List.length_map, sd_len, Nat.reduceAdd, Nat.reduceSub]
  first | rfl | (rw [List.getElem?_append_left (by simp)]; rfl))
@[go_sem ↓ 1300] theorem mc_m_sk : (∃ c, (mcC s i0 i1 sk atP en bad)[22]? = some c ∧ K c) = K (sk) := ex_some (by
  unfold mcC
  rw [List.getElem?_append_right (by first | simp only [List.length_cons, List.length_nil, List.length_map, sd_len]; omega | simp [sd_len])]
  simp only [List.length_cons, List.length_nil, List.length_map, sd_len, Nat.reduceAdd, Nat.reduceSub]
  first | rfl | (rw [List.getElem?_append_left (by simp)]; rfl))
@[go_sem ↓ 1300] theorem mc_m_atP : (∃ c, (mcC s i0 i1 sk atP en bad)[23]? = some c ∧ K c) = K (.val (.int .i64 atP)) := ex_some (by
  unfold mcC
  rw [List.getElem?_append_right (by first | simp only [List.length_cons, List.length_nil, List.length_map, sd_len]; omega | simp [sd_len])]
  simp only [List.length_cons, List.length_nil, List.length_map, sd_len, Nat.reduceAdd, Nat.reduceSub]
  first | rfl | (rw [List.getElem?_append_left (by simp)]; rfl))
@[go_sem ↓ 1300] theorem mc_m_en : (∃ c, (mcC s i0 i1 sk atP en bad)[24]? = some c ∧ K c) = K (.val (.bool en)) := ex_some (by
  unfold mcC
  rw [List.getElem?_append_right (by first | simp only [List.length_cons, List.length_nil, List.length_map, sd_len]; omega | simp [sd_len])]
  simp only [List.length_cons, List.length_nil, List.length_map, sd_len, Nat.reduceAdd, Nat.reduceSub]
  first | rfl | (rw [List.getElem?_append_left (by simp)]; rfl))
@[go_sem ↓ 1300] theorem mc_m_bad : (∃ c, (mcC s i0 i1 sk atP en bad)[25]? = some c ∧ K c) = K (.val (.bool bad)) := ex_some (by
  unfold mcC
  rw [List.getElem?_append_right (by first | simp only [List.length_cons, List.length_nil, List.length_map, sd_len]; omega | simp [sd_len])]
  simp only [List.length_cons, List.length_nil, List.length_map, sd_len, Nat.reduceAdd, Nat.reduceSub]
  first | rfl | (rw [List.getElem?_append_left (by simp)]; rfl))
@[go_sem 1300] theorem mc_d20_2 : ((mcC s i0 i1 sk atP en bad).drop 20).take 2 = [.val (.int .u16 (U16 i0)), .val (.int .u16 (U16 i1))] := by
    first
      | rfl
      | (unfold mcC
         rw [show (20 : Nat) = ((sd s).map D.toC).length + 0 from by rw [sdC_len], List.drop_append, List.drop_eq_nil_of_le (by omega), Nat.add_sub_cancel_left]
         rfl)
@[go_sem ↓ 1300] theorem mc_p20_2 : aPt (some true) 2 (mcC s i0 i1 sk atP en bad) 20 V' = V' (.w (.agg [.val (.int .u16 (U16 i0)), .val (.int .u16 (U16 i1))])) := by
  simp only [aPt, mc_l, mc_d20_2, Nat.reduceAdd, Nat.reduceLeDiff, true_and]
@[go_sem 1300] theorem mc_ss_frame {x : Int} : spl (mcC s i0 i1 sk atP en bad) 0 [.val (.int .i64 x)] = (mcC (s.wFrame x) i0 i1 sk atP en bad) := by
  unfold mcC
  rw [spl_appL (by simp only [List.length_cons, List.length_nil, sdC_len]; omega), spl_frame]
@[go_sem 1300] theorem mc_us_frame {x : Int} : (mcC s i0 i1 sk atP en bad).set 0 (.val (.int .i64 x)) = (mcC (s.wFrame x) i0 i1 sk atP en bad) := show spl (mcC s i0 i1 sk atP en bad) 0 [.val (.int .i64 x)] = _ from mc_ss_frame
@[go_sem 1300] theorem mc_ss_seed {x : UInt32} : spl (mcC s i0 i1 sk atP en bad) 17 [.val (.int .u32 (U32 x))] = (mcC (s.wSeed x) i0 i1 sk atP en bad) := by
  unfold mcC
  rw [spl_appL (by simp only [List.length_cons, List.length_nil, sdC_len]; omega), spl_seed]
@[go_sem 1300] theorem mc_us_seed {x : UInt32} : (mcC s i0 i1 sk atP en bad).set 17 (.val (.int .u32 (U32 x))) = (mcC (s.wSeed x) i0 i1 sk atP en bad) := show spl (mcC s i0 i1 sk atP en bad) 17 [.val (.int .u32 (U32 x))] = _ from mc_ss_seed
@[go_sem 1300] theorem mc_ss_over {x : Bool} : spl (mcC s i0 i1 sk atP en bad) 18 [.val (.bool x)] = (mcC (s.wOver x) i0 i1 sk atP en bad) := by
  unfold mcC
  rw [spl_appL (by simp only [List.length_cons, List.length_nil, sdC_len]; omega), spl_over]
@[go_sem 1300] theorem mc_us_over {x : Bool} : (mcC s i0 i1 sk atP en bad).set 18 (.val (.bool x)) = (mcC (s.wOver x) i0 i1 sk atP en bad) := show spl (mcC s i0 i1 sk atP en bad) 18 [.val (.bool x)] = _ from mc_ss_over
@[go_sem 1300] theorem mc_ss_win {x : Int} : spl (mcC s i0 i1 sk atP en bad) 19 [.val (.int .i64 x)] = (mcC (s.wWin x) i0 i1 sk atP en bad) := by
  unfold mcC
  rw [spl_appL (by simp only [List.length_cons, List.length_nil, sdC_len]; omega), spl_win]
@[go_sem 1300] theorem mc_us_win {x : Int} : (mcC s i0 i1 sk atP en bad).set 19 (.val (.int .i64 x)) = (mcC (s.wWin x) i0 i1 sk atP en bad) := show spl (mcC s i0 i1 sk atP en bad) 19 [.val (.int .i64 x)] = _ from mc_ss_win
@[go_sem 1300] theorem mc_ss {x : Sta} : spl (mcC s i0 i1 sk atP en bad) 0 ((sd x).map D.toC) = (mcC (x) i0 i1 sk atP en bad) := by
  unfold mcC
  rw [spl_appL (by simp only [sdC_len]; omega), spl_all (by simp only [sdC_len])]
@[go_sem 1300] theorem mc_s_i0 {x : UInt16} : spl (mcC s i0 i1 sk atP en bad) 20 [.val (.int .u16 (U16 x))] = (mcC s (x) i1 sk atP en bad) := by
  unfold mcC
  rw [show (20 : Nat) = ((sd s).map D.toC).length + 0 from by first | rfl | rw [sdC_len], spl_appR (by simp only [List.length_append, List.length_cons, List.length_nil, sdC_len]; omega)]
  rfl
@[go_sem 1300] theorem mc_u_i0 {x : UInt16} : (mcC s i0 i1 sk atP en bad).set 20 (.val (.int .u16 (U16 x))) = (mcC s (x) i1 sk atP en bad) := show spl (mcC s i0 i1 sk atP en bad) 20 [.val (.int .u16 (U16 x))] = _ from mc_s_i0
@[go_sem 1300] theorem mc_s_i1 {x : UInt16} : spl (mcC s i0 i1 sk atP en bad) 21 [.val (.int .u16 (U16 x))] = (mcC s i0 (x) sk atP en bad) := by
  unfold mcC
  rw [show (21 : Nat) = ((sd s).map D.toC).length + 1 from by first | rfl | rw [sdC_len], spl_appR (by simp only [List.length_append, List.length_cons, List.length_nil, sdC_len]; omega)]
  rfl
@[go_sem 1300] theorem mc_u_i1 {x : UInt16} : (mcC s i0 i1 sk atP en bad).set 21 (.val (.int .u16 (U16 x))) = (mcC s i0 (x) sk atP en bad) := show spl (mcC s i0 i1 sk atP en bad) 21 [.val (.int .u16 (U16 x))] = _ from mc_s_i1
@[go_sem 1300] theorem mc_s_sk {x : C} : spl (mcC s i0 i1 sk atP en bad) 22 [x] = (mcC s i0 i1 (x) atP en bad) := by
  unfold mcC
  rw [show (22 : Nat) = ((sd s).map D.toC).length + 2 from by first | rfl | rw [sdC_len], spl_appR (by simp only [List.length_append, List.length_cons, List.length_nil, sdC_len]; omega)]
  rfl
@[go_sem 1300] theorem mc_u_sk {x : C} : (mcC s i0 i1 sk atP en bad).set 22 (x) = (mcC s i0 i1 (x) atP en bad) := show spl (mcC s i0 i1 sk atP en bad) 22 [x] = _ from mc_s_sk
@[go_sem 1300] theorem mc_s_atP {x : Int} : spl (mcC s i0 i1 sk atP en bad) 23 [.val (.int .i64 x)] = (mcC s i0 i1 sk (x) en bad) := by
  unfold mcC
  rw [show (23 : Nat) = ((sd s).map D.toC).length + 3 from by first | rfl | rw [sdC_len], spl_appR (by simp only [List.length_append, List.length_cons, List.length_nil, sdC_len]; omega)]
  rfl
@[go_sem 1300] theorem mc_u_atP {x : Int} : (mcC s i0 i1 sk atP en bad).set 23 (.val (.int .i64 x)) = (mcC s i0 i1 sk (x) en bad) := show spl (mcC s i0 i1 sk atP en bad) 23 [.val (.int .i64 x)] = _ from mc_s_atP
@[go_sem 1300] theorem mc_s_en {x : Bool} : spl (mcC s i0 i1 sk atP en bad) 24 [.val (.bool x)] = (mcC s i0 i1 sk atP (x) bad) := by
  unfold mcC
  rw [show (24 : Nat) = ((sd s).map D.toC).length + 4 from by first | rfl | rw [sdC_len], spl_appR (by simp only [List.length_append, List.length_cons, List.length_nil, sdC_len]; omega)]
  rfl
@[go_sem 1300] theorem mc_u_en {x : Bool} : (mcC s i0 i1 sk atP en bad).set 24 (.val (.bool x)) = (mcC s i0 i1 sk atP (x) bad) := show spl (mcC s i0 i1 sk atP en bad) 24 [.val (.bool x)] = _ from mc_s_en
@[go_sem 1300] theorem mc_s_bad {x : Bool} : spl (mcC s i0 i1 sk atP en bad) 25 [.val (.bool x)] = (mcC s i0 i1 sk atP en (x)) := by
  unfold mcC
  rw [show (25 : Nat) = ((sd s).map D.toC).length + 5 from by first | rfl | rw [sdC_len], spl_appR (by simp only [List.length_append, List.length_cons, List.length_nil, sdC_len]; omega)]
  rfl
@[go_sem 1300] theorem mc_u_bad {x : Bool} : (mcC s i0 i1 sk atP en bad).set 25 (.val (.bool x)) = (mcC s i0 i1 sk atP en (x)) := show spl (mcC s i0 i1 sk atP en bad) 25 [.val (.bool x)] = _ from mc_s_bad
@[go_sem 1300] theorem mc_w20_2 {y0 : UInt16} {y1 : UInt16} : spl (mcC s i0 i1 sk atP en bad) 20 [.val (.int .u16 (U16 y0)), .val (.int .u16 (U16 y1))] = (mcC s y0 y1 sk atP en bad) := by
  first
    | rfl
    | (unfold mcC
       rw [show (20 : Nat) = ((sd s).map D.toC).length + 0 from by rw [sdC_len], spl_appR (by simp only [List.length_cons, List.length_nil]; omega)]
       rfl)
@[go_sem ↓] theorem mc_w {l : List V} {hp : Heap} {i : Id} {off : Nat} {cs : List C} : St.stow ⟨l, hp⟩ i off cs (mcC s i0 i1 sk atP en bad) = ⟨l, hset hp i (spl cs off (mcC s i0 i1 (C.clean (fun _ => false) (fun _ => true) sk) atP en bad))⟩ := by
  rw [stow_big (by rw [mc_l]; omega), mc_k]
@[go_sem ↓ 1300] theorem mc_p : aPt (some true) 26 (mcC s i0 i1 sk atP en bad) 0 V' = V' (.w (.agg (mcC s i0 i1 sk atP en bad))) := by
  have e : ((mcC s i0 i1 sk atP en bad).drop 0).take 26 = (mcC s i0 i1 sk atP en bad) := by rw [List.drop_zero, List.take_of_length_le (by rw [mc_l]; omega)]
  simp only [aPt, mc_l, e, Nat.reduceAdd, Nat.reduceLeDiff, true_and]
theorem mc_le {s' : Sta} {i0' : UInt16} {i1' : UInt16} {sk' : C} {atP' : Int} {en' : Bool} {bad' : Bool} (h : s = s' ∧ i0 = i0' ∧ i1 = i1' ∧ leC sk sk' ∧ atP = atP' ∧ en = en' ∧ bad = bad') : leCs (mcC s i0 i1 sk atP en bad) (mcC s' i0' i1' sk' atP' en' bad') := by
  obtain ⟨h0, h1, h2, h3, h4, h5, h6⟩ := h
  subst h0
  subst h1
  subst h2
  subst h4
  subst h5
  subst h6
  unfold mcC
  try simp only [List.cons_append, List.nil_append, List.append_assoc]
  exact (leCs_app (leCs_refl _) ⟨leC_refl _, ⟨leC_refl _, ⟨h3, ⟨leC_refl _, ⟨leC_refl _, ⟨leC_refl _, trivial⟩⟩⟩⟩⟩⟩)
@[go_sem ↓ 1300] theorem mc_ler : leCs (mcC s i0 i1 sk atP en bad) (mcC s i0 i1 sk atP en bad) = True := eq_true (leCs_refl _)
end
end Go.Proofs.Ytamcjecgkfmjkaa

/- Chapter 10: the table of the doers. (written by gentbl.py) -/
open Go Go.RowKit
namespace Go.Proofs.Ytamcjecgkfmjkaa
set_option linter.unusedSimpArgs false
set_option linter.unusedVariables false
set_option maxRecDepth 20000
def doeC (a b c d e f g h : Id) : List C := [.val .nilFunc, .fn (.func 77) [] [], .fn (.func 78) [] [], .fn (.func 79) [] [], .fn (.func 103) [] [(a, 0)], .fn (.func 103) [] [(b, 0)], .fn (.func 103) [] [(c, 0)], .fn (.func 103) [] [(d, 0)], .fn (.func 103) [] [(e, 0)], .fn (.func 103) [] [(f, 0)], .fn (.func 103) [] [(g, 0)], .fn (.func 103) [] [(h, 0)], .fn (.func 89) [] [], .fn (.func 90) [] [], .fn (.func 91) [] [], .fn (.func 92) [] [], .fn (.func 93) [] [], .fn (.func 94) [] [], .fn (.func 95) [] [], .fn (.func 96) [] [], .fn (.func 97) [] [], .fn (.func 98) [] [], .fn (.func 99) [] []]
def doeU (bi : Id → Bool) (bt : Tag → Bool) (a b c d e f g h : Id) : List C := (doeC a b c d e f g h).map (C.clean bi bt)
section
variable {a b c d e f g h : Id} {V' : V → Prop} {r : List C} {ks : List Id} {m : Nat}
@[go_sem] theorem doe_k {bi : Id → Bool} {bt : Tag → Bool} : (doeC a b c d e f g h).map (C.clean bi bt) = if (bi a || bi b || bi c || bi d || bi e || bi f || bi g || bi h) = true then doeU bi bt a b c d e f g h else doeC a b c d e f g h := by
  split
  · rfl
  · rename_i h
    simp only [Bool.or_eq_true, not_or, Bool.not_eq_true] at h
    simp [doeC, C.clean, h]
@[go_sem] theorem doe_r : (doeC a b c d e f g h).map (C.ren ks m) = doeC (renI ks m a) (renI ks m b) (renI ks m c) (renI ks m d) (renI ks m e) (renI ks m f) (renI ks m g) (renI ks m h) := nr rfl
@[go_sem] theorem doe_t {ta tb : Tag} : (doeC a b c d e f g h).map (C.retag ta tb) = doeC a b c d e f g h := nr rfl
@[go_sem] theorem doe_n : (doeC a b c d e f g h).all known = true := nr rfl
@[go_sem] theorem doe_l : (doeC a b c d e f g h).length = 23 := nr rfl
@[go_sem 1300] theorem doe_s : spl [.val .nilFunc, .val .nilFunc, .val .nilFunc, .val .nilFunc, .val .nilFunc, .val .nilFunc, .val .nilFunc, .val .nilFunc, .val .nilFunc, .val .nilFunc, .val .nilFunc, .val .nilFunc, .val .nilFunc, .val .nilFunc, .val .nilFunc, .val .nilFunc, .val .nilFunc, .val .nilFunc, .val .nilFunc, .val .nilFunc, .val .nilFunc, .val .nilFunc, .val .nilFunc] 0 (doeC a b c d e f g h) = doeC a b c d e f g h := spl_all rfl
@[go_sem ↓] theorem doe_w {l : List V} {hp : Heap} {i : Id} {off : Nat} {cs : List C} : St.stow ⟨l, hp⟩ i off cs (doeC a b c d e f g h) = ⟨l, hset hp i (spl cs off (doeC a b c d e f g h))⟩ := by
  have eq : (doeC a b c d e f g h).map (C.clean (fun _ => false) fun _ => true) = doeC a b c d e f g h := by rw [doe_k]; rfl
  rw [stow_big (show 2 ≤ (doeC a b c d e f g h).length by rw [doe_l]; omega), eq]
@[go_sem 1300] theorem doe_td : List.take 23 (List.drop 0 (doeC a b c d e f g h)) = doeC a b c d e f g h := nr rfl
@[go_sem 1300] theorem doe_ta : List.take 23 (doeC a b c d e f g h) = doeC a b c d e f g h := nr rfl
@[go_sem ↓ 1300] theorem doe_p : aPt (some true) 23 (doeC a b c d e f g h) 0 V' = V' (.w (.agg (doeC a b c d e f g h))) := by
  simp only [aPt, doe_l, doe_td]
  simp
@[go_sem ↓ 1300] theorem doe_le : leCs (doeC a b c d e f g h) (doeC a b c d e f g h) = True := eq_true (leCs_refl _)
end
abbrev doeH (a b c d e f g h : Id) : Heap := [(h, [.fn (.func 88) [] []]), (g, [.fn (.func 87) [] []]), (f, [.fn (.func 86) [] []]), (e, [.fn (.func 85) [] []]), (d, [.fn (.func 84) [] []]), (c, [.fn (.func 83) [] []]), (b, [.fn (.func 82) [] []]), (a, [.fn (.func 81) [] []])]
theorem two_h (k : Nat) : Holds Try.prog 80 [.c (.fn (.func k) [] [])] [] (fun r h' => r = V.cell (.fn (.func 103) [] [(.loc [1], 0)]) ∧ h' = [(.loc [1], [.fn (.func k) [] []])]) := by
  refine holds_of_awp Try.func80 rfl (by decide +kernel) mixed Try.ntmps80 Try.results80 ?_
  simp only [entrySt, List.map_cons, List.map_nil, List.length_cons, List.length_nil, Nat.reduceAdd, Nat.reduceSub, List.replicate_succ, List.replicate_zero, List.cons_append, List.nil_append]
  (refine zs ?_; try exact trivial)
theorem two0_h : Holds Try.prog 80 [.c (.fn (.func 81) [] [])] [] (fun r h' => r = V.cell (.fn (.func 103) [] [(.loc [1], 0)]) ∧ h' = [(.loc [1], [.fn (.func 81) [] []])]) := two_h 81
theorem two1_h : Holds Try.prog 80 [.c (.fn (.func 82) [] [])] [] (fun r h' => r = V.cell (.fn (.func 103) [] [(.loc [1], 0)]) ∧ h' = [(.loc [1], [.fn (.func 82) [] []])]) := two_h 82
theorem two2_h : Holds Try.prog 80 [.c (.fn (.func 83) [] [])] [] (fun r h' => r = V.cell (.fn (.func 103) [] [(.loc [1], 0)]) ∧ h' = [(.loc [1], [.fn (.func 83) [] []])]) := two_h 83
theorem two3_h : Holds Try.prog 80 [.c (.fn (.func 84) [] [])] [] (fun r h' => r = V.cell (.fn (.func 103) [] [(.loc [1], 0)]) ∧ h' = [(.loc [1], [.fn (.func 84) [] []])]) := two_h 84
theorem two4_h : Holds Try.prog 80 [.c (.fn (.func 85) [] [])] [] (fun r h' => r = V.cell (.fn (.func 103) [] [(.loc [1], 0)]) ∧ h' = [(.loc [1], [.fn (.func 85) [] []])]) := two_h 85
theorem two5_h : Holds Try.prog 80 [.c (.fn (.func 86) [] [])] [] (fun r h' => r = V.cell (.fn (.func 103) [] [(.loc [1], 0)]) ∧ h' = [(.loc [1], [.fn (.func 86) [] []])]) := two_h 86
theorem two6_h : Holds Try.prog 80 [.c (.fn (.func 87) [] [])] [] (fun r h' => r = V.cell (.fn (.func 103) [] [(.loc [1], 0)]) ∧ h' = [(.loc [1], [.fn (.func 87) [] []])]) := two_h 87
theorem two7_h : Holds Try.prog 80 [.c (.fn (.func 88) [] [])] [] (fun r h' => r = V.cell (.fn (.func 103) [] [(.loc [1], 0)]) ∧ h' = [(.loc [1], [.fn (.func 88) [] []])]) := two_h 88
set_option maxHeartbeats 2000000 in
theorem doers_h : Holds Try.prog 72 [] [] (fun r h' => r = .w (.agg (doeC (.loc [1, 0, 1]) (.loc [2, 0, 1]) (.loc [3, 0, 1]) (.loc [4, 0, 1]) (.loc [5, 0, 1]) (.loc [6, 0, 1]) (.loc [7, 0, 1]) (.loc [8, 0, 1]))) ∧ h' = doeH (.loc [1, 0, 1]) (.loc [2, 0, 1]) (.loc [3, 0, 1]) (.loc [4, 0, 1]) (.loc [5, 0, 1]) (.loc [6, 0, 1]) (.loc [7, 0, 1]) (.loc [8, 0, 1])) := by
  refine holds_of_awp Try.func72 rfl (by decide +kernel) mixed Try.ntmps72 Try.results72 ?_
  simp only [entrySt, List.map_cons, List.map_nil, List.length_cons, List.length_nil, Nat.reduceAdd, Nat.reduceSub, List.replicate_succ, List.replicate_zero, List.cons_append, List.nil_append]
  unfold doeC
  (refine zs ?_; try exact trivial)
  refine a_call [] (two0_h) ok0 ?_ ?_ ?_
  · (refine zs ?_; try exact trivial)
  · (refine zs ?_; try exact trivial)
  rintro _ _ ⟨rfl, rfl⟩
  (refine zs ?_; try exact trivial)
  refine a_call [] (two1_h) ok0 ?_ ?_ ?_
  · (refine zs ?_; try exact trivial)
  · (refine zs ?_; try exact trivial)
  rintro _ _ ⟨rfl, rfl⟩
  (refine zs ?_; try exact trivial)
  refine a_call [] (two2_h) ok0 ?_ ?_ ?_
  · (refine zs ?_; try exact trivial)
  · (refine zs ?_; try exact trivial)
  rintro _ _ ⟨rfl, rfl⟩
  (refine zs ?_; try exact trivial)
  refine a_call [] (two3_h) ok0 ?_ ?_ ?_
  · (refine zs ?_; try exact trivial)
  · (refine zs ?_; try exact trivial)
  rintro _ _ ⟨rfl, rfl⟩
  (refine zs ?_; try exact trivial)
  refine a_call [] (two4_h) ok0 ?_ ?_ ?_
  · (refine zs ?_; try exact trivial)
  · (refine zs ?_; try exact trivial)
  rintro _ _ ⟨rfl, rfl⟩
  (refine zs ?_; try exact trivial)
  refine a_call [] (two5_h) ok0 ?_ ?_ ?_
  · (refine zs ?_; try exact trivial)
  · (refine zs ?_; try exact trivial)
  rintro _ _ ⟨rfl, rfl⟩
  (refine zs ?_; try exact trivial)
  refine a_call [] (two6_h) ok0 ?_ ?_ ?_
  · (refine zs ?_; try exact trivial)
  · (refine zs ?_; try exact trivial)
  rintro _ _ ⟨rfl, rfl⟩
  (refine zs ?_; try exact trivial)
  refine a_call [] (two7_h) ok0 ?_ ?_ ?_
  · (refine zs ?_; try exact trivial)
  · (refine zs ?_; try exact trivial)
  rintro _ _ ⟨rfl, rfl⟩
  (refine zs ?_; try exact trivial)
  try (refine zs ?_; try exact trivial)
  exact leCs_refl _
end Go.Proofs.Ytamcjecgkfmjkaa

/- Chapter 10: a frame of a game without instructions. -/
open Go Go.RowKit
namespace Go.Proofs.Ytamcjecgkfmjkaa
set_option linter.unusedSimpArgs false
set_option linter.unusedVariables false
@[go_sem ↓ 1150] theorem e_lenN {P : Program} {t : TypeId} {o : Own} {nl : Option Bool} {sz : Nat} {V' : V → Prop} : aLen P t (.cell (.lst o nl sz [])) V' = (isSlcT P t = true ∧ V' (.int .i64 0)) := by
  simp [aLen]
@[go_sem 1200] theorem set_frame {s : Sta} {x : Int} : ((sd s).map D.toC).set 0 (.val (.int .i64 x)) = (sd (s.wFrame x)).map D.toC := spl_frame
@[go_sem 1200] theorem set_over {s : Sta} {x : Bool} : ((sd s).map D.toC).set 18 (.val (.bool x)) = (sd (s.wOver x)).map D.toC := spl_over
@[go_sem 1200] theorem set_win {s : Sta} {x : Int} : ((sd s).map D.toC).set 19 (.val (.int .i64 x)) = (sd (s.wWin x)).map D.toC := spl_win
abbrev mcB (s : Sta) (i0 i1 : UInt16) : List C := mcC s i0 i1 (.lst .full (some true) 1 []) 0 false false
set_option maxRecDepth 20000 in
set_option maxHeartbeats 4000000 in
theorem run0_h (s : Sta) (i0 i1 : UInt16) (cap fuel : Int) : Holds Try.prog 65 [.ptr (.arg 0) 0, .game [] cap fuel] [(.arg 0, mcB s i0 i1)] (fun r h' => r = .int .i64 0 ∧ h' = [(.arg 0, mcB s i0 i1)]) := by
  refine holds_of_awp Try.func65 rfl (by decide +kernel) mixed Try.ntmps65 Try.results65 ?_
  simp only [entrySt, List.map_cons, List.map_nil, List.length_cons, List.length_nil, Nat.reduceAdd, Nat.reduceSub, List.replicate_succ, List.replicate_zero, List.cons_append, List.nil_append]
  (refine zs ?_; try exact trivial)
  refine a_call [] (doers_h) ok0 ?_ ?_ ?_
  · (refine zs ?_; try exact trivial)
  · (refine zs ?_; try exact trivial)
  rintro _ _ ⟨rfl, rfl⟩
  (refine zs ?_; try exact trivial)
  refine a_loopk (fun _ : Unit => ⟨[V.cell (.ptr (.arg 0) 0), .undef, .undef, V.cell (.ptr (.loc [3]) 0), .undef, .undef, .undef, .undef, .undef, .undef, .undef, .undef, .undef, .undef, .undef, .undef, .undef, .undef, .undef, .undef, .undef, .undef, .undef, .undef, .undef, .undef, .undef, .undef, .undef, .undef, .undef, .undef, .undef, .undef, .undef, .undef, .undef, .undef, .undef, .undef, .undef, .undef, .undef, .undef, .undef, .undef, .undef, .undef, .undef, .undef, .undef, .undef, .undef, .undef, .undef, .undef, .undef], [(.loc [3], [.lst .no none 2 (ins []), .val (.int .i64 cap), .val (.int .i64 fuel)]), (.arg 0, mcB s i0 i1)]⟩) (fun _ => True) (fun _ => 0) () trivial ?_ ?_
  · try (refine zs ?_; try exact trivial)
  · rintro _ _
    (refine zs ?_; try exact trivial)
    refine a_quiet (by kernel_rfl) (by kernel_rfl) (by kernel_rfl) ?_
    (refine zc ?_; try exact trivial)
def isP (s : Sta) : Bool := decide (0 ≤ s.frame) && decide (s.frame ≤ 600) && decide (0 ≤ s.win) && decide (s.win ≤ 2) && (s.over || decide (s.win = 0))
theorem isState_h (s : Sta) : Holds Try.prog 64 [.agg ((sd s).map D.toC)] [] (fun r h' => r = V.bool (isP s) ∧ h' = []) := by
  refine holds_of_awp Try.func64 rfl (by decide +kernel) mixed Try.ntmps64 Try.results64 ?_
  simp only [entrySt, List.map_cons, List.map_nil, List.length_cons, List.length_nil, Nat.reduceAdd, Nat.reduceSub, List.replicate_succ, List.replicate_zero, List.cons_append, List.nil_append]
  unfold isP
  cases d1 : decide (0 ≤ s.frame)
  · simp (maxSteps := 2000000) (disch := omega) only [go_sem, Nat.reduceAdd, Nat.reduceSub, Nat.reduceMul, Nat.reduceBEq, Nat.reduceEqDiff, Nat.reduceLT, Nat.reduceLeDiff, Nat.reduceDiv, reduceIte, reduceCtorEq, d1]
    simp
  · cases d2 : decide (s.frame ≤ 600)
    · simp (maxSteps := 2000000) (disch := omega) only [go_sem, Nat.reduceAdd, Nat.reduceSub, Nat.reduceMul, Nat.reduceBEq, Nat.reduceEqDiff, Nat.reduceLT, Nat.reduceLeDiff, Nat.reduceDiv, reduceIte, reduceCtorEq, d1, d2]
      simp
    · cases d3 : decide (0 ≤ s.win)
      · simp (maxSteps := 2000000) (disch := omega) only [go_sem, Nat.reduceAdd, Nat.reduceSub, Nat.reduceMul, Nat.reduceBEq, Nat.reduceEqDiff, Nat.reduceLT, Nat.reduceLeDiff, Nat.reduceDiv, reduceIte, reduceCtorEq, d1, d2, d3]
        simp
      · cases d4 : decide (s.win ≤ 2)
        · simp (maxSteps := 2000000) (disch := omega) only [go_sem, Nat.reduceAdd, Nat.reduceSub, Nat.reduceMul, Nat.reduceBEq, Nat.reduceEqDiff, Nat.reduceLT, Nat.reduceLeDiff, Nat.reduceDiv, reduceIte, reduceCtorEq, d1, d2, d3, d4]
          simp
        · cases d5 : s.over
          · simp (maxSteps := 2000000) (disch := omega) only [go_sem, Nat.reduceAdd, Nat.reduceSub, Nat.reduceMul, Nat.reduceBEq, Nat.reduceEqDiff, Nat.reduceLT, Nat.reduceLeDiff, Nat.reduceDiv, reduceIte, reduceCtorEq, d1, d2, d3, d4, d5]
          · simp (maxSteps := 2000000) (disch := omega) only [go_sem, Nat.reduceAdd, Nat.reduceSub, Nat.reduceMul, Nat.reduceBEq, Nat.reduceEqDiff, Nat.reduceLT, Nat.reduceLeDiff, Nat.reduceDiv, reduceIte, reduceCtorEq, d1, d2, d3, d4, d5]
@[go_sem 1300] theorem mc_lit {sk : C} {s : Sta} : spl [.val (.int .i64 0), .val (.int .i32 0), .val (.int .i32 0), .val (.int .i32 0), .val (.int .i32 0), .val (.int .i32 0), .val (.int .i32 0), .val (.int .i32 0), .val (.int .i32 0), .val (.int .i32 0), .val (.int .i32 0), .val (.int .i32 0), .val (.int .i32 0), .val (.int .i32 0), .val (.int .i32 0), .val (.int .i32 0), .val (.int .i32 0), .val (.int .u32 0), .val (.bool false), .val (.int .i64 0), .val (.int .u16 0), .val (.int .u16 0), sk, .val (.int .i64 0), .val (.bool false), .val (.bool false)] 0 ((sd s).map D.toC) = mcC s 0 0 sk 0 false false := by
  show spl (mcC (stz 0 0) 0 0 sk 0 false false) 0 ((sd s).map D.toC) = _
  exact mc_ss
set_option maxRecDepth 20000 in
set_option maxHeartbeats 4000000 in
theorem step0_h (s : Sta) (i0 i1 : UInt16) (cap fuel : Int) (hg : gameP [] cap fuel = 0) (hi : isP s = true) (hz : ¬ U32 s.seed = 0) (ho : s.over = false) (hf : s.frame + 1 < cap) (h0 : 0 ≤ s.frame) (hc : cap ≤ 600) :
    Holds Try.prog 57 [.game [] cap fuel, .agg ((sd s).map D.toC), .agg [.val (.int .u16 (U16 i0)), .val (.int .u16 (U16 i1))]] [] (fun r h' => r = .tup [.agg ((sd (s.wFrame (s.frame + 1))).map D.toC), .int .i64 0] ∧ h' = []) := by
  have hgc := gcheck_h [] cap fuel (by decide)
  rw [hg] at hgc
  have his := isState_h s
  rw [hi] at his
  have z1 : decide (U32 s.seed = 0) = false := by simpa using hz
  have z2 : decide (cap ≤ s.frame) = false := by simp; omega
  refine holds_of_awp Try.func57 rfl (by decide +kernel) mixed Try.ntmps57 Try.results57 ?_
  simp only [entrySt, List.map_cons, List.map_nil, List.length_cons, List.length_nil, Nat.reduceAdd, Nat.reduceSub, List.replicate_succ, List.replicate_zero, List.cons_append, List.nil_append]
  (refine zs ?_; try exact trivial)
  refine a_call [] (hgc) ok0 ?_ ?_ ?_
  · (refine zs ?_; try exact trivial)
  · (refine zs ?_; try exact trivial)
  rintro _ _ ⟨rfl, rfl⟩
  (refine zc ?_; try exact trivial)
  refine a_call [] (his) ok0 ?_ ?_ ?_
  · (refine zs ?_; try exact trivial)
  · (refine zs ?_; try exact trivial)
  rintro _ _ ⟨rfl, rfl⟩
  simp (maxSteps := 2000000) (disch := omega) only [go_sem, Nat.reduceAdd, Nat.reduceSub, Nat.reduceMul, Nat.reduceBEq, Nat.reduceEqDiff, Nat.reduceLT, Nat.reduceLeDiff, Nat.reduceDiv, reduceIte, reduceCtorEq, z1, ho, z2]
  refine a_call [.loc [40]] (run0_h s i0 i1 cap fuel) (ok1 rfl) ?_ ?_ ?_
  · (refine zs ?_; try exact trivial)
  · (refine zs ?_; try exact trivial)
  rintro _ _ ⟨rfl, rfl⟩
  have z3 : decide (cap ≤ s.frame + 1) = false := by simp; omega
  simp (maxSteps := 2000000) (disch := omega) only [go_sem, Nat.reduceAdd, Nat.reduceSub, Nat.reduceMul, Nat.reduceBEq, Nat.reduceEqDiff, Nat.reduceLT, Nat.reduceLeDiff, Nat.reduceDiv, reduceIte, reduceCtorEq, z3]
end Go.Proofs.Ytamcjecgkfmjkaa

/- Chapter 8 in the logic: sums, products, quotients. -/
open Go Go.RowKit
namespace Go.Proofs.Ytamcjecgkfmjkaa
set_option linter.unusedSimpArgs false
set_option linter.unusedVariables false
def held (v : Int) : Int := max (-2147483648) (min 2147483647 v)
theorem held_b (v : Int) : B32 (held v) := by unfold held B32; omega
theorem held_h (v : Int) (h1 : -9223372036854775808 ≤ v) (h2 : v ≤ 9223372036854775807) : Holds Try.prog 104 [.int .i64 v] [] (fun r h' => r = V.int .i32 (held v) ∧ h' = []) := by
  refine holds_of_awp Try.func104 rfl (by decide +kernel) mixed Try.ntmps104 Try.results104 ?_
  simp only [entrySt, List.map_cons, List.map_nil, List.length_cons, List.length_nil, Nat.reduceAdd, Nat.reduceSub, List.replicate_succ, List.replicate_zero, List.cons_append, List.nil_append]
  have hb := held_b v
  unfold B32 at hb
  (refine zs ?_; try exact trivial)
  rfl
theorem rheld_h (v : Int) (h1 : -9223372036854775808 ≤ v) (h2 : v ≤ 9223372036854775807) : Holds Try.prog 100 [.int .i64 v] [] (fun r h' => r = V.int .i32 (held v) ∧ h' = []) := by
  refine holds_of_awp Try.func100 rfl (by decide +kernel) mixed Try.ntmps100 Try.results100 ?_
  simp only [entrySt, List.map_cons, List.map_nil, List.length_cons, List.length_nil, Nat.reduceAdd, Nat.reduceSub, List.replicate_succ, List.replicate_zero, List.cons_append, List.nil_append]
  (refine zs ?_; try exact trivial)
  refine c_dec (fun h => ?_) (fun h => ?_)
  · have e : held v = 2147483647 := by unfold held; omega
    rw [e]
    (refine zs ?_; try exact trivial)
  · (refine zs ?_; try exact trivial)
    refine c_dec (fun h3 => ?_) (fun h3 => ?_)
    · have e : held v = -2147483648 := by unfold held; omega
      rw [e]
      (refine zs ?_; try exact trivial)
    · have e : held v = v := by unfold held; omega
      rw [e]
      (refine zs ?_; try exact trivial)
def divV (a b : Int) : Int := if b = 0 then (if 0 < a then 2147483647 else if a < 0 then -2147483648 else 0) else held ((a * 65536).tdiv b)
theorem add_h (a b : Int) (ha : B32 a) (hb : B32 b) : Holds Try.prog 81 [.int .i32 a, .int .i32 b] [] (fun r h' => r = V.int .i32 (held (a + b)) ∧ h' = []) := by
  unfold B32 at ha hb
  refine holds_of_awp Try.func81 rfl (by decide +kernel) mixed Try.ntmps81 Try.results81 ?_
  simp only [entrySt, List.map_cons, List.map_nil, List.length_cons, List.length_nil, Nat.reduceAdd, Nat.reduceSub, List.replicate_succ, List.replicate_zero, List.cons_append, List.nil_append]
  (refine zs ?_; try exact trivial)
  refine a_call [] (held_h (a + b) (by omega) (by omega)) ok0 ?_ ?_ ?_
  · (refine zs ?_; try exact trivial)
  · (refine zs ?_; try exact trivial)
  rintro _ _ ⟨rfl, rfl⟩
  (refine zs ?_; try exact trivial)
theorem sub_h (a b : Int) (ha : B32 a) (hb : B32 b) : Holds Try.prog 82 [.int .i32 a, .int .i32 b] [] (fun r h' => r = V.int .i32 (held (a - b)) ∧ h' = []) := by
  unfold B32 at ha hb
  refine holds_of_awp Try.func82 rfl (by decide +kernel) mixed Try.ntmps82 Try.results82 ?_
  simp only [entrySt, List.map_cons, List.map_nil, List.length_cons, List.length_nil, Nat.reduceAdd, Nat.reduceSub, List.replicate_succ, List.replicate_zero, List.cons_append, List.nil_append]
  (refine zs ?_; try exact trivial)
  refine a_call [] (held_h (a - b) (by omega) (by omega)) ok0 ?_ ?_ ?_
  · (refine zs ?_; try exact trivial)
  · (refine zs ?_; try exact trivial)
  rintro _ _ ⟨rfl, rfl⟩
  (refine zs ?_; try exact trivial)
theorem mul_h (a b : Int) (ha : B32 a) (hb : B32 b) : Holds Try.prog 83 [.int .i32 a, .int .i32 b] [] (fun r h' => r = V.int .i32 (held (a * b / 65536)) ∧ h' = []) := by
  have hm := mul_bound ha hb
  unfold B32 at ha hb
  refine holds_of_awp Try.func83 rfl (by decide +kernel) mixed Try.ntmps83 Try.results83 ?_
  simp only [entrySt, List.map_cons, List.map_nil, List.length_cons, List.length_nil, Nat.reduceAdd, Nat.reduceSub, List.replicate_succ, List.replicate_zero, List.cons_append, List.nil_append]
  (refine zs ?_; try exact trivial)
  refine a_call [] (held_h (a * b / 65536) (by omega) (by omega)) ok0 ?_ ?_ ?_
  · (refine zs ?_; try exact trivial)
  · (refine zs ?_; try exact trivial)
  rintro _ _ ⟨rfl, rfl⟩
  (refine zs ?_; try exact trivial)
theorem radd_h (a b : Int) (ha : B32 a) (hb : B32 b) : Holds Try.prog 73 [.int .i32 a, .int .i32 b] [] (fun r h' => r = V.int .i32 (held (a + b)) ∧ h' = []) := by
  unfold B32 at ha hb
  refine holds_of_awp Try.func73 rfl (by decide +kernel) mixed Try.ntmps73 Try.results73 ?_
  simp only [entrySt, List.map_cons, List.map_nil, List.length_cons, List.length_nil, Nat.reduceAdd, Nat.reduceSub, List.replicate_succ, List.replicate_zero, List.cons_append, List.nil_append]
  (refine zs ?_; try exact trivial)
  refine a_call [] (rheld_h (a + b) (by omega) (by omega)) ok0 ?_ ?_ ?_
  · (refine zs ?_; try exact trivial)
  · (refine zs ?_; try exact trivial)
  rintro _ _ ⟨rfl, rfl⟩
  (refine zs ?_; try exact trivial)
theorem rsub_h (a b : Int) (ha : B32 a) (hb : B32 b) : Holds Try.prog 74 [.int .i32 a, .int .i32 b] [] (fun r h' => r = V.int .i32 (held (a - b)) ∧ h' = []) := by
  unfold B32 at ha hb
  refine holds_of_awp Try.func74 rfl (by decide +kernel) mixed Try.ntmps74 Try.results74 ?_
  simp only [entrySt, List.map_cons, List.map_nil, List.length_cons, List.length_nil, Nat.reduceAdd, Nat.reduceSub, List.replicate_succ, List.replicate_zero, List.cons_append, List.nil_append]
  (refine zs ?_; try exact trivial)
  refine a_call [] (rheld_h (a - b) (by omega) (by omega)) ok0 ?_ ?_ ?_
  · (refine zs ?_; try exact trivial)
  · (refine zs ?_; try exact trivial)
  rintro _ _ ⟨rfl, rfl⟩
  (refine zs ?_; try exact trivial)
theorem rmul_h (a b : Int) (ha : B32 a) (hb : B32 b) : Holds Try.prog 75 [.int .i32 a, .int .i32 b] [] (fun r h' => r = V.int .i32 (held (a * b / 65536)) ∧ h' = []) := by
  have hm := mul_bound ha hb
  unfold B32 at ha hb
  refine holds_of_awp Try.func75 rfl (by decide +kernel) mixed Try.ntmps75 Try.results75 ?_
  simp only [entrySt, List.map_cons, List.map_nil, List.length_cons, List.length_nil, Nat.reduceAdd, Nat.reduceSub, List.replicate_succ, List.replicate_zero, List.cons_append, List.nil_append]
  (refine zs ?_; try exact trivial)
  refine a_call [] (rheld_h (a * b / 65536) (by omega) (by omega)) ok0 ?_ ?_ ?_
  · (refine zs ?_; try exact trivial)
  · (refine zs ?_; try exact trivial)
  rintro _ _ ⟨rfl, rfl⟩
  (refine zs ?_; try exact trivial)
theorem div_h (a b : Int) (ha : B32 a) (hb : B32 b) : Holds Try.prog 84 [.int .i32 a, .int .i32 b] [] (fun r h' => r = V.int .i32 (divV a b) ∧ h' = []) := by
  unfold B32 at ha hb
  have ht := tdiv_bound (a := a * 65536) (b := b) (m := 140737488355328) (by omega) (by omega)
  refine holds_of_awp Try.func84 rfl (by decide +kernel) mixed Try.ntmps84 Try.results84 ?_
  simp only [entrySt, List.map_cons, List.map_nil, List.length_cons, List.length_nil, Nat.reduceAdd, Nat.reduceSub, List.replicate_succ, List.replicate_zero, List.cons_append, List.nil_append]
  (refine zs ?_; try exact trivial)
  refine c_dec (fun h => ?_) (fun h => ?_)
  · have e : divV a b = held ((a * 65536).tdiv b) := by unfold divV; rw [if_neg h]
    rw [e]
    (refine zs ?_; try exact trivial)
    refine a_call [] (held_h ((a * 65536).tdiv b) (by omega) (by omega)) ok0 ?_ ?_ ?_
    · (refine zs ?_; try exact trivial)
    · (refine zs ?_; try exact trivial)
    rintro _ _ ⟨rfl, rfl⟩
    (refine zs ?_; try exact trivial)
  · have hb0 : b = 0 := by omega
    (refine zs ?_; try exact trivial)
    refine c_dec (fun h2 => ?_) (fun h2 => ?_)
    · have e : divV a b = 2147483647 := by unfold divV; rw [if_pos hb0, if_pos h2]
      rw [e]
      (refine zs ?_; try exact trivial)
    · (refine zs ?_; try exact trivial)
      refine c_dec (fun h3 => ?_) (fun h3 => ?_)
      · have e : divV a b = -2147483648 := by unfold divV; rw [if_pos hb0, if_neg h2, if_pos h3]
        rw [e]
        (refine zs ?_; try exact trivial)
      · have e : divV a b = 0 := by unfold divV; rw [if_pos hb0, if_neg h2, if_neg h3]
        rw [e]
        (refine zs ?_; try exact trivial)
theorem rdiv_h (a b : Int) (ha : B32 a) (hb : B32 b) : Holds Try.prog 76 [.int .i32 a, .int .i32 b] [] (fun r h' => r = V.int .i32 (divV a b) ∧ h' = []) := by
  unfold B32 at ha hb
  have ht := tdiv_bound (a := a * 65536) (b := b) (m := 140737488355328) (by omega) (by omega)
  refine holds_of_awp Try.func76 rfl (by decide +kernel) mixed Try.ntmps76 Try.results76 ?_
  simp only [entrySt, List.map_cons, List.map_nil, List.length_cons, List.length_nil, Nat.reduceAdd, Nat.reduceSub, List.replicate_succ, List.replicate_zero, List.cons_append, List.nil_append]
  (refine zs ?_; try exact trivial)
  refine c_dec (fun h => ?_) (fun h => ?_)
  · (refine zs ?_; try exact trivial)
    refine c_dec (fun h2 => ?_) (fun h2 => ?_)
    · have e : divV a b = 2147483647 := by unfold divV; rw [if_pos h, if_pos h2]
      rw [e]
      (refine zs ?_; try exact trivial)
    · (refine zs ?_; try exact trivial)
      refine c_dec (fun h3 => ?_) (fun h3 => ?_)
      · have e : divV a b = -2147483648 := by unfold divV; rw [if_pos h, if_neg h2, if_pos h3]
        rw [e]
        (refine zs ?_; try exact trivial)
      · have e : divV a b = 0 := by unfold divV; rw [if_pos h, if_neg h2, if_neg h3]
        rw [e]
        (refine zs ?_; try exact trivial)
  · have e : divV a b = held ((a * 65536).tdiv b) := by unfold divV; rw [if_neg h]
    rw [e]
    (refine zs ?_; try exact trivial)
    refine a_call [] (rheld_h ((a * 65536).tdiv b) (by omega) (by omega)) ok0 ?_ ?_ ?_
    · (refine zs ?_; try exact trivial)
    · (refine zs ?_; try exact trivial)
    rintro _ _ ⟨rfl, rfl⟩
    (refine zs ?_; try exact trivial)
end Go.Proofs.Ytamcjecgkfmjkaa

/- Chapter 10: the machine: its numbers taken and laid, its doers. -/
open Go Go.RowKit
namespace Go.Proofs.Ytamcjecgkfmjkaa
set_option linter.unusedSimpArgs false
set_option linter.unusedVariables false
structure Mac where
  st : Sta
  i0 : UInt16
  i1 : UInt16
  sk : List Int
  pc : Int
  en : Bool
  bad : Bool
abbrev mB (i : Id) (m : Mac) : List C := mcC m.st m.i0 m.i1 (.stk (.cell i 22) 1 (c32 m.sk)) m.pc m.en m.bad
@[go_sem] theorem c32_nil : c32 [] = [] := nr rfl
@[go_sem 1200] theorem c32_app1 {l : List Int} {x : Int} : c32 l ++ [.val (.int .i32 x)] = c32 (l ++ [x]) := by simp [c32]
@[go_sem 1200] theorem c32_app2 {l : List Int} {x y : Int} : c32 l ++ [.val (.int .i32 x), .val (.int .i32 y)] = c32 (l ++ [x, y]) := by simp [c32]
@[go_sem 1200] theorem c32_take {l : List Int} {n : Nat} : (c32 l).take n = c32 (l.take n) := by simp [c32]
@[go_sem ↓ 1200] theorem e_IA3c {τ : Tag} {l : List Int} {t : TypeId} {i : Int} {V' : V → Prop} (h0 : 0 ≤ i) (h1 : i < l.length) : aIA (some (none, t, 1)) (.cell (.stk τ 1 (c32 l))) i V' = V' (.cell (.sptr τ i.toNat 1 (c32 l))) := e_IA3k h0 (by rw [c32_len]; exact h1)
theorem c32_get {l : List Int} {n : Nat} (h : n < l.length) : ((c32 l).map D.toC)[n]? = some (.val (.int .i32 (l.getD n 0))) := by
  simp [c32, h, D.toC]
@[go_sem ↓ 1200] theorem c32_ex {l : List Int} {n : Nat} {K : C → Prop} (h : n < l.length) : (∃ c, ((c32 l).map D.toC)[n]? = some c ∧ K c) = K (.val (.int .i32 (l.getD n 0))) := ex_some (c32_get h)
section
variable {s : Sta} {i0 i1 : UInt16} {sk : C} {atP : Int} {en bad : Bool} {K : C → Prop}
theorem mc_gcell {k : Nat} (h : k < 16) : (mcC s i0 i1 sk atP en bad)[k + 1]? = some (.val (.int .i32 (s.cells.getD k 0))) := by
  unfold mcC
  rw [List.getElem?_append_left (by rw [sdC_len]; omega)]
  exact get_cells h
@[go_sem ↓ 1300] theorem mc_mcell {k : Nat} (h : k < 16) : (∃ c, (mcC s i0 i1 sk atP en bad)[1 + k]? = some c ∧ K c) = K (.val (.int .i32 (s.cells.getD k 0))) := by
  rw [Nat.add_comm]; exact ex_some (mc_gcell h)
@[go_sem ↓ 1300] theorem mc_mcell' {k : Nat} (h : k < 16) : (∃ c, (mcC s i0 i1 sk atP en bad)[1 + k * 1]? = some c ∧ K c) = K (.val (.int .i32 (s.cells.getD k 0))) := by
  rw [Nat.mul_one]; exact mc_mcell h
theorem mc_scell0 {k : Nat} {x : Int} (h : k < 16) : spl (mcC s i0 i1 sk atP en bad) (k + 1) [.val (.int .i32 x)] = mcC (s.wCells k x) i0 i1 sk atP en bad := by
  unfold mcC
  rw [spl_appL (by rw [sdC_len]; simp; omega), spl_cells h]
@[go_sem 1300] theorem mc_scell {k : Nat} {x : Int} (h : k < 16) : (mcC s i0 i1 sk atP en bad).set (1 + k) (.val (.int .i32 x)) = mcC (s.wCells k x) i0 i1 sk atP en bad := by
  rw [Nat.add_comm]; exact mc_scell0 h
@[go_sem 1300] theorem mc_scell' {k : Nat} {x : Int} (h : k < 16) : (mcC s i0 i1 sk atP en bad).set (1 + k * 1) (.val (.int .i32 x)) = mcC (s.wCells k x) i0 i1 sk atP en bad := by
  rw [Nat.mul_one]; exact mc_scell h
end
theorem U16_b (v : UInt16) : 0 ≤ U16 v ∧ U16 v ≤ 65535 := ⟨U16_lo v, by have := U16_hi v; omega⟩
def popV (m : Mac) : Int := m.sk.getD (m.sk.length - 1) 0
def popM (m : Mac) : Mac := ⟨m.st, m.i0, m.i1, m.sk.take (m.sk.length - 1), m.pc, m.en, m.bad || decide (m.sk.length = 0)⟩
def pushM (m : Mac) (l : List Int) : Mac := ⟨m.st, m.i0, m.i1, m.sk ++ l, m.pc, m.en, m.bad || decide (32 < m.sk.length + l.length)⟩
def truthV (b : Bool) : Int := if b then 65536 else 0
theorem pop_h (m : Mac) (hl : m.sk.length ≤ 100000) : Holds Try.prog 102 [.ptr (.arg 0) 0] [(.arg 0, mB (.arg 0) m)] (fun r h' => r = .int .i32 (popV m) ∧ h' = [(.arg 0, mB (.arg 0) (popM m))]) := by
  obtain ⟨st, i0, i1, sk, pc, en, bad⟩ := m
  simp only at hl
  refine holds_of_awp Try.func102 rfl (by decide +kernel) mixed Try.ntmps102 Try.results102 ?_
  simp only [entrySt, List.map_cons, List.map_nil, List.length_cons, List.length_nil, Nat.reduceAdd, Nat.reduceSub, List.replicate_succ, List.replicate_zero, List.cons_append, List.nil_append]
  (refine zc ?_; try exact trivial)
  refine c_dec (fun h => ?_) (fun h => ?_)
  · have h0 : sk = [] := List.eq_nil_of_length_eq_zero (by omega)
    subst h0
    simp only [popV, popM, List.length_nil, List.take_nil, List.getD_nil, decide_true, Bool.or_true]
    (refine zc ?_; try exact trivial)
    all_goals exact leCs_refl _
  · have e1 : ((sk.length : Int) - 1).toNat = sk.length - 1 := by omega
    have e2 : popM ⟨st, i0, i1, sk, pc, en, bad⟩ = ⟨st, i0, i1, sk.take (sk.length - 1), pc, en, bad⟩ := by
      unfold popM
      rw [decide_eq_false (show ¬ sk.length = 0 by omega), Bool.or_false]
    rw [e2]
    simp only [popV]
    simp (maxSteps := 2000000) (disch := omega) only [go_sem, Nat.reduceAdd, Nat.reduceSub, Nat.reduceMul, Nat.reduceBEq, Nat.reduceEqDiff, Nat.reduceLT, Nat.reduceLeDiff, Nat.reduceDiv, reduceIte, reduceCtorEq, e1]
    omega
theorem push1_h (m : Mac) (x : Int) (hl : m.sk.length ≤ 100000) : Holds Try.prog 101 [.ptr (.arg 0) 0, .c (.lst .no none 1 [.val (.int .i32 x)])] [(.arg 0, mB (.arg 0) m)] (fun r h' => r = .tup [] ∧ h' = [(.arg 0, mB (.arg 0) (pushM m [x]))]) := by
  obtain ⟨st, i0, i1, sk, pc, en, bad⟩ := m
  simp only at hl
  refine holds_of_awp Try.func101 rfl (by decide +kernel) mixed Try.ntmps101 Try.results101 ?_
  simp only [entrySt, List.map_cons, List.map_nil, List.length_cons, List.length_nil, Nat.reduceAdd, Nat.reduceSub, List.replicate_succ, List.replicate_zero, List.cons_append, List.nil_append]
  (refine zc ?_; try exact trivial)
  refine ⟨by omega, c_dec (fun h => ?_) (fun h => ?_)⟩
  · have d : decide (32 < sk.length + 1) = true := decide_eq_true (by omega)
    have e : pushM ⟨st, i0, i1, sk, pc, en, bad⟩ [x] = ⟨st, i0, i1, sk ++ [x], pc, en, true⟩ := by
      unfold pushM; simp only [List.length_cons, List.length_nil, Nat.zero_add, Nat.reduceAdd, d, Bool.or_true]
    rw [e]
    (refine zc ?_; try exact trivial)
    all_goals exact leCs_refl _
  · have d : decide (32 < sk.length + 1) = false := decide_eq_false (by omega)
    have e : pushM ⟨st, i0, i1, sk, pc, en, bad⟩ [x] = ⟨st, i0, i1, sk ++ [x], pc, en, bad⟩ := by
      unfold pushM; simp only [List.length_cons, List.length_nil, Nat.zero_add, Nat.reduceAdd, d, Bool.or_false]
    rw [e]
    (refine zc ?_; try exact trivial)
    all_goals exact leCs_refl _
theorem push2_h (m : Mac) (x y : Int) (hl : m.sk.length ≤ 100000) : Holds Try.prog 101 [.ptr (.arg 0) 0, .c (.lst .no none 1 [.val (.int .i32 x), .val (.int .i32 y)])] [(.arg 0, mB (.arg 0) m)] (fun r h' => r = .tup [] ∧ h' = [(.arg 0, mB (.arg 0) (pushM m [x, y]))]) := by
  obtain ⟨st, i0, i1, sk, pc, en, bad⟩ := m
  simp only at hl
  refine holds_of_awp Try.func101 rfl (by decide +kernel) mixed Try.ntmps101 Try.results101 ?_
  simp only [entrySt, List.map_cons, List.map_nil, List.length_cons, List.length_nil, Nat.reduceAdd, Nat.reduceSub, List.replicate_succ, List.replicate_zero, List.cons_append, List.nil_append]
  (refine zc ?_; try exact trivial)
  refine ⟨by omega, c_dec (fun h => ?_) (fun h => ?_)⟩
  · have d : decide (32 < sk.length + 2) = true := decide_eq_true (by omega)
    have e : pushM ⟨st, i0, i1, sk, pc, en, bad⟩ [x, y] = ⟨st, i0, i1, sk ++ [x, y], pc, en, true⟩ := by
      unfold pushM; simp only [List.length_cons, List.length_nil, Nat.zero_add, Nat.reduceAdd, d, Bool.or_true]
    rw [e]
    (refine zc ?_; try exact trivial)
    all_goals exact leCs_refl _
  · have d : decide (32 < sk.length + 2) = false := decide_eq_false (by omega)
    have e : pushM ⟨st, i0, i1, sk, pc, en, bad⟩ [x, y] = ⟨st, i0, i1, sk ++ [x, y], pc, en, bad⟩ := by
      unfold pushM; simp only [List.length_cons, List.length_nil, Nat.zero_add, Nat.reduceAdd, d, Bool.or_false]
    rw [e]
    (refine zc ?_; try exact trivial)
    all_goals exact leCs_refl _
theorem truth_h (b : Bool) : Holds Try.prog 105 [.c (.val (.bool b))] [] (fun r h' => r = .int .i32 (truthV b) ∧ h' = []) := by
  refine holds_of_awp Try.func105 rfl (by decide +kernel) mixed Try.ntmps105 Try.results105 ?_
  simp only [entrySt, List.map_cons, List.map_nil, List.length_cons, List.length_nil, Nat.reduceAdd, Nat.reduceSub, List.replicate_succ, List.replicate_zero, List.cons_append, List.nil_append]
  cases b
  · (refine zc ?_; try exact trivial)
    rfl
  · (refine zc ?_; try exact trivial)
    rfl
theorem least_h (b a : Int) : Holds Try.prog 85 [.int .i32 b, .int .i32 a] [] (fun r h' => r = .int .i32 (min b a) ∧ h' = []) := by
  refine holds_of_awp Try.func85 rfl (by decide +kernel) mixed Try.ntmps85 Try.results85 ?_
  simp only [entrySt, List.map_cons, List.map_nil, List.length_cons, List.length_nil, Nat.reduceAdd, Nat.reduceSub, List.replicate_succ, List.replicate_zero, List.cons_append, List.nil_append]
  (refine zs ?_; try exact trivial)
  all_goals exact leCs_refl _
theorem greatest_h (b a : Int) : Holds Try.prog 86 [.int .i32 b, .int .i32 a] [] (fun r h' => r = .int .i32 (max b a) ∧ h' = []) := by
  refine holds_of_awp Try.func86 rfl (by decide +kernel) mixed Try.ntmps86 Try.results86 ?_
  simp only [entrySt, List.map_cons, List.map_nil, List.length_cons, List.length_nil, Nat.reduceAdd, Nat.reduceSub, List.replicate_succ, List.replicate_zero, List.cons_append, List.nil_append]
  (refine zs ?_; try exact trivial)
  all_goals exact leCs_refl _
theorem less_h (b a : Int) : Holds Try.prog 87 [.int .i32 b, .int .i32 a] [] (fun r h' => r = .int .i32 (truthV (decide (b < a))) ∧ h' = []) := by
  refine holds_of_awp Try.func87 rfl (by decide +kernel) mixed Try.ntmps87 Try.results87 ?_
  simp only [entrySt, List.map_cons, List.map_nil, List.length_cons, List.length_nil, Nat.reduceAdd, Nat.reduceSub, List.replicate_succ, List.replicate_zero, List.cons_append, List.nil_append]
  (refine zs ?_; try exact trivial)
  refine a_call [] (truth_h (decide (b < a))) ok0 ?_ ?_ ?_
  · (refine zs ?_; try exact trivial)
  · (refine zs ?_; try exact trivial)
  rintro _ _ ⟨rfl, rfl⟩
  (refine zs ?_; try exact trivial)
  all_goals exact leCs_refl _
theorem same10_h (b a : Int) : Holds Try.prog 88 [.int .i32 b, .int .i32 a] [] (fun r h' => r = .int .i32 (truthV (decide (b = a))) ∧ h' = []) := by
  refine holds_of_awp Try.func88 rfl (by decide +kernel) mixed Try.ntmps88 Try.results88 ?_
  simp only [entrySt, List.map_cons, List.map_nil, List.length_cons, List.length_nil, Nat.reduceAdd, Nat.reduceSub, List.replicate_succ, List.replicate_zero, List.cons_append, List.nil_append]
  (refine zs ?_; try exact trivial)
  refine a_call [] (truth_h (decide (b = a))) ok0 ?_ ?_ ?_
  · (refine zs ?_; try exact trivial)
  · (refine zs ?_; try exact trivial)
  rintro _ _ ⟨rfl, rfl⟩
  (refine zs ?_; try exact trivial)
  all_goals exact leCs_refl _
/-! ### the doers -/
def number10 (m : Mac) (arg : Int) : Mac := pushM m [arg]
def load10 (m : Mac) (arg : Int) : Mac := pushM m [m.st.cells.getD arg.toNat 0]
def store10 (m : Mac) (arg : Int) : Mac := ⟨m.st.wCells arg.toNat (popV m), m.i0, m.i1, (popM m).sk, m.pc, m.en, (popM m).bad⟩
def not10 (m : Mac) : Mac := pushM (popM m) [truthV (decide (popV m = 0))]
def dup10 (m : Mac) : Mac := pushM (popM m) [popV m, popV m]
def swap10 (m : Mac) : Mac := pushM (popM (popM m)) [popV m, popV (popM m)]
def input10 (m : Mac) (arg : Int) : Mac := pushM m [if arg = 0 then (U16 m.i0 : Int) else U16 m.i1]
def frame10 (m : Mac) : Mac := pushM m [m.st.frame]
def jump10 (m : Mac) (arg : Int) : Mac := ⟨m.st, m.i0, m.i1, m.sk, arg, m.en, m.bad⟩
def zero10 (m : Mac) (arg : Int) : Mac := if popV m = 0 then jump10 (popM m) arg else popM m
def win10 (m : Mac) (arg : Int) : Mac := ⟨(m.st.wOver true).wWin arg, m.i0, m.i1, m.sk, m.pc, true, m.bad⟩
def halt10 (m : Mac) : Mac := ⟨m.st, m.i0, m.i1, m.sk, m.pc, true, m.bad⟩
def mixS (a : UInt32) : UInt32 := xor32 (xor32 (xor32 a (shl32 a 13)) (shr32 (xor32 a (shl32 a 13)) 17)) (shl32 (xor32 (xor32 a (shl32 a 13)) (shr32 (xor32 a (shl32 a 13)) 17)) 5)
def rndV (a : UInt32) : Int := (U32 a) % 65536
def rand10 (m : Mac) : Mac := pushM ⟨m.st.wSeed (mixS m.st.seed), m.i0, m.i1, m.sk, m.pc, m.en, m.bad⟩ [rndV (mixS m.st.seed)]
def two10 (f : Int → Int → Int) (m : Mac) : Mac := pushM (popM (popM m)) [f (popV (popM m)) (popV m)]
theorem rndV_b (a : UInt32) : 0 ≤ rndV a ∧ rndV a ≤ 65535 := by unfold rndV; omega
@[go_sem ↓ 1150] theorem e_rem16 {a : UInt32} {V' : V → Prop} : aInt .rem .u32 (U32 a) .u32 65536 V' = V' (.int .u32 (rndV a)) := by
  rw [e_rem (by omega)]
  unfold rndV
  rw [Int.tmod_eq_emod_of_nonneg (by unfold U32; omega)]
section
variable (m : Mac) (hl : m.sk.length ≤ 1000)
include hl
theorem number_h10 (arg : Int) (ha : B32 arg) : Holds Try.prog 77 [.ptr (.arg 0) 0, .int .i64 arg] [(.arg 0, mB (.arg 0) m)] (fun r h' => r = .tup [] ∧ h' = [(.arg 0, mB (.arg 0) (number10 m arg))]) := by
  obtain ⟨ha, hb⟩ := ha
  refine holds_of_awp Try.func77 rfl (by decide +kernel) mixed Try.ntmps77 Try.results77 ?_
  simp only [entrySt, List.map_cons, List.map_nil, List.length_cons, List.length_nil, Nat.reduceAdd, Nat.reduceSub, List.replicate_succ, List.replicate_zero, List.cons_append, List.nil_append]
  (refine zc ?_; try exact trivial)
  refine a_call [.arg 0] (push1_h m arg (by omega)) (ok1 rfl) ?_ ?_ ?_
  · (refine zs ?_; try exact trivial)
  · (refine zs ?_; try exact trivial)
  rintro _ _ ⟨rfl, rfl⟩
  (refine zs ?_; try exact trivial)
  all_goals exact leCs_refl _
theorem load_h10 (arg : Int) (h0 : 0 ≤ arg) (h1 : arg ≤ 15) : Holds Try.prog 78 [.ptr (.arg 0) 0, .int .i64 arg] [(.arg 0, mB (.arg 0) m)] (fun r h' => r = .tup [] ∧ h' = [(.arg 0, mB (.arg 0) (load10 m arg))]) := by
  refine holds_of_awp Try.func78 rfl (by decide +kernel) mixed Try.ntmps78 Try.results78 ?_
  simp only [entrySt, List.map_cons, List.map_nil, List.length_cons, List.length_nil, Nat.reduceAdd, Nat.reduceSub, List.replicate_succ, List.replicate_zero, List.cons_append, List.nil_append]
  (refine zc ?_; try exact trivial)
  refine a_call [.arg 0] (push1_h m (m.st.cells.getD arg.toNat 0) (by omega)) (ok1 rfl) ?_ ?_ ?_
  · (refine zs ?_; try exact trivial)
  · (refine zs ?_; try exact trivial)
  rintro _ _ ⟨rfl, rfl⟩
  (refine zs ?_; try exact trivial)
  all_goals exact leCs_refl _
theorem store_h10 (arg : Int) (h0 : 0 ≤ arg) (h1 : arg ≤ 15) : Holds Try.prog 79 [.ptr (.arg 0) 0, .int .i64 arg] [(.arg 0, mB (.arg 0) m)] (fun r h' => r = .tup [] ∧ h' = [(.arg 0, mB (.arg 0) (store10 m arg))]) := by
  refine holds_of_awp Try.func79 rfl (by decide +kernel) mixed Try.ntmps79 Try.results79 ?_
  simp only [entrySt, List.map_cons, List.map_nil, List.length_cons, List.length_nil, Nat.reduceAdd, Nat.reduceSub, List.replicate_succ, List.replicate_zero, List.cons_append, List.nil_append]
  refine a_draw (.take 0 (.take 1 (.take 2 (.take 4 (.take 5 (.take 6 (.both [(3, .take 7 (.both [(8, .done)]))]))))))) (by kernel_rfl) (by kernel_rfl) ?_
  (refine zc ?_; try exact trivial)
  refine a_call [.arg 0] (pop_h m (by omega)) (ok1 rfl) ?_ ?_ ?_
  · (refine zs ?_; try exact trivial)
  · (refine zs ?_; try exact trivial)
  rintro _ _ ⟨rfl, rfl⟩
  (refine zc ?_; try exact trivial)
  all_goals exact ⟨by omega, leCs_refl _⟩
theorem not_h10 (arg : Int) : Holds Try.prog 89 [.ptr (.arg 0) 0, .int .i64 arg] [(.arg 0, mB (.arg 0) m)] (fun r h' => r = .tup [] ∧ h' = [(.arg 0, mB (.arg 0) (not10 m))]) := by
  refine holds_of_awp Try.func89 rfl (by decide +kernel) mixed Try.ntmps89 Try.results89 ?_
  simp only [entrySt, List.map_cons, List.map_nil, List.length_cons, List.length_nil, Nat.reduceAdd, Nat.reduceSub, List.replicate_succ, List.replicate_zero, List.cons_append, List.nil_append]
  (refine zc ?_; try exact trivial)
  refine a_call [.arg 0] (pop_h m (by omega)) (ok1 rfl) ?_ ?_ ?_
  · (refine zs ?_; try exact trivial)
  · (refine zs ?_; try exact trivial)
  rintro _ _ ⟨rfl, rfl⟩
  (refine zc ?_; try exact trivial)
  refine a_call [] (truth_h (decide (popV m = 0))) ok0 ?_ ?_ ?_
  · (refine zs ?_; try exact trivial)
  · (refine zs ?_; try exact trivial)
  rintro _ _ ⟨rfl, rfl⟩
  (refine zc ?_; try exact trivial)
  refine a_call [.arg 0] (push1_h (popM m) (truthV (decide (popV m = 0))) (by simp [popM]; omega)) (ok1 rfl) ?_ ?_ ?_
  · (refine zs ?_; try exact trivial)
  · (refine zs ?_; try exact trivial)
  rintro _ _ ⟨rfl, rfl⟩
  (refine zs ?_; try exact trivial)
  all_goals exact leCs_refl _
theorem dup_h10 (arg : Int) : Holds Try.prog 90 [.ptr (.arg 0) 0, .int .i64 arg] [(.arg 0, mB (.arg 0) m)] (fun r h' => r = .tup [] ∧ h' = [(.arg 0, mB (.arg 0) (dup10 m))]) := by
  refine holds_of_awp Try.func90 rfl (by decide +kernel) mixed Try.ntmps90 Try.results90 ?_
  simp only [entrySt, List.map_cons, List.map_nil, List.length_cons, List.length_nil, Nat.reduceAdd, Nat.reduceSub, List.replicate_succ, List.replicate_zero, List.cons_append, List.nil_append]
  (refine zc ?_; try exact trivial)
  refine a_call [.arg 0] (pop_h m (by omega)) (ok1 rfl) ?_ ?_ ?_
  · (refine zs ?_; try exact trivial)
  · (refine zs ?_; try exact trivial)
  rintro _ _ ⟨rfl, rfl⟩
  (refine zc ?_; try exact trivial)
  refine a_call [.arg 0] (push2_h (popM m) (popV m) (popV m) (by simp [popM]; omega)) (ok1 rfl) ?_ ?_ ?_
  · (refine zs ?_; try exact trivial)
  · (refine zs ?_; try exact trivial)
  rintro _ _ ⟨rfl, rfl⟩
  (refine zs ?_; try exact trivial)
  all_goals exact leCs_refl _
theorem swap_h10 (arg : Int) : Holds Try.prog 91 [.ptr (.arg 0) 0, .int .i64 arg] [(.arg 0, mB (.arg 0) m)] (fun r h' => r = .tup [] ∧ h' = [(.arg 0, mB (.arg 0) (swap10 m))]) := by
  refine holds_of_awp Try.func91 rfl (by decide +kernel) mixed Try.ntmps91 Try.results91 ?_
  simp only [entrySt, List.map_cons, List.map_nil, List.length_cons, List.length_nil, Nat.reduceAdd, Nat.reduceSub, List.replicate_succ, List.replicate_zero, List.cons_append, List.nil_append]
  (refine zc ?_; try exact trivial)
  refine a_call [.arg 0] (pop_h m (by omega)) (ok1 rfl) ?_ ?_ ?_
  · (refine zs ?_; try exact trivial)
  · (refine zs ?_; try exact trivial)
  rintro _ _ ⟨rfl, rfl⟩
  (refine zc ?_; try exact trivial)
  refine a_call [.arg 0] (pop_h (popM m) (by simp [popM]; omega)) (ok1 rfl) ?_ ?_ ?_
  · (refine zs ?_; try exact trivial)
  · (refine zs ?_; try exact trivial)
  rintro _ _ ⟨rfl, rfl⟩
  (refine zc ?_; try exact trivial)
  refine a_call [.arg 0] (push2_h (popM (popM m)) (popV m) (popV (popM m)) (by simp [popM]; omega)) (ok1 rfl) ?_ ?_ ?_
  · (refine zs ?_; try exact trivial)
  · (refine zs ?_; try exact trivial)
  rintro _ _ ⟨rfl, rfl⟩
  (refine zs ?_; try exact trivial)
  all_goals exact leCs_refl _
theorem drop_h10 (arg : Int) : Holds Try.prog 92 [.ptr (.arg 0) 0, .int .i64 arg] [(.arg 0, mB (.arg 0) m)] (fun r h' => r = .tup [] ∧ h' = [(.arg 0, mB (.arg 0) (popM m))]) := by
  refine holds_of_awp Try.func92 rfl (by decide +kernel) mixed Try.ntmps92 Try.results92 ?_
  simp only [entrySt, List.map_cons, List.map_nil, List.length_cons, List.length_nil, Nat.reduceAdd, Nat.reduceSub, List.replicate_succ, List.replicate_zero, List.cons_append, List.nil_append]
  (refine zc ?_; try exact trivial)
  refine a_call [.arg 0] (pop_h m (by omega)) (ok1 rfl) ?_ ?_ ?_
  · (refine zs ?_; try exact trivial)
  · (refine zs ?_; try exact trivial)
  rintro _ _ ⟨rfl, rfl⟩
  (refine zs ?_; try exact trivial)
  all_goals exact leCs_refl _
theorem input_h10 (arg : Int) (h0 : arg = 0 ∨ arg = 1) : Holds Try.prog 93 [.ptr (.arg 0) 0, .int .i64 arg] [(.arg 0, mB (.arg 0) m)] (fun r h' => r = .tup [] ∧ h' = [(.arg 0, mB (.arg 0) (input10 m arg))]) := by
  have u0 := U16_b m.i0
  have u1 := U16_b m.i1
  refine holds_of_awp Try.func93 rfl (by decide +kernel) mixed Try.ntmps93 Try.results93 ?_
  simp only [entrySt, List.map_cons, List.map_nil, List.length_cons, List.length_nil, Nat.reduceAdd, Nat.reduceSub, List.replicate_succ, List.replicate_zero, List.cons_append, List.nil_append]
  rcases h0 with rfl | rfl
  · (refine zc ?_; try exact trivial)
    refine a_call [.arg 0] (push1_h m (U16 m.i0) (by omega)) (ok1 rfl) ?_ ?_ ?_
    · (refine zs ?_; try exact trivial)
    · (refine zs ?_; try exact trivial)
    rintro _ _ ⟨rfl, rfl⟩
    (refine zs ?_; try exact trivial)
    all_goals exact leCs_refl _
  · (refine zc ?_; try exact trivial)
    refine a_call [.arg 0] (push1_h m (U16 m.i1) (by omega)) (ok1 rfl) ?_ ?_ ?_
    · (refine zs ?_; try exact trivial)
    · (refine zs ?_; try exact trivial)
    rintro _ _ ⟨rfl, rfl⟩
    (refine zs ?_; try exact trivial)
    all_goals exact leCs_refl _
theorem frame_h10 (arg : Int) (h0 : 0 ≤ m.st.frame) (h1 : m.st.frame ≤ 600) : Holds Try.prog 94 [.ptr (.arg 0) 0, .int .i64 arg] [(.arg 0, mB (.arg 0) m)] (fun r h' => r = .tup [] ∧ h' = [(.arg 0, mB (.arg 0) (frame10 m))]) := by
  refine holds_of_awp Try.func94 rfl (by decide +kernel) mixed Try.ntmps94 Try.results94 ?_
  simp only [entrySt, List.map_cons, List.map_nil, List.length_cons, List.length_nil, Nat.reduceAdd, Nat.reduceSub, List.replicate_succ, List.replicate_zero, List.cons_append, List.nil_append]
  (refine zc ?_; try exact trivial)
  refine a_call [.arg 0] (push1_h m m.st.frame (by omega)) (ok1 rfl) ?_ ?_ ?_
  · (refine zs ?_; try exact trivial)
  · (refine zs ?_; try exact trivial)
  rintro _ _ ⟨rfl, rfl⟩
  (refine zs ?_; try exact trivial)
  all_goals exact leCs_refl _
omit hl in
theorem jump_h10 (arg : Int) : Holds Try.prog 95 [.ptr (.arg 0) 0, .int .i64 arg] [(.arg 0, mB (.arg 0) m)] (fun r h' => r = .tup [] ∧ h' = [(.arg 0, mB (.arg 0) (jump10 m arg))]) := by
  refine holds_of_awp Try.func95 rfl (by decide +kernel) mixed Try.ntmps95 Try.results95 ?_
  simp only [entrySt, List.map_cons, List.map_nil, List.length_cons, List.length_nil, Nat.reduceAdd, Nat.reduceSub, List.replicate_succ, List.replicate_zero, List.cons_append, List.nil_append]
  (refine zc ?_; try exact trivial)
  all_goals exact leCs_refl _
theorem zero_h10 (arg : Int) : Holds Try.prog 96 [.ptr (.arg 0) 0, .int .i64 arg] [(.arg 0, mB (.arg 0) m)] (fun r h' => r = .tup [] ∧ h' = [(.arg 0, mB (.arg 0) (zero10 m arg))]) := by
  refine holds_of_awp Try.func96 rfl (by decide +kernel) mixed Try.ntmps96 Try.results96 ?_
  simp only [entrySt, List.map_cons, List.map_nil, List.length_cons, List.length_nil, Nat.reduceAdd, Nat.reduceSub, List.replicate_succ, List.replicate_zero, List.cons_append, List.nil_append]
  (refine zc ?_; try exact trivial)
  refine a_call [.arg 0] (pop_h m (by omega)) (ok1 rfl) ?_ ?_ ?_
  · (refine zs ?_; try exact trivial)
  · (refine zs ?_; try exact trivial)
  rintro _ _ ⟨rfl, rfl⟩
  (refine zc ?_; try exact trivial)
  refine c_dec (fun h => ?_) (fun h => ?_)
  · unfold zero10
    rw [if_pos h]
    (refine zc ?_; try exact trivial)
    all_goals exact leCs_refl _
  · unfold zero10
    rw [if_neg h]
    (refine zc ?_; try exact trivial)
    all_goals exact leCs_refl _
omit hl in
theorem win_h10 (arg : Int) : Holds Try.prog 97 [.ptr (.arg 0) 0, .int .i64 arg] [(.arg 0, mB (.arg 0) m)] (fun r h' => r = .tup [] ∧ h' = [(.arg 0, mB (.arg 0) (win10 m arg))]) := by
  refine holds_of_awp Try.func97 rfl (by decide +kernel) mixed Try.ntmps97 Try.results97 ?_
  simp only [entrySt, List.map_cons, List.map_nil, List.length_cons, List.length_nil, Nat.reduceAdd, Nat.reduceSub, List.replicate_succ, List.replicate_zero, List.cons_append, List.nil_append]
  (refine zc ?_; try exact trivial)
  all_goals exact leCs_refl _
omit hl in
theorem halt_h10 (arg : Int) : Holds Try.prog 99 [.ptr (.arg 0) 0, .int .i64 arg] [(.arg 0, mB (.arg 0) m)] (fun r h' => r = .tup [] ∧ h' = [(.arg 0, mB (.arg 0) (halt10 m))]) := by
  refine holds_of_awp Try.func99 rfl (by decide +kernel) mixed Try.ntmps99 Try.results99 ?_
  simp only [entrySt, List.map_cons, List.map_nil, List.length_cons, List.length_nil, Nat.reduceAdd, Nat.reduceSub, List.replicate_succ, List.replicate_zero, List.cons_append, List.nil_append]
  (refine zc ?_; try exact trivial)
  all_goals exact leCs_refl _
theorem rand_h10 (arg : Int) : Holds Try.prog 98 [.ptr (.arg 0) 0, .int .i64 arg] [(.arg 0, mB (.arg 0) m)] (fun r h' => r = .tup [] ∧ h' = [(.arg 0, mB (.arg 0) (rand10 m))]) := by
  have hb := rndV_b (mixS m.st.seed)
  refine holds_of_awp Try.func98 rfl (by decide +kernel) mixed Try.ntmps98 Try.results98 ?_
  simp only [entrySt, List.map_cons, List.map_nil, List.length_cons, List.length_nil, Nat.reduceAdd, Nat.reduceSub, List.replicate_succ, List.replicate_zero, List.cons_append, List.nil_append]
  (refine zc ?_; try exact trivial)
  have em : (xor32 (xor32 (xor32 m.st.seed (shl32 m.st.seed 13)) (shr32 (xor32 m.st.seed (shl32 m.st.seed 13)) 17)) (shl32 (xor32 (xor32 m.st.seed (shl32 m.st.seed 13)) (shr32 (xor32 m.st.seed (shl32 m.st.seed 13)) 17)) 5)) = mixS m.st.seed := rfl
  simp only [em]
  (refine zc ?_; try exact trivial)
  refine a_call [.arg 0] (push1_h ⟨m.st.wSeed (mixS m.st.seed), m.i0, m.i1, m.sk, m.pc, m.en, m.bad⟩ (rndV (mixS m.st.seed)) (by simp; omega)) (ok1 rfl) ?_ ?_ ?_
  · (refine zs ?_; try exact trivial)
  · (refine zs ?_; try exact trivial)
  rintro _ _ ⟨rfl, rfl⟩
  (refine zs ?_; try exact trivial)
  all_goals exact leCs_refl _
theorem two1_h10 (k : Nat) (f : Int → Int → Int) (hf : Holds Try.prog k [.int .i32 (popV (popM m)), .int .i32 (popV m)] [] (fun r h' => r = .int .i32 (f (popV (popM m)) (popV m)) ∧ h' = [])) (arg : Int) :
    Holds Try.prog 103 [.ptr (.arg 0) 0, .int .i64 arg, .ptr (.arg 1) 0] [(.arg 0, mB (.arg 0) m), (.arg 1, [.fn (.func k) [] []])] (fun r h' => r = .tup [] ∧ h' = [(.arg 0, mB (.arg 0) (two10 f m)), (.arg 1, [.fn (.func k) [] []])]) := by
  refine holds_of_awp Try.func103 rfl (by decide +kernel) mixed Try.ntmps103 Try.results103 ?_
  simp only [entrySt, List.map_cons, List.map_nil, List.length_cons, List.length_nil, Nat.reduceAdd, Nat.reduceSub, List.replicate_succ, List.replicate_zero, List.cons_append, List.nil_append]
  (refine zc ?_; try exact trivial)
  refine a_call [.arg 0] (pop_h m (by omega)) (ok1 rfl) ?_ ?_ ?_
  · (refine zs ?_; try exact trivial)
  · (refine zs ?_; try exact trivial)
  rintro _ _ ⟨rfl, rfl⟩
  (refine zc ?_; try exact trivial)
  refine a_call [.arg 0] (pop_h (popM m) (by simp [popM]; omega)) (ok1 rfl) ?_ ?_ ?_
  · (refine zs ?_; try exact trivial)
  · (refine zs ?_; try exact trivial)
  rintro _ _ ⟨rfl, rfl⟩
  (refine zc ?_; try exact trivial)
  refine a_call [] (hf) ok0 ?_ ?_ ?_
  · (refine zs ?_; try exact trivial)
  · (refine zs ?_; try exact trivial)
  rintro _ _ ⟨rfl, rfl⟩
  (refine zc ?_; try exact trivial)
  refine a_call [.arg 0] (push1_h (popM (popM m)) (f (popV (popM m)) (popV m)) (by simp [popM]; omega)) (ok1 rfl) ?_ ?_ ?_
  · (refine zs ?_; try exact trivial)
  · (refine zs ?_; try exact trivial)
  rintro _ _ ⟨rfl, rfl⟩
  (refine zs ?_; try exact trivial)
  all_goals exact leCs_refl _
end
end Go.Proofs.Ytamcjecgkfmjkaa

/- Chapter 10: an instruction, and a frame's run. -/
open Go Go.RowKit
namespace Go.Proofs.Ytamcjecgkfmjkaa
set_option linter.unusedSimpArgs false
set_option linter.unusedVariables false
def f4 (b a : Int) : Int := held (b + a)
def f5 (b a : Int) : Int := held (b - a)
def f6 (b a : Int) : Int := held (b * a / 65536)
def f7 (b a : Int) : Int := divV b a
def f8 (b a : Int) : Int := min b a
def f9 (b a : Int) : Int := max b a
def f10 (b a : Int) : Int := truthV (decide (b < a))
def f11 (b a : Int) : Int := truthV (decide (b = a))
/-- an instruction -/
def doM (op arg : Int) (m : Mac) : Mac :=
  if op = 1 then number10 m arg
  else if op = 2 then load10 m arg
  else if op = 3 then store10 m arg
  else if op = 4 then two10 f4 m
  else if op = 5 then two10 f5 m
  else if op = 6 then two10 f6 m
  else if op = 7 then two10 f7 m
  else if op = 8 then two10 f8 m
  else if op = 9 then two10 f9 m
  else if op = 10 then two10 f10 m
  else if op = 11 then two10 f11 m
  else if op = 12 then not10 m
  else if op = 13 then dup10 m
  else if op = 14 then swap10 m
  else if op = 15 then popM m
  else if op = 16 then input10 m arg
  else if op = 17 then frame10 m
  else if op = 18 then jump10 m arg
  else if op = 19 then zero10 m arg
  else if op = 20 then win10 m arg
  else if op = 21 then rand10 m
  else halt10 m
/-- what holds of a machine all the while -/
structure okM (n : Int) (m : Mac) : Prop where
  pc0 : 0 ≤ m.pc
  pc1 : m.pc ≤ n
  len : m.sk.length ≤ 32
  sk : ∀ x ∈ m.sk, B32 x
  cells : ∀ x ∈ m.st.cells, B32 x
  fr0 : 0 ≤ m.st.frame
  fr1 : m.st.frame ≤ 600
theorem B32_0 : B32 0 := by unfold B32; omega
theorem getD_B32 {l : List Int} (h : ∀ x ∈ l, B32 x) (k : Nat) : B32 (l.getD k 0) := by
  rw [List.getD_eq_getElem?_getD]
  cases hk : l[k]? with
  | none => exact B32_0
  | some x => exact h x (List.mem_of_getElem? hk)
theorem popV_B {m : Mac} (h : ∀ x ∈ m.sk, B32 x) : B32 (popV m) := getD_B32 h _
theorem popM_B {m : Mac} (h : ∀ x ∈ m.sk, B32 x) : ∀ x ∈ (popM m).sk, B32 x := fun x hx => h x (List.mem_of_mem_take hx)
theorem truthV_B (b : Bool) : B32 (truthV b) := by cases b <;> (unfold truthV B32; simp)
theorem divV_B {b a : Int} (hb : B32 b) (ha : B32 a) : B32 (divV b a) := by
  unfold divV
  split
  · split
    · unfold B32; omega
    · split <;> (unfold B32; omega)
  · exact held_b _
theorem min_B {b a : Int} (hb : B32 b) (ha : B32 a) : B32 (min b a) := by unfold B32 at *; omega
theorem max_B {b a : Int} (hb : B32 b) (ha : B32 a) : B32 (max b a) := by unfold B32 at *; omega
/-- what an instruction leaves is right again, if it did -/
structure okL (m : Mac) : Prop where
  sk : ∀ x ∈ m.sk, B32 x
  cells : ∀ x ∈ m.st.cells, B32 x
  fr0 : 0 ≤ m.st.frame
  fr1 : m.st.frame ≤ 600
theorem okM.low {n : Int} {m : Mac} (h : okM n m) : okL m := ⟨h.sk, h.cells, h.fr0, h.fr1⟩
theorem okL.pop {m : Mac} (h : okL m) : okL (popM m) := ⟨popM_B h.sk, h.cells, h.fr0, h.fr1⟩
theorem okL.push {m : Mac} (h : okL m) {l : List Int} (hx : ∀ x ∈ l, B32 x) : okL (pushM m l) := ⟨fun x hm => by
  rcases List.mem_append.1 hm with h1 | h1
  · exact h.sk x h1
  · exact hx x h1, h.cells, h.fr0, h.fr1⟩
theorem one_B {x : Int} (h : B32 x) : ∀ y ∈ [x], B32 y := fun y hy => by rw [List.mem_singleton.1 hy]; exact h
theorem two_B {x z : Int} (h : B32 x) (h2 : B32 z) : ∀ y ∈ [x, z], B32 y := fun y hy => by
  rcases List.mem_cons.1 hy with e | e
  · rw [e]; exact h
  · rw [List.mem_singleton.1 e]; exact h2
theorem wCells_B {s : Sta} {k : Nat} {x : Int} (h : ∀ y ∈ s.cells, B32 y) (hx : B32 x) : ∀ y ∈ (s.wCells k x).cells, B32 y := fun y hy => by
  rcases List.mem_or_eq_of_mem_set hy with h1 | h1
  · exact h y h1
  · rw [h1]; exact hx
theorem okL.two {m : Mac} (h : okL m) {f : Int → Int → Int} (hf : ∀ b a, B32 b → B32 a → B32 (f b a)) : okL (two10 f m) := h.pop.pop.push (one_B (hf _ _ (popV_B h.pop.sk) (popV_B h.sk)))
theorem mayP_arg {op arg n : Int} (h : mayP op arg n = true) : (1 ≤ op ∧ op ≤ 22) ∧ (op = 1 → B32 arg) ∧ (op = 2 ∨ op = 3 → 0 ≤ arg ∧ arg ≤ 15) ∧ (op = 16 → arg = 0 ∨ arg = 1) ∧ (op = 18 ∨ op = 19 → 0 ≤ arg ∧ arg ≤ n) ∧ (op = 20 → 0 ≤ arg ∧ arg ≤ 2) := by
  unfold mayP at h
  unfold B32
  split at h
  · simp only [Bool.and_eq_true, decide_eq_true_eq] at h; omega
  · split at h
    · simp only [Bool.and_eq_true, decide_eq_true_eq] at h; omega
    · split at h
      · simp only [Bool.and_eq_true, decide_eq_true_eq] at h; omega
      · split at h
        · simp only [Bool.and_eq_true, decide_eq_true_eq] at h; omega
        · split at h
          · simp only [Bool.and_eq_true, decide_eq_true_eq] at h; omega
          · simp only [Bool.and_eq_true, decide_eq_true_eq] at h; omega
theorem op_cases {op : Int} (h : 1 ≤ op ∧ op ≤ 22) : op = 1 ∨ op = 2 ∨ op = 3 ∨ op = 4 ∨ op = 5 ∨ op = 6 ∨ op = 7 ∨ op = 8 ∨ op = 9 ∨ op = 10 ∨ op = 11 ∨ op = 12 ∨ op = 13 ∨ op = 14 ∨ op = 15 ∨ op = 16 ∨ op = 17 ∨ op = 18 ∨ op = 19 ∨ op = 20 ∨ op = 21 ∨ op = 22 := by omega
section
variable (arg : Int) (m : Mac)
theorem doM_1 : doM 1 arg m = number10 m arg := rfl
theorem doM_2 : doM 2 arg m = load10 m arg := rfl
theorem doM_3 : doM 3 arg m = store10 m arg := rfl
theorem doM_4 : doM 4 arg m = two10 f4 m := rfl
theorem doM_5 : doM 5 arg m = two10 f5 m := rfl
theorem doM_6 : doM 6 arg m = two10 f6 m := rfl
theorem doM_7 : doM 7 arg m = two10 f7 m := rfl
theorem doM_8 : doM 8 arg m = two10 f8 m := rfl
theorem doM_9 : doM 9 arg m = two10 f9 m := rfl
theorem doM_10 : doM 10 arg m = two10 f10 m := rfl
theorem doM_11 : doM 11 arg m = two10 f11 m := rfl
theorem doM_12 : doM 12 arg m = not10 m := rfl
theorem doM_13 : doM 13 arg m = dup10 m := rfl
theorem doM_14 : doM 14 arg m = swap10 m := rfl
theorem doM_15 : doM 15 arg m = popM m := rfl
theorem doM_16 : doM 16 arg m = input10 m arg := rfl
theorem doM_17 : doM 17 arg m = frame10 m := rfl
theorem doM_18 : doM 18 arg m = jump10 m arg := rfl
theorem doM_19 : doM 19 arg m = zero10 m arg := rfl
theorem doM_20 : doM 20 arg m = win10 m arg := rfl
theorem doM_21 : doM 21 arg m = rand10 m := rfl
theorem doM_22 : doM 22 arg m = halt10 m := rfl
end
theorem doM_low {n op arg : Int} {m : Mac} (h : okL m) (hm : mayP op arg n = true) : okL (doM op arg m) := by
  obtain ⟨ho, h1, h2, h16, h18, h20⟩ := mayP_arg hm
  have u0 := U16_b m.i0
  have u1 := U16_b m.i1
  have hr := rndV_b (mixS m.st.seed)
  rcases op_cases ho with rfl | rfl | rfl | rfl | rfl | rfl | rfl | rfl | rfl | rfl | rfl | rfl | rfl | rfl | rfl | rfl | rfl | rfl | rfl | rfl | rfl | rfl
  · exact h.push (one_B (h1 rfl))
  · exact h.push (one_B (getD_B32 h.cells _))
  · exact ⟨(okL.pop h).sk, wCells_B h.cells (popV_B h.sk), h.fr0, h.fr1⟩
  · exact h.two fun _ _ _ _ => held_b _
  · exact h.two fun _ _ _ _ => held_b _
  · exact h.two fun _ _ _ _ => held_b _
  · exact h.two fun _ _ => divV_B
  · exact h.two fun _ _ => min_B
  · exact h.two fun _ _ => max_B
  · exact h.two fun _ _ _ _ => truthV_B _
  · exact h.two fun _ _ _ _ => truthV_B _
  · exact h.pop.push (one_B (truthV_B _))
  · exact h.pop.push (two_B (popV_B h.sk) (popV_B h.sk))
  · exact h.pop.pop.push (two_B (popV_B h.sk) (popV_B h.pop.sk))
  · exact h.pop
  · exact h.push (one_B (by split <;> (unfold B32; omega)))
  · exact h.push (one_B (by have := h.fr0; have := h.fr1; unfold B32; omega))
  · exact ⟨h.sk, h.cells, h.fr0, h.fr1⟩
  · rw [doM_19]
    unfold zero10
    split
    · exact ⟨h.pop.sk, h.cells, h.fr0, h.fr1⟩
    · exact h.pop
  · exact ⟨h.sk, h.cells, h.fr0, h.fr1⟩
  · exact okL.push (m := ⟨m.st.wSeed (mixS m.st.seed), m.i0, m.i1, m.sk, m.pc, m.en, m.bad⟩) ⟨h.sk, h.cells, h.fr0, h.fr1⟩ (one_B (by unfold B32; omega))
  · exact ⟨h.sk, h.cells, h.fr0, h.fr1⟩
theorem pushM_pc {m : Mac} {l : List Int} : (pushM m l).pc = m.pc := rfl
theorem pushM_len {m : Mac} {l : List Int} (h : (pushM m l).bad = false) : (pushM m l).sk.length ≤ 32 := by
  unfold pushM at h ⊢
  simp only [Bool.or_eq_false_iff, decide_eq_false_iff_not] at h
  rw [List.length_append]; omega
theorem popM_len {m : Mac} : (popM m).sk.length ≤ m.sk.length := List.length_take_le' _ _
/-- where it goes on, and how high the numbers stand -/
theorem doM_pc {n op arg : Int} {m : Mac} (h0 : 0 ≤ m.pc) (h1 : m.pc ≤ n) (hl : m.sk.length ≤ 32) (hm : mayP op arg n = true) (hb : (doM op arg m).bad = false) : 0 ≤ (doM op arg m).pc ∧ (doM op arg m).pc ≤ n ∧ (doM op arg m).sk.length ≤ 32 := by
  obtain ⟨ho, _, _, _, h18, _⟩ := mayP_arg hm
  have P : ∀ {x : Mac} {l : List Int}, x.pc = m.pc → (pushM x l).bad = false → 0 ≤ (pushM x l).pc ∧ (pushM x l).pc ≤ n ∧ (pushM x l).sk.length ≤ 32 := by
    intro x l hx hb
    exact ⟨by rw [pushM_pc, hx]; exact h0, by rw [pushM_pc, hx]; exact h1, pushM_len hb⟩
  rcases op_cases ho with rfl | rfl | rfl | rfl | rfl | rfl | rfl | rfl | rfl | rfl | rfl | rfl | rfl | rfl | rfl | rfl | rfl | rfl | rfl | rfl | rfl | rfl
  · exact P rfl hb
  · exact P rfl hb
  · exact ⟨h0, h1, Nat.le_trans popM_len hl⟩
  · exact P (x := popM (popM m)) rfl hb
  · exact P (x := popM (popM m)) rfl hb
  · exact P (x := popM (popM m)) rfl hb
  · exact P (x := popM (popM m)) rfl hb
  · exact P (x := popM (popM m)) rfl hb
  · exact P (x := popM (popM m)) rfl hb
  · exact P (x := popM (popM m)) rfl hb
  · exact P (x := popM (popM m)) rfl hb
  · exact P (x := popM m) rfl hb
  · exact P (x := popM m) rfl hb
  · exact P (x := popM (popM m)) rfl hb
  · exact ⟨h0, h1, Nat.le_trans popM_len hl⟩
  · exact P rfl hb
  · exact P rfl hb
  · exact ⟨(h18 (.inl rfl)).1, (h18 (.inl rfl)).2, hl⟩
  · rw [doM_19]
    unfold zero10
    split
    · exact ⟨(h18 (.inr rfl)).1, (h18 (.inr rfl)).2, Nat.le_trans popM_len hl⟩
    · exact ⟨h0, h1, Nat.le_trans popM_len hl⟩
  · exact ⟨h0, h1, hl⟩
  · exact P (x := ⟨m.st.wSeed (mixS m.st.seed), m.i0, m.i1, m.sk, m.pc, m.en, m.bad⟩) rfl hb
  · exact ⟨h0, h1, hl⟩
theorem doM_ok {n op arg : Int} {m : Mac} (h : okM n m) (hm : mayP op arg n = true) (hb : (doM op arg m).bad = false) : okM n (doM op arg m) := by
  have h1 := doM_low h.low hm
  have h2 := doM_pc h.pc0 h.pc1 h.len hm hb
  exact ⟨h2.1, h2.2.1, h2.2.2, h1.sk, h1.cells, h1.fr0, h1.fr1⟩
@[reducible] def incM (m : Mac) : Mac := ⟨m.st, m.i0, m.i1, m.sk, m.pc + 1, m.en, m.bad⟩
/-- a frame's run: what went wrong, and the machine -/
def runM (code : List (Int × Int)) : Nat → Mac → Int × Mac
  | 0, m => if m.pc < code.length ∧ m.en = false then (10, m) else (0, m)
  | f + 1, m => if m.pc < code.length ∧ m.en = false then
      (if (doM (gi code m.pc.toNat).1 (gi code m.pc.toNat).2 (incM m)).bad = true then (11, doM (gi code m.pc.toNat).1 (gi code m.pc.toNat).2 (incM m))
       else runM code f (doM (gi code m.pc.toNat).1 (gi code m.pc.toNat).2 (incM m))) else (0, m)
end Go.Proofs.Ytamcjecgkfmjkaa
