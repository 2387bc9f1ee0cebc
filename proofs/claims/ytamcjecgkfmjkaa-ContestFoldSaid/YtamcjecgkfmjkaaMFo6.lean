/- Parts of a proof: Chapter 10: a frame's step, Chapter 10: the other machine's step, Chapter 18: what a player does, Chapter 18: an input while the other did nothing, Chapter 18: an input, and the frames that it brings. (written by gen18m.py), Chapter 18: a match is opened; an input ahead of the other's, The logic: states, events, numbers in a row compared, Chapter 18: how each kind of event is done. (written by gen18g.py), Chapter 18: an event is taken. (written by gen18h.py), Chapter 18: who is waited for. -/
import Derived.Test.YtamcjecgkfmjkaaMFo5
import Derived.Test.YtamcjecgkfmjkaaMFo4
import Derived.Test.YtamcjecgkfmjkaaMFo3
/- Chapter 10: a frame's step. -/
open Go Go.RowKit
namespace Go.Proofs.Ytamcjecgkfmjkaa
set_option linter.unusedSimpArgs false
set_option linter.unusedVariables false
section
variable {s : Sta} {K : C → Prop}
@[go_sem ↓ 1200] theorem sd_c0 : (∃ c, ((sd s).map D.toC)[1]? = some c ∧ K c) = K (.val (.int .i32 (s.cells.getD 0 0))) := ex_some (get_cells (k := 0) (by omega))
@[go_sem ↓ 1200] theorem sd_c1 : (∃ c, ((sd s).map D.toC)[2]? = some c ∧ K c) = K (.val (.int .i32 (s.cells.getD 1 0))) := ex_some (get_cells (k := 1) (by omega))
end
def stepP (code : List (Int × Int)) (cap fuel : Int) (s : Sta) (i0 i1 : UInt16) : Sta × Int :=
  if gameP code cap fuel ≠ 0 then (stz 0 0, gameP code cap fuel)
  else if isP s = false ∨ U32 s.seed = 0 then (stz 0 0, 1)
  else if s.over = true ∨ cap ≤ s.frame then (stz 0 0, 12)
  else (stepM code cap fuel.toNat s i0 i1, 0)
theorem isP_spec {s : Sta} (h : isP s = true) : 0 ≤ s.frame ∧ s.frame ≤ 600 ∧ 0 ≤ s.win ∧ s.win ≤ 2 ∧ (s.over = true ∨ s.win = 0) := by
  unfold isP at h
  simp only [Bool.and_eq_true, decide_eq_true_eq, Bool.or_eq_true] at h
  obtain ⟨⟨⟨⟨h1, h2⟩, h3⟩, h4⟩, h5⟩ := h
  exact ⟨h1, h2, h3, h4, h5⟩
theorem gameP_spec {code : List (Int × Int)} {cap fuel : Int} (h : gameP code cap fuel = 0) : (chkP code).2 = 0 ∧ 1 ≤ cap ∧ cap ≤ 600 ∧ 1 ≤ fuel ∧ fuel ≤ 2000 := by
  unfold gameP at h
  split at h
  · rename_i h1; exact absurd h h1
  · rename_i h1
    split at h
    · cases h
    · rename_i h2
      exact ⟨by simpa using h1, by omega, by omega, by omega, by omega⟩
theorem runM_B {code : List (Int × Int)} (hc : (chkP code).2 = 0) : ∀ (f : Nat) (m : Mac), okL m → 0 ≤ m.pc → okL (runM code f m).2
  | 0, m, h, _ => by unfold runM; split <;> exact h
  | f + 1, m, h, h0 => by
    unfold runM
    split
    · rename_i hp
      have hmay := chk_all hc (i := m.pc.toNat) (by omega)
      have h1 : okL (incM m) := ⟨h.sk, h.cells, h.fr0, h.fr1⟩
      have h2 := doM_low h1 hmay
      split
      · exact h2
      · exact runM_B hc f _ h2 (doM_pc0 (by show 0 ≤ m.pc + 1; omega) hmay)
    · exact h
theorem endS_cells (cap : Int) (s : Sta) : (endS cap s).cells = s.cells := by unfold endS; split <;> rfl
theorem step_B32 (code : List (Int × Int)) (cap fuel : Int) (s : Sta) (i0 i1 : UInt16) (h : ∀ x ∈ s.cells, B32 x) : ∀ x ∈ (stepP code cap fuel s i0 i1).1.cells, B32 x := by
  have hz : ∀ x ∈ (stz 0 0).cells, B32 x := fun x hx => by
    have : x = 0 := List.eq_of_mem_replicate hx
    rw [this]; exact B32_0
  unfold stepP
  split
  · exact hz
  · rename_i hg
    split
    · exact hz
    · rename_i hi
      split
      · exact hz
      · have hg' : gameP code cap fuel = 0 := by simpa using hg
        have hi' : isP s = true := by cases hh : isP s <;> simp_all
        obtain ⟨f0, f1, _⟩ := isP_spec hi'
        show ∀ x ∈ (stepM code cap fuel.toNat s i0 i1).cells, B32 x
        unfold stepM
        rw [endS_cells]
        split
        · exact (runM_B (gameP_spec hg').1 _ _ ⟨fun x hx => (by cases hx), h, f0, f1⟩ (by show (0 : Int) ≤ 0; omega)).cells
        · exact h
set_option maxRecDepth 20000 in
set_option maxHeartbeats 16000000 in
theorem step_h (code : List (Int × Int)) (cap fuel : Int) (s : Sta) (i0 i1 : UInt16) (hcl : code.length ≤ 9223372036854775807) (hB : ∀ x ∈ s.cells, B32 x) :
    Holds Try.prog 57 [.game code cap fuel, .agg ((sd s).map D.toC), .agg [.val (.int .u16 (U16 i0)), .val (.int .u16 (U16 i1))]] [] (fun r h' => r = .tup [.agg ((sd (stepP code cap fuel s i0 i1).1).map D.toC), .int .i64 (stepP code cap fuel s i0 i1).2] ∧ h' = []) := by
  have hgc := gcheck_h code cap fuel hcl
  have his := isState_h s
  refine holds_of_awp Try.func57 rfl (by decide +kernel) mixed Try.ntmps57 Try.results57 ?_
  simp only [entrySt, List.map_cons, List.map_nil, List.length_cons, List.length_nil, Nat.reduceAdd, Nat.reduceSub, List.replicate_succ, List.replicate_zero, List.cons_append, List.nil_append]
  (refine zs ?_; try exact trivial)
  refine a_call [] (hgc) ok0 ?_ ?_ ?_
  · (refine zs ?_; try exact trivial)
  · (refine zs ?_; try exact trivial)
  rintro _ _ ⟨rfl, rfl⟩
  by_cases hg : gameP code cap fuel = 0
  · obtain ⟨g1, g2, g3, g4, g5⟩ := gameP_spec hg
    have hlen := game_len hg
    rw [hg]
    (refine zc ?_; try exact trivial)
    refine a_call [] (his) ok0 ?_ ?_ ?_
    · (refine zs ?_; try exact trivial)
    · (refine zs ?_; try exact trivial)
    rintro _ _ ⟨rfl, rfl⟩
    cases hi : isP s
    · have e : stepP code cap fuel s i0 i1 = (stz 0 0, 1) := by unfold stepP; rw [if_neg (by rw [hg]; simp), if_pos (.inl hi)]
      rw [e]
      (refine zc ?_; try exact trivial)
      all_goals exact leCs_refl _
    · obtain ⟨s1, s2, s3, s4, s5⟩ := isP_spec hi
      (refine zc ?_; try exact trivial)
      cases hz : decide (U32 s.seed = 0)
      · have hz' := of_decide_eq_false hz
        simp (maxSteps := 2000000) (disch := omega) only [go_sem, Nat.reduceAdd, Nat.reduceSub, Nat.reduceMul, Nat.reduceBEq, Nat.reduceEqDiff, Nat.reduceLT, Nat.reduceLeDiff, Nat.reduceDiv, reduceIte, reduceCtorEq, hz]
        cases ho : s.over
        · simp (maxSteps := 2000000) (disch := omega) only [go_sem, Nat.reduceAdd, Nat.reduceSub, Nat.reduceMul, Nat.reduceBEq, Nat.reduceEqDiff, Nat.reduceLT, Nat.reduceLeDiff, Nat.reduceDiv, reduceIte, reduceCtorEq, ho]
          cases hf : decide (cap ≤ s.frame)
          · have hf' := of_decide_eq_false hf
            have hw : s.win = 0 := by rcases s5 with h | h; rw [ho] at h; cases h; exact h
            have e : stepP code cap fuel s i0 i1 = (stepM code cap fuel.toNat s i0 i1, 0) := by unfold stepP; rw [if_neg (by rw [hg]; simp), if_neg (by rintro (h | h); rw [hi] at h; cases h; exact hz' h), if_neg (by rintro (h | h); rw [ho] at h; cases h; exact hf' h)]
            rw [e]
            have hrun := run_h10 code cap fuel.toNat (mac0 s i0 i1) g1 (by omega) ⟨by show (0 : Int) ≤ 0; omega, by show (0 : Int) ≤ _; omega, by show 0 ≤ 32; omega, fun x hx => (by cases hx), hB, s1, s2⟩ rfl (by omega)
            rw [show ((fuel.toNat : Nat) : Int) = fuel by omega] at hrun
            have hlow := runM_B g1 fuel.toNat (mac0 s i0 i1) ⟨fun x hx => (by cases hx), hB, s1, s2⟩ (by show (0 : Int) ≤ 0; omega)
            have eM : stepM code cap fuel.toNat s i0 i1 = endS cap (if (runM code fuel.toNat (mac0 s i0 i1)).1 = 0 then (runM code fuel.toNat (mac0 s i0 i1)).2.st else s) := rfl
            rw [eM]
            clear e eM
            generalize runM code fuel.toNat (mac0 s i0 i1) = x at hrun hlow ⊢
            obtain ⟨E, M⟩ := x
            simp only at hrun hlow ⊢
            have mf0 := hlow.fr0
            have mf1 := hlow.fr1
            simp (maxSteps := 2000000) (disch := omega) only [go_sem, Nat.reduceAdd, Nat.reduceSub, Nat.reduceMul, Nat.reduceBEq, Nat.reduceEqDiff, Nat.reduceLT, Nat.reduceLeDiff, Nat.reduceDiv, reduceIte, reduceCtorEq, hf]
            refine a_call [.loc [40]] hrun (ok1 rfl) ?_ ?_ ?_
            · (refine zs ?_; try exact trivial)
            · (refine zs ?_; try exact trivial)
              exact mc_le ⟨rfl, rfl, rfl, by simp [leC], rfl, rfl, rfl⟩
            rintro _ _ ⟨rfl, rfl⟩
            (refine zc ?_; try exact trivial)
            clear hrun hgc his hB g1 hlow
            refine c_dec (fun hE => ?_) (fun hE => ?_)
            · rw [if_neg (show ¬ E = 0 from hE)]
              (refine zc ?_; try exact trivial)
              have hover : (s).over = false ∨ (s).over = true := by cases (s).over <;> simp
              cases hk : decide (cap ≤ (s).frame + 1)
              · have e2 : endS cap (s) = (s).wFrame ((s).frame + 1) := by unfold endS; rw [if_neg (fun h => (of_decide_eq_false hk) h.1)]
                rw [e2]
                simp (maxSteps := 2000000) (disch := omega) only [go_sem, Nat.reduceAdd, Nat.reduceSub, Nat.reduceMul, Nat.reduceBEq, Nat.reduceEqDiff, Nat.reduceLT, Nat.reduceLeDiff, Nat.reduceDiv, reduceIte, reduceCtorEq, hk]
                all_goals exact leCs_refl _
              · cases hq : (!(s).over)
                · have e2 : endS cap (s) = (s).wFrame ((s).frame + 1) := by unfold endS; rw [if_neg (fun h => by rw [h.2] at hq; cases hq)]
                  rw [e2]
                  simp (maxSteps := 2000000) (disch := omega) only [go_sem, Nat.reduceAdd, Nat.reduceSub, Nat.reduceMul, Nat.reduceBEq, Nat.reduceEqDiff, Nat.reduceLT, Nat.reduceLeDiff, Nat.reduceDiv, reduceIte, reduceCtorEq, hk, hq]
                  all_goals exact leCs_refl _
                · have hq' : (s).over = false := by cases hh : (s).over <;> simp_all
                  have e2 : endS cap (s) = (((s).wFrame ((s).frame + 1)).wOver true).wWin (winS (s)) := by unfold endS; rw [if_pos ⟨of_decide_eq_true hk, hq'⟩]
                  rw [e2]
                  simp (maxSteps := 2000000) (disch := omega) only [go_sem, Nat.reduceAdd, Nat.reduceSub, Nat.reduceMul, Nat.reduceBEq, Nat.reduceEqDiff, Nat.reduceLT, Nat.reduceLeDiff, Nat.reduceDiv, reduceIte, reduceCtorEq, hk, hq]
                  refine c_dec (fun w1 => ?_) (fun w1 => ?_)
                  · have e3 : winS (s) = 0 := by unfold winS; rw [if_pos w1]
                    rw [e3]
                    (refine zc ?_; try exact trivial)
                    all_goals exact leCs_refl _
                  · (refine zc ?_; try exact trivial)
                    refine c_dec (fun w2 => ?_) (fun w2 => ?_)
                    · have e3 : winS (s) = 1 := by unfold winS; rw [if_neg w1, if_pos w2]
                      rw [e3]
                      (refine zc ?_; try exact trivial)
                      all_goals exact leCs_refl _
                    · have e3 : winS (s) = 2 := by unfold winS; rw [if_neg w1, if_neg w2]
                      rw [e3]
                      (refine zc ?_; try exact trivial)
                      all_goals exact leCs_refl _
            · rw [if_pos (show E = 0 by omega)]
              (refine zc ?_; try exact trivial)
              have hover : (M.st).over = false ∨ (M.st).over = true := by cases (M.st).over <;> simp
              cases hk : decide (cap ≤ (M.st).frame + 1)
              · have e2 : endS cap (M.st) = (M.st).wFrame ((M.st).frame + 1) := by unfold endS; rw [if_neg (fun h => (of_decide_eq_false hk) h.1)]
                rw [e2]
                simp (maxSteps := 2000000) (disch := omega) only [go_sem, Nat.reduceAdd, Nat.reduceSub, Nat.reduceMul, Nat.reduceBEq, Nat.reduceEqDiff, Nat.reduceLT, Nat.reduceLeDiff, Nat.reduceDiv, reduceIte, reduceCtorEq, hk]
                all_goals exact leCs_refl _
              · cases hq : (!(M.st).over)
                · have e2 : endS cap (M.st) = (M.st).wFrame ((M.st).frame + 1) := by unfold endS; rw [if_neg (fun h => by rw [h.2] at hq; cases hq)]
                  rw [e2]
                  simp (maxSteps := 2000000) (disch := omega) only [go_sem, Nat.reduceAdd, Nat.reduceSub, Nat.reduceMul, Nat.reduceBEq, Nat.reduceEqDiff, Nat.reduceLT, Nat.reduceLeDiff, Nat.reduceDiv, reduceIte, reduceCtorEq, hk, hq]
                  all_goals exact leCs_refl _
                · have hq' : (M.st).over = false := by cases hh : (M.st).over <;> simp_all
                  have e2 : endS cap (M.st) = (((M.st).wFrame ((M.st).frame + 1)).wOver true).wWin (winS (M.st)) := by unfold endS; rw [if_pos ⟨of_decide_eq_true hk, hq'⟩]
                  rw [e2]
                  simp (maxSteps := 2000000) (disch := omega) only [go_sem, Nat.reduceAdd, Nat.reduceSub, Nat.reduceMul, Nat.reduceBEq, Nat.reduceEqDiff, Nat.reduceLT, Nat.reduceLeDiff, Nat.reduceDiv, reduceIte, reduceCtorEq, hk, hq]
                  refine c_dec (fun w1 => ?_) (fun w1 => ?_)
                  · have e3 : winS (M.st) = 0 := by unfold winS; rw [if_pos w1]
                    rw [e3]
                    (refine zc ?_; try exact trivial)
                    all_goals exact leCs_refl _
                  · (refine zc ?_; try exact trivial)
                    refine c_dec (fun w2 => ?_) (fun w2 => ?_)
                    · have e3 : winS (M.st) = 1 := by unfold winS; rw [if_neg w1, if_pos w2]
                      rw [e3]
                      (refine zc ?_; try exact trivial)
                      all_goals exact leCs_refl _
                    · have e3 : winS (M.st) = 2 := by unfold winS; rw [if_neg w1, if_neg w2]
                      rw [e3]
                      (refine zc ?_; try exact trivial)
                      all_goals exact leCs_refl _
          · have e : stepP code cap fuel s i0 i1 = (stz 0 0, 12) := by unfold stepP; rw [if_neg (by rw [hg]; simp), if_neg (by rintro (h | h); rw [hi] at h; cases h; exact hz' h), if_pos (.inr (of_decide_eq_true hf))]
            rw [e]
            simp (maxSteps := 2000000) (disch := omega) only [go_sem, Nat.reduceAdd, Nat.reduceSub, Nat.reduceMul, Nat.reduceBEq, Nat.reduceEqDiff, Nat.reduceLT, Nat.reduceLeDiff, Nat.reduceDiv, reduceIte, reduceCtorEq, hf]
            all_goals exact leCs_refl _
        · have e : stepP code cap fuel s i0 i1 = (stz 0 0, 12) := by unfold stepP; rw [if_neg (by rw [hg]; simp), if_neg (by rintro (h | h); rw [hi] at h; cases h; exact hz' h), if_pos (.inl ho)]
          rw [e]
          simp (maxSteps := 2000000) (disch := omega) only [go_sem, Nat.reduceAdd, Nat.reduceSub, Nat.reduceMul, Nat.reduceBEq, Nat.reduceEqDiff, Nat.reduceLT, Nat.reduceLeDiff, Nat.reduceDiv, reduceIte, reduceCtorEq, ho]
          all_goals exact leCs_refl _
      · have e : stepP code cap fuel s i0 i1 = (stz 0 0, 1) := by unfold stepP; rw [if_neg (by rw [hg]; simp), if_pos (.inr (of_decide_eq_true hz))]
        rw [e]
        simp (maxSteps := 2000000) (disch := omega) only [go_sem, Nat.reduceAdd, Nat.reduceSub, Nat.reduceMul, Nat.reduceBEq, Nat.reduceEqDiff, Nat.reduceLT, Nat.reduceLeDiff, Nat.reduceDiv, reduceIte, reduceCtorEq, hz]
        all_goals exact leCs_refl _
  · have e : stepP code cap fuel s i0 i1 = (stz 0 0, gameP code cap fuel) := by unfold stepP; rw [if_pos hg]
    rw [e]
    have dn : decide (gameP code cap fuel ≠ 0) = true := decide_eq_true hg
    simp (maxSteps := 2000000) (disch := omega) only [go_sem, Nat.reduceAdd, Nat.reduceSub, Nat.reduceMul, Nat.reduceBEq, Nat.reduceEqDiff, Nat.reduceLT, Nat.reduceLeDiff, Nat.reduceDiv, reduceIte, reduceCtorEq, dn]
    all_goals exact leCs_refl _
end Go.Proofs.Ytamcjecgkfmjkaa

/- Chapter 10: the other machine's step. -/
open Go Go.RowKit
namespace Go.Proofs.Ytamcjecgkfmjkaa
set_option linter.unusedSimpArgs false
set_option linter.unusedVariables false
theorem spl_mid {α : Type} : ∀ (p a b q : List α), a.length = b.length → spl (p ++ a ++ q) p.length b = p ++ b ++ q
  | p, [], [], q, _ => rfl
  | p, u :: us, v :: vs, q, h => by
    show spl ((p ++ u :: us ++ q).set p.length v) (p.length + 1) vs = _
    have e1 : (p ++ u :: us ++ q).set p.length v = (p ++ [v]) ++ us ++ q := by simp [List.set_append]
    have e2 := spl_mid (p ++ [v]) us vs q (by simpa using h)
    rw [List.length_append] at e2
    rw [e1]
    refine e2.trans ?_
    simp
  | _, [], _ :: _, _, h => by simp at h
  | _, _ :: _, [], _, h => by simp at h
@[reducible] def Sta.wAll (s t : Sta) : Sta := ⟨s.frame, t.cells, s.seed, s.over, s.win, t.len⟩
@[go_sem] theorem sta_len {s : Sta} : s.cells.length = 16 := nr s.len
@[go_sem 1300] theorem rm_sall {s t : Sta} {i0 i1 : UInt16} {sk : C} {a w : Int} {b : Bool} : spl (rmC s i0 i1 sk a w b) 1 ((c32 t.cells).map D.toC) = rmC (s.wAll t) i0 i1 sk a w b := by
  have h1 : ((c32 t.cells).map D.toC).length = 16 := by simp [c32, t.len]
  have h2 : ((c32 s.cells).map D.toC).length = 16 := by simp [c32, s.len]
  have e : ∀ u : Sta, rmC u i0 i1 sk a w b = [.val (.int .i64 u.frame)] ++ (c32 u.cells).map D.toC ++ ([.val (.int .u32 (U32 u.seed)), .val (.bool u.over), .val (.int .i64 u.win)] ++ [.val (.int .u16 (U16 i0)), .val (.int .u16 (U16 i1)), sk, .val (.int .i64 a), .val (.int .i64 w), .val (.bool b)]) := fun u => by
    unfold rmC sd
    simp [D.toC]
  rw [e, e]
  exact spl_mid [.val (.int .i64 s.frame)] _ _ _ (h2.trans h1.symm)
@[go_sem ↓ 1300] theorem rm_c0 {s : Sta} {i0 i1 : UInt16} {sk : C} {a w : Int} {b : Bool} {K : C → Prop} : (∃ c, (rmC s i0 i1 sk a w b)[1]? = some c ∧ K c) = K (.val (.int .i32 (s.cells.getD 0 0))) := ex_some (rm_gcell (k := 0) (by omega))
@[go_sem ↓ 1300] theorem rm_c1 {s : Sta} {i0 i1 : UInt16} {sk : C} {a w : Int} {b : Bool} {K : C → Prop} : (∃ c, (rmC s i0 i1 sk a w b)[2]? = some c ∧ K c) = K (.val (.int .i32 (s.cells.getD 1 0))) := ex_some (rm_gcell (k := 1) (by omega))
@[go_sem 1300] theorem rm_lit {sk : C} {s : Sta} : spl [.val (.int .i64 0), .val (.int .i32 0), .val (.int .i32 0), .val (.int .i32 0), .val (.int .i32 0), .val (.int .i32 0), .val (.int .i32 0), .val (.int .i32 0), .val (.int .i32 0), .val (.int .i32 0), .val (.int .i32 0), .val (.int .i32 0), .val (.int .i32 0), .val (.int .i32 0), .val (.int .i32 0), .val (.int .i32 0), .val (.int .i32 0), .val (.int .u32 0), .val (.bool false), .val (.int .i64 0), .val (.int .u16 0), .val (.int .u16 0), sk, .val (.int .i64 0), .val (.int .i64 0), .val (.bool false)] 0 ((sd s).map D.toC) = rmC s 0 0 sk 0 0 false := by
  show spl (rmC (stz 0 0) 0 0 sk 0 0 false) 0 ((sd s).map D.toC) = _
  exact rm_ss
set_option maxRecDepth 20000 in
set_option maxHeartbeats 16000000 in
theorem rstep_h (code : List (Int × Int)) (cap fuel : Int) (s : Sta) (i0 i1 : UInt16) (hcl : code.length ≤ 9223372036854775807) (hB : ∀ x ∈ s.cells, B32 x) :
    Holds Try.prog 52 [.game code cap fuel, .agg ((sd s).map D.toC), .agg [.val (.int .u16 (U16 i0)), .val (.int .u16 (U16 i1))]] [] (fun r h' => r = .tup [.agg ((sd (stepP code cap fuel s i0 i1).1).map D.toC), .int .i64 (stepP code cap fuel s i0 i1).2] ∧ h' = []) := by
  have hgc := rcheck10_h code cap fuel hcl
  have his := ris_h s
  refine holds_of_awp Try.func52 rfl (by decide +kernel) mixed Try.ntmps52 Try.results52 ?_
  simp only [entrySt, List.map_cons, List.map_nil, List.length_cons, List.length_nil, Nat.reduceAdd, Nat.reduceSub, List.replicate_succ, List.replicate_zero, List.cons_append, List.nil_append]
  (refine zs ?_; try exact trivial)
  refine a_call [] (hgc) ok0 ?_ ?_ ?_
  · (refine zs ?_; try exact trivial)
  · (refine zs ?_; try exact trivial)
  rintro _ _ ⟨rfl, rfl⟩
  by_cases hg : gameP code cap fuel = 0
  · obtain ⟨g1, g2, g3, g4, g5⟩ := gameP_spec hg
    have hlen := game_len hg
    rw [hg]
    (refine zc ?_; try exact trivial)
    refine a_call [] (his) ok0 ?_ ?_ ?_
    · (refine zs ?_; try exact trivial)
    · (refine zs ?_; try exact trivial)
    rintro _ _ ⟨rfl, rfl⟩
    cases hi : isP s
    · have e : stepP code cap fuel s i0 i1 = (stz 0 0, 1) := by unfold stepP; rw [if_neg (by rw [hg]; simp), if_pos (.inl hi)]
      rw [e]
      (refine zc ?_; try exact trivial)
      all_goals exact leCs_refl _
    · obtain ⟨s1, s2, s3, s4, s5⟩ := isP_spec hi
      (refine zc ?_; try exact trivial)
      cases hz : decide (U32 s.seed = 0)
      · have hz' := of_decide_eq_false hz
        simp (maxSteps := 2000000) (disch := omega) only [go_sem, Nat.reduceAdd, Nat.reduceSub, Nat.reduceMul, Nat.reduceBEq, Nat.reduceEqDiff, Nat.reduceLT, Nat.reduceLeDiff, Nat.reduceDiv, reduceIte, reduceCtorEq, hz]
        cases ho : s.over
        · simp (maxSteps := 2000000) (disch := omega) only [go_sem, Nat.reduceAdd, Nat.reduceSub, Nat.reduceMul, Nat.reduceBEq, Nat.reduceEqDiff, Nat.reduceLT, Nat.reduceLeDiff, Nat.reduceDiv, reduceIte, reduceCtorEq, ho]
          cases hf : decide (cap ≤ s.frame)
          · have hf' := of_decide_eq_false hf
            have hw : s.win = 0 := by rcases s5 with h | h; rw [ho] at h; cases h; exact h
            have e : stepP code cap fuel s i0 i1 = (stepM code cap fuel.toNat s i0 i1, 0) := by unfold stepP; rw [if_neg (by rw [hg]; simp), if_neg (by rintro (h | h); rw [hi] at h; cases h; exact hz' h), if_neg (by rintro (h | h); rw [ho] at h; cases h; exact hf' h)]
            rw [e, ← step_eq g1 ho hw (by omega)]
            clear e
            unfold rstepM
            obtain ⟨R, hR⟩ : ∃ R, rrunM code fuel.toNat (rac0 s i0 i1) = R := ⟨_, rfl⟩
            rw [hR]
            simp (maxSteps := 2000000) (disch := omega) only [go_sem, Nat.reduceAdd, Nat.reduceSub, Nat.reduceMul, Nat.reduceBEq, Nat.reduceEqDiff, Nat.reduceLT, Nat.reduceLeDiff, Nat.reduceDiv, reduceIte, reduceCtorEq, hf]
            refine a_loopk (fun x : Nat × Rac => ⟨[.undef, .undef, .undef, V.cell (.ptr (.loc [3]) 0), V.cell (.ptr (.loc [4]) 0), .undef, V.cell (.ptr (.loc [6]) 0), V.int .i64 0, .undef, V.cell (.ptr (.loc [39]) 0), V.int .i64 (x.1 : Int), .undef, .undef, .undef, .undef, .undef, .undef, .undef, .undef, .undef, .undef, .undef, .undef, .undef, .undef, .undef, .undef, .undef, .undef, .undef, .undef, .undef, .undef, .undef, .undef, .undef, .undef, .undef, .undef, .undef, .undef, .undef, .undef, .undef, .undef, .undef, .undef, .undef, .undef, .undef, .undef, .undef, .undef, .undef, .undef, .undef, .undef, .undef, .undef, .undef, .undef, .undef, .undef, .undef, .undef, .undef, .undef, .undef, .undef, .undef, .undef, .undef, .undef, .undef, .undef, .undef, .undef, .undef, .undef, .undef, .undef, .undef, .undef, .undef, .undef, .undef, .undef, .undef, .undef, .undef, .undef, .undef, .undef, .undef, .undef, .undef, .undef, .undef, .undef, .undef, .undef, .undef, .undef, .undef, .undef, .undef, .undef, .undef, .undef, .undef, .undef, .undef, .undef, .undef, .undef, .undef, .undef, .undef, .undef, .undef, .undef, .undef, .undef, .undef, .undef, .undef, .undef, .undef, .undef, .undef, .undef, .undef, .undef, .undef, .undef, .undef, .undef, .undef, .undef, .undef, .undef, .undef, .undef, .undef, .undef, .undef, .undef, .undef, .undef, .undef, .undef, .undef, .undef, .undef, .undef, .undef, .undef, .undef, .undef, .undef, .undef, .undef, .undef, .undef, .undef, .undef, .undef, .undef, .undef, .undef, .undef, .undef], [(.loc [39], rB (.loc [39]) x.2), (.loc [6], (sd (stz 0 0)).map D.toC), (.loc [4], (sd s).map D.toC), (.loc [3], [.lst .no none 2 (ins code), .val (.int .i64 cap), .val (.int .i64 fuel)])]⟩) (fun x => x.1 ≤ 2000 ∧ okR code.length x.2 ∧ x.2.bad = false ∧ rrunM code x.1 x.2 = R) (fun x => x.1) (fuel.toNat, rac0 s i0 i1) ⟨by omega, ⟨by show (0 : Int) ≤ 0; omega, by show (0 : Int) ≤ _; omega, by show 0 ≤ 32; omega, fun x hx => (by cases hx), hB, s1, s2⟩, rfl, hR⟩ ?_ ?_
            · have ef : ((fuel.toNat : Nat) : Int) = fuel := by omega
              simp only [ef]
              (refine zs ?_; try exact trivial)
              exact rm_le ⟨rfl, rfl, rfl, by simp [leC, c32], rfl, rfl, rfl⟩
            · rintro ⟨f, r⟩ ⟨h1, h2, h3, h4⟩
              simp only at h1 h2 h3 h4 ⊢
              have p0 := h2.pc0
              have p1 := h2.pc1
              have q0 := h2.fr0
              have q1 := h2.fr1
              clear hgc his
              (refine zs ?_; try exact trivial)
              refine a_quiet (by kernel_rfl) (by kernel_rfl) (by kernel_rfl) ?_
              cases d1 : decide (r.pc < (code.length : Int))
              · have hst : R = r := by
                  rw [← h4]
                  cases f with
                  | zero => exact if_neg (of_decide_eq_false d1)
                  | succ f => exact if_neg (of_decide_eq_false d1)
                have hU : undoR s r = r := by unfold undoR; rw [if_neg (by rw [h3]; simp)]
                rw [hst, hU]
                simp (maxSteps := 2000000) (disch := omega) only [go_sem, Nat.reduceAdd, Nat.reduceSub, Nat.reduceMul, Nat.reduceBEq, Nat.reduceEqDiff, Nat.reduceLT, Nat.reduceLeDiff, Nat.reduceDiv, reduceIte, reduceCtorEq, d1]
                simp (maxSteps := 2000000) (disch := omega) only [go_sem, Nat.reduceAdd, Nat.reduceSub, Nat.reduceMul, Nat.reduceBEq, Nat.reduceEqDiff, Nat.reduceLT, Nat.reduceLeDiff, Nat.reduceDiv, reduceIte, reduceCtorEq, h3]
                -- REST r | r.st | r.won | 0
                (refine zc ?_; try exact trivial)
                cases dw : decide ((0 : Int) ≤ r.won)
                · simp (maxSteps := 2000000) (disch := omega) only [go_sem, Nat.reduceAdd, Nat.reduceSub, Nat.reduceMul, Nat.reduceBEq, Nat.reduceEqDiff, Nat.reduceLT, Nat.reduceLeDiff, Nat.reduceDiv, reduceIte, reduceCtorEq, dw]
                  refine a_quiet (by kernel_rfl) (by kernel_rfl) (by kernel_rfl) ?_
                  cases dc : decide (r.st.frame + 1 = cap)
                  · simp (maxSteps := 2000000) (disch := omega) only [go_sem, Nat.reduceAdd, Nat.reduceSub, Nat.reduceMul, Nat.reduceBEq, Nat.reduceEqDiff, Nat.reduceLT, Nat.reduceLeDiff, Nat.reduceDiv, reduceIte, reduceCtorEq, dc]
                    have e : refE cap r = (r.st.wFrame (r.st.frame + 1)) := by unfold refE; rw [if_neg (of_decide_eq_false dw), if_neg (of_decide_eq_false dc)]
                    rw [e]
                    try (refine zc ?_; try exact trivial)
                    all_goals exact leCs_refl _
                  · simp (maxSteps := 2000000) (disch := omega) only [go_sem, Nat.reduceAdd, Nat.reduceSub, Nat.reduceMul, Nat.reduceBEq, Nat.reduceEqDiff, Nat.reduceLT, Nat.reduceLeDiff, Nat.reduceDiv, reduceIte, reduceCtorEq, dc]
                    refine a_quiet (by kernel_rfl) (by kernel_rfl) (by kernel_rfl) ?_
                    (refine zs ?_; try exact trivial)
                    cases de : decide (r.st.cells.getD 0 0 = r.st.cells.getD 1 0)
                    · simp (maxSteps := 2000000) (disch := omega) only [go_sem, Nat.reduceAdd, Nat.reduceSub, Nat.reduceMul, Nat.reduceBEq, Nat.reduceEqDiff, Nat.reduceLT, Nat.reduceLeDiff, Nat.reduceDiv, reduceIte, reduceCtorEq, de]
                      refine a_quiet (by kernel_rfl) (by kernel_rfl) (by kernel_rfl) ?_
                      (refine zs ?_; try exact trivial)
                      cases dl : decide (r.st.cells.getD 0 0 < r.st.cells.getD 1 0)
                      · simp (maxSteps := 2000000) (disch := omega) only [go_sem, Nat.reduceAdd, Nat.reduceSub, Nat.reduceMul, Nat.reduceBEq, Nat.reduceEqDiff, Nat.reduceLT, Nat.reduceLeDiff, Nat.reduceDiv, reduceIte, reduceCtorEq, dl]
                        have e : refE cap r = (r.st.wFrame (r.st.frame + 1)).wOver true := by unfold refE; rw [if_neg (of_decide_eq_false dw), if_pos (of_decide_eq_true dc), if_neg (show ¬ r.st.cells.getD 0 0 = r.st.cells.getD 1 0 from of_decide_eq_false de), if_neg (show ¬ r.st.cells.getD 0 0 < r.st.cells.getD 1 0 from of_decide_eq_false dl)]
                        rw [e]
                        try (refine zc ?_; try exact trivial)
                        all_goals exact leCs_refl _
                      · simp (maxSteps := 2000000) (disch := omega) only [go_sem, Nat.reduceAdd, Nat.reduceSub, Nat.reduceMul, Nat.reduceBEq, Nat.reduceEqDiff, Nat.reduceLT, Nat.reduceLeDiff, Nat.reduceDiv, reduceIte, reduceCtorEq, dl]
                        have e : refE cap r = ((r.st.wFrame (r.st.frame + 1)).wOver true).wWin 1 := by unfold refE; rw [if_neg (of_decide_eq_false dw), if_pos (of_decide_eq_true dc), if_neg (show ¬ r.st.cells.getD 0 0 = r.st.cells.getD 1 0 from of_decide_eq_false de), if_pos (show r.st.cells.getD 0 0 < r.st.cells.getD 1 0 from of_decide_eq_true dl)]
                        rw [e]
                        try (refine zc ?_; try exact trivial)
                        all_goals exact leCs_refl _
                    · simp (maxSteps := 2000000) (disch := omega) only [go_sem, Nat.reduceAdd, Nat.reduceSub, Nat.reduceMul, Nat.reduceBEq, Nat.reduceEqDiff, Nat.reduceLT, Nat.reduceLeDiff, Nat.reduceDiv, reduceIte, reduceCtorEq, de]
                      have e : refE cap r = ((r.st.wFrame (r.st.frame + 1)).wOver true).wWin 2 := by unfold refE; rw [if_neg (of_decide_eq_false dw), if_pos (of_decide_eq_true dc), if_pos (show r.st.cells.getD 0 0 = r.st.cells.getD 1 0 from of_decide_eq_true de)]
                      rw [e]
                      try (refine zc ?_; try exact trivial)
                      all_goals exact leCs_refl _
                · simp (maxSteps := 2000000) (disch := omega) only [go_sem, Nat.reduceAdd, Nat.reduceSub, Nat.reduceMul, Nat.reduceBEq, Nat.reduceEqDiff, Nat.reduceLT, Nat.reduceLeDiff, Nat.reduceDiv, reduceIte, reduceCtorEq, dw]
                  have e : refE cap r = ((r.st.wFrame (r.st.frame + 1)).wOver true).wWin r.won := by unfold refE; rw [if_pos (of_decide_eq_true dw)]
                  rw [e]
                  try (refine zc ?_; try exact trivial)
                  all_goals exact leCs_refl _
                -- END
              · simp (maxSteps := 2000000) (disch := omega) only [go_sem, Nat.reduceAdd, Nat.reduceSub, Nat.reduceMul, Nat.reduceBEq, Nat.reduceEqDiff, Nat.reduceLT, Nat.reduceLeDiff, Nat.reduceDiv, reduceIte, reduceCtorEq, d1]
                refine c_dec (fun g => ?_) (fun g => ?_)
                · (refine zs ?_; try exact trivial)
                  have q3 := h2.fr0
                  refine a_drawC (⟨[.undef, .undef, .undef, V.cell (.ptr (.loc [3]) 0), V.cell (.ptr (.loc [4]) 0), .undef, V.cell (.ptr (.loc [6]) 0), V.int .i64 0, .undef, V.cell (.ptr (.loc [39]) 0), .undef, .undef, .undef, .undef, .undef, .undef, .undef, .undef, .undef, .undef, .undef, .undef, .undef, .undef, .undef, .undef, .undef, .undef, .undef, .undef, .undef, .undef, .undef, .undef, .undef, .undef, .undef, .undef, .undef, .undef, .undef, .undef, .undef, .undef, .undef, .undef, .undef, .undef, .undef, .undef, .undef, .undef, .undef, .undef, .undef, .undef, .undef, .undef, .undef, .undef, .undef, .undef, .undef, .undef, .undef, .undef, .undef, .undef, .undef, .undef, .undef, .undef, .undef, .undef, .undef, .undef, .undef, .undef, .undef, .undef, .undef, .undef, .undef, .undef, .undef, .undef, .undef, .undef, .undef, .undef, .undef, .undef, .undef, .undef, .undef, .undef, .undef, .undef, .undef, .undef, .undef, .undef, .undef, .undef, .undef, .undef, .undef, .undef, .undef, .undef, .undef, .undef, .undef, .undef, .undef, .undef, .undef, .undef, .undef, .undef, .undef, .undef, .undef, .undef, .undef, .undef, .undef, .undef, .undef, .undef, .undef, .undef, .undef, .undef, .undef, .undef, .undef, .undef, .undef, .undef, .undef, .undef, .undef, .undef, .undef, .undef, .undef, .undef, .undef, .undef, .undef, .undef, .undef, .undef, .undef, .undef, .undef, .undef, .undef, .undef, .undef, .undef, .undef, .undef, .undef, .undef, .undef, .undef, .undef, .undef, .undef, .undef], [(.loc [39], rB (.loc [39]) (undoR s (badR r))), (.loc [6], (sd (stz 0 0)).map D.toC), (.loc [4], (sd s).map D.toC), (.loc [3], [.lst .no none 2 (ins code), .val (.int .i64 cap), .val (.int .i64 fuel)])]⟩) (.take 0 (.take 1 (.take 2 (.take 3 (.take 5 (.both [(4, .take 7 (.take 8 (.take 9 (.both [(6, .both [(10, .take 11 (.take 12 (.take 13 (.both [(14, .take 15 (.take 16 (.both [(17, .done)])))]))))]), (10, .both [(6, .take 11 (.take 12 (.take 13 (.both [(14, .take 15 (.take 16 (.both [(17, .done)])))]))))])])))), (6, .both [(4, .take 7 (.take 8 (.take 9 (.both [(10, .take 11 (.take 12 (.take 13 (.both [(14, .take 15 (.take 16 (.both [(17, .done)])))]))))]))))])])))))) (by kernel_rfl) (by kernel_rfl) ?_ ?_
                  · (refine zc ?_; try exact trivial)
                    exact rm_le ⟨rfl, rfl, rfl, leC_refl _, rfl, rfl, rfl⟩
                  · have hU : undoR s (badR r) = ⟨(r.st.wAll s).wSeed s.seed, r.i0, r.i1, r.sk, r.pc, -1, true⟩ := rfl
                    rw [show R = badR r by rw [← h4, show f = 0 by omega]; exact if_pos (of_decide_eq_true d1), hU]
                    have k0 : 0 ≤ ((r.st.wAll s).wSeed s.seed).frame := q0
                    have k1 : ((r.st.wAll s).wSeed s.seed).frame ≤ 600 := q1
                    generalize (r.st.wAll s).wSeed s.seed = st at k0 k1 ⊢
                    -- REST ⟨st, r.i0, r.i1, r.sk, r.pc, -1, true⟩ | st | (-1) | 1
                    (refine zc ?_; try exact trivial)
                    refine a_quiet (by kernel_rfl) (by kernel_rfl) (by kernel_rfl) ?_
                    cases dc : decide (st.frame + 1 = cap)
                    · simp (maxSteps := 2000000) (disch := omega) only [go_sem, Nat.reduceAdd, Nat.reduceSub, Nat.reduceMul, Nat.reduceBEq, Nat.reduceEqDiff, Nat.reduceLT, Nat.reduceLeDiff, Nat.reduceDiv, reduceIte, reduceCtorEq, dc]
                      have e : refE cap ⟨st, r.i0, r.i1, r.sk, r.pc, -1, true⟩ = (st.wFrame (st.frame + 1)) := by unfold refE; rw [if_neg (show ¬ (0 : Int) ≤ -1 by omega), if_neg (of_decide_eq_false dc)]
                      rw [e]
                      try (refine zc ?_; try exact trivial)
                      all_goals exact leCs_refl _
                    · simp (maxSteps := 2000000) (disch := omega) only [go_sem, Nat.reduceAdd, Nat.reduceSub, Nat.reduceMul, Nat.reduceBEq, Nat.reduceEqDiff, Nat.reduceLT, Nat.reduceLeDiff, Nat.reduceDiv, reduceIte, reduceCtorEq, dc]
                      refine a_quiet (by kernel_rfl) (by kernel_rfl) (by kernel_rfl) ?_
                      (refine zs ?_; try exact trivial)
                      cases de : decide (st.cells.getD 0 0 = st.cells.getD 1 0)
                      · simp (maxSteps := 2000000) (disch := omega) only [go_sem, Nat.reduceAdd, Nat.reduceSub, Nat.reduceMul, Nat.reduceBEq, Nat.reduceEqDiff, Nat.reduceLT, Nat.reduceLeDiff, Nat.reduceDiv, reduceIte, reduceCtorEq, de]
                        refine a_quiet (by kernel_rfl) (by kernel_rfl) (by kernel_rfl) ?_
                        (refine zs ?_; try exact trivial)
                        cases dl : decide (st.cells.getD 0 0 < st.cells.getD 1 0)
                        · simp (maxSteps := 2000000) (disch := omega) only [go_sem, Nat.reduceAdd, Nat.reduceSub, Nat.reduceMul, Nat.reduceBEq, Nat.reduceEqDiff, Nat.reduceLT, Nat.reduceLeDiff, Nat.reduceDiv, reduceIte, reduceCtorEq, dl]
                          have e : refE cap ⟨st, r.i0, r.i1, r.sk, r.pc, -1, true⟩ = (st.wFrame (st.frame + 1)).wOver true := by unfold refE; rw [if_neg (show ¬ (0 : Int) ≤ -1 by omega), if_pos (of_decide_eq_true dc), if_neg (show ¬ st.cells.getD 0 0 = st.cells.getD 1 0 from of_decide_eq_false de), if_neg (show ¬ st.cells.getD 0 0 < st.cells.getD 1 0 from of_decide_eq_false dl)]
                          rw [e]
                          try (refine zc ?_; try exact trivial)
                          all_goals exact leCs_refl _
                        · simp (maxSteps := 2000000) (disch := omega) only [go_sem, Nat.reduceAdd, Nat.reduceSub, Nat.reduceMul, Nat.reduceBEq, Nat.reduceEqDiff, Nat.reduceLT, Nat.reduceLeDiff, Nat.reduceDiv, reduceIte, reduceCtorEq, dl]
                          have e : refE cap ⟨st, r.i0, r.i1, r.sk, r.pc, -1, true⟩ = ((st.wFrame (st.frame + 1)).wOver true).wWin 1 := by unfold refE; rw [if_neg (show ¬ (0 : Int) ≤ -1 by omega), if_pos (of_decide_eq_true dc), if_neg (show ¬ st.cells.getD 0 0 = st.cells.getD 1 0 from of_decide_eq_false de), if_pos (show st.cells.getD 0 0 < st.cells.getD 1 0 from of_decide_eq_true dl)]
                          rw [e]
                          try (refine zc ?_; try exact trivial)
                          all_goals exact leCs_refl _
                      · simp (maxSteps := 2000000) (disch := omega) only [go_sem, Nat.reduceAdd, Nat.reduceSub, Nat.reduceMul, Nat.reduceBEq, Nat.reduceEqDiff, Nat.reduceLT, Nat.reduceLeDiff, Nat.reduceDiv, reduceIte, reduceCtorEq, de]
                        have e : refE cap ⟨st, r.i0, r.i1, r.sk, r.pc, -1, true⟩ = ((st.wFrame (st.frame + 1)).wOver true).wWin 2 := by unfold refE; rw [if_neg (show ¬ (0 : Int) ≤ -1 by omega), if_pos (of_decide_eq_true dc), if_pos (show st.cells.getD 0 0 = st.cells.getD 1 0 from of_decide_eq_true de)]
                        rw [e]
                        try (refine zc ?_; try exact trivial)
                        all_goals exact leCs_refl _
                    -- END
                · obtain ⟨f, rfl⟩ : ∃ f', f = f' + 1 := ⟨f - 1, by omega⟩
                  have hlt := of_decide_eq_true d1
                  have hpc : r.pc.toNat < code.length := by omega
                  have hmay := chk_all g1 hpc
                  have hd := does_h _ _ code.length r hmay (by have := h2.len; omega) ⟨p0, by omega⟩ h2.sk q0 q1
                  have hk := h2.do hlt hmay
                  (refine zs ?_; try exact trivial)
                  refine a_drawC (⟨[.undef, .undef, .undef, V.cell (.ptr (.loc [3]) 0), V.cell (.ptr (.loc [4]) 0), .undef, V.cell (.ptr (.loc [6]) 0), V.int .i64 0, .undef, V.cell (.ptr (.loc [39]) 0), V.int .i64 (f : Int), .undef, .undef, .undef, .undef, .undef, .undef, .undef, .undef, .undef, .undef, .undef, .undef, .undef, .undef, .undef, .undef, .undef, .undef, .undef, .undef, .undef, .undef, .undef, .undef, .undef, .undef, .undef, .undef, .undef, .undef, .undef, .undef, .undef, .undef, .undef, .undef, .undef, .undef, .undef, .undef, .undef, .undef, .undef, .undef, .undef, .undef, .undef, .undef, .undef, .undef, .undef, .undef, .undef, .undef, .undef, .undef, .undef, .undef, .undef, V.bool (!rdoB (gi code r.pc.toNat).1 (gi code r.pc.toNat).2 code.length r), .undef, .undef, .undef, .undef, .undef, .undef, .undef, .undef, .undef, .undef, .undef, .undef, .undef, .undef, .undef, .undef, .undef, .undef, .undef, .undef, .undef, .undef, .undef, .undef, .undef, .undef, .undef, .undef, .undef, .undef, .undef, .undef, .undef, .undef, .undef, .undef, .undef, .undef, .undef, .undef, .undef, .undef, .undef, .undef, .undef, .undef, .undef, .undef, .undef, .undef, .undef, .undef, .undef, .undef, .undef, .undef, .undef, .undef, .undef, .undef, .undef, .undef, .undef, .undef, .undef, .undef, .undef, .undef, .undef, .undef, .undef, .undef, .undef, .undef, .undef, .undef, .undef, .undef, .undef, .undef, .undef, .undef, .undef, .undef, .undef, .undef, .undef, .undef, .undef, .undef, .undef, .undef, .undef, .undef, .undef, .undef, .undef, .undef, .undef, .undef, .undef], [(.loc [39], rB (.loc [39]) (rdoM (gi code r.pc.toNat).1 (gi code r.pc.toNat).2 r)), (.loc [6], (sd (stz 0 0)).map D.toC), (.loc [4], (sd s).map D.toC), (.loc [3], [.lst .no none 2 (ins code), .val (.int .i64 cap), .val (.int .i64 fuel)])]⟩) (.take 0 (.take 1 (.take 3 (.take 4 (.take 5 (.take 9 (.both [(2, .both [(6, .take 7 (.both [(8, .both [(10, .take 11 (.both [(12, .take 13 (.done))]))]), (10, .take 11 (.both [(8, .both [(12, .take 13 (.done))])]))])), (10, .take 11 (.both [(6, .take 7 (.both [(8, .both [(12, .take 13 (.done))])]))]))]), (6, .both [(2, .take 7 (.both [(8, .both [(10, .take 11 (.both [(12, .take 13 (.done))]))]), (10, .take 11 (.both [(8, .both [(12, .take 13 (.done))])]))])), (10, .take 11 (.both [(2, .take 7 (.both [(8, .both [(12, .take 13 (.done))])]))]))]), (10, .take 11 (.both [(2, .both [(6, .take 7 (.both [(8, .both [(12, .take 13 (.done))])]))]), (6, .both [(2, .take 7 (.both [(8, .both [(12, .take 13 (.done))])]))])]))]))))))) (by kernel_rfl) (by kernel_rfl) ?_ ?_
                  · (refine zc ?_; try exact trivial)
                    repeat' (with_reducible apply And.intro)
                    all_goals (
                      refine a_call [.loc [39]] (hd) (ok1 rfl) ?_ ?_ ?_
                      · (refine zs ?_; try exact trivial)
                      · (refine zs ?_; try exact trivial)
                      rintro _ _ ⟨rfl, rfl⟩
                      (refine zs ?_; try exact trivial)
                      all_goals first | exact leCs_refl _ | (congr 1; omega))
                  · cases hb : rdoB (gi code r.pc.toNat).1 (gi code r.pc.toNat).2 code.length r
                    · simp (maxSteps := 2000000) (disch := omega) only [go_sem, Nat.reduceAdd, Nat.reduceSub, Nat.reduceMul, Nat.reduceBEq, Nat.reduceEqDiff, Nat.reduceLT, Nat.reduceLeDiff, Nat.reduceDiv, reduceIte, reduceCtorEq, hb, Bool.not_false]
                      have hR2 : R = rdoM (gi code r.pc.toNat).1 (gi code r.pc.toNat).2 r := by rw [← h4]; unfold rrunM; rw [if_pos hlt, if_neg (by rw [hb]; simp)]
                      clear hd
                      generalize rdoM (gi code r.pc.toNat).1 (gi code r.pc.toNat).2 r = r2 at hk hR2 ⊢
                      have hst : R = r2 := hR2
                      have k0 := hk.fr0
                      have k1 := hk.fr1
                      rw [hst]
                      cases dB : r2.bad
                      · have hU : undoR s r2 = r2 := by unfold undoR; rw [if_neg (by rw [dB]; simp)]
                        rw [hU]
                        simp (maxSteps := 2000000) (disch := omega) only [go_sem, Nat.reduceAdd, Nat.reduceSub, Nat.reduceMul, Nat.reduceBEq, Nat.reduceEqDiff, Nat.reduceLT, Nat.reduceLeDiff, Nat.reduceDiv, reduceIte, reduceCtorEq, dB]
                        -- REST r2 | r2.st | r2.won | 0
                        (refine zc ?_; try exact trivial)
                        cases dw : decide ((0 : Int) ≤ r2.won)
                        · simp (maxSteps := 2000000) (disch := omega) only [go_sem, Nat.reduceAdd, Nat.reduceSub, Nat.reduceMul, Nat.reduceBEq, Nat.reduceEqDiff, Nat.reduceLT, Nat.reduceLeDiff, Nat.reduceDiv, reduceIte, reduceCtorEq, dw]
                          refine a_quiet (by kernel_rfl) (by kernel_rfl) (by kernel_rfl) ?_
                          cases dc : decide (r2.st.frame + 1 = cap)
                          · simp (maxSteps := 2000000) (disch := omega) only [go_sem, Nat.reduceAdd, Nat.reduceSub, Nat.reduceMul, Nat.reduceBEq, Nat.reduceEqDiff, Nat.reduceLT, Nat.reduceLeDiff, Nat.reduceDiv, reduceIte, reduceCtorEq, dc]
                            have e : refE cap r2 = (r2.st.wFrame (r2.st.frame + 1)) := by unfold refE; rw [if_neg (of_decide_eq_false dw), if_neg (of_decide_eq_false dc)]
                            rw [e]
                            try (refine zc ?_; try exact trivial)
                            all_goals exact leCs_refl _
                          · simp (maxSteps := 2000000) (disch := omega) only [go_sem, Nat.reduceAdd, Nat.reduceSub, Nat.reduceMul, Nat.reduceBEq, Nat.reduceEqDiff, Nat.reduceLT, Nat.reduceLeDiff, Nat.reduceDiv, reduceIte, reduceCtorEq, dc]
                            refine a_quiet (by kernel_rfl) (by kernel_rfl) (by kernel_rfl) ?_
                            (refine zs ?_; try exact trivial)
                            cases de : decide (r2.st.cells.getD 0 0 = r2.st.cells.getD 1 0)
                            · simp (maxSteps := 2000000) (disch := omega) only [go_sem, Nat.reduceAdd, Nat.reduceSub, Nat.reduceMul, Nat.reduceBEq, Nat.reduceEqDiff, Nat.reduceLT, Nat.reduceLeDiff, Nat.reduceDiv, reduceIte, reduceCtorEq, de]
                              refine a_quiet (by kernel_rfl) (by kernel_rfl) (by kernel_rfl) ?_
                              (refine zs ?_; try exact trivial)
                              cases dl : decide (r2.st.cells.getD 0 0 < r2.st.cells.getD 1 0)
                              · simp (maxSteps := 2000000) (disch := omega) only [go_sem, Nat.reduceAdd, Nat.reduceSub, Nat.reduceMul, Nat.reduceBEq, Nat.reduceEqDiff, Nat.reduceLT, Nat.reduceLeDiff, Nat.reduceDiv, reduceIte, reduceCtorEq, dl]
                                have e : refE cap r2 = (r2.st.wFrame (r2.st.frame + 1)).wOver true := by unfold refE; rw [if_neg (of_decide_eq_false dw), if_pos (of_decide_eq_true dc), if_neg (show ¬ r2.st.cells.getD 0 0 = r2.st.cells.getD 1 0 from of_decide_eq_false de), if_neg (show ¬ r2.st.cells.getD 0 0 < r2.st.cells.getD 1 0 from of_decide_eq_false dl)]
                                rw [e]
                                try (refine zc ?_; try exact trivial)
                                all_goals exact leCs_refl _
                              · simp (maxSteps := 2000000) (disch := omega) only [go_sem, Nat.reduceAdd, Nat.reduceSub, Nat.reduceMul, Nat.reduceBEq, Nat.reduceEqDiff, Nat.reduceLT, Nat.reduceLeDiff, Nat.reduceDiv, reduceIte, reduceCtorEq, dl]
                                have e : refE cap r2 = ((r2.st.wFrame (r2.st.frame + 1)).wOver true).wWin 1 := by unfold refE; rw [if_neg (of_decide_eq_false dw), if_pos (of_decide_eq_true dc), if_neg (show ¬ r2.st.cells.getD 0 0 = r2.st.cells.getD 1 0 from of_decide_eq_false de), if_pos (show r2.st.cells.getD 0 0 < r2.st.cells.getD 1 0 from of_decide_eq_true dl)]
                                rw [e]
                                try (refine zc ?_; try exact trivial)
                                all_goals exact leCs_refl _
                            · simp (maxSteps := 2000000) (disch := omega) only [go_sem, Nat.reduceAdd, Nat.reduceSub, Nat.reduceMul, Nat.reduceBEq, Nat.reduceEqDiff, Nat.reduceLT, Nat.reduceLeDiff, Nat.reduceDiv, reduceIte, reduceCtorEq, de]
                              have e : refE cap r2 = ((r2.st.wFrame (r2.st.frame + 1)).wOver true).wWin 2 := by unfold refE; rw [if_neg (of_decide_eq_false dw), if_pos (of_decide_eq_true dc), if_pos (show r2.st.cells.getD 0 0 = r2.st.cells.getD 1 0 from of_decide_eq_true de)]
                              rw [e]
                              try (refine zc ?_; try exact trivial)
                              all_goals exact leCs_refl _
                        · simp (maxSteps := 2000000) (disch := omega) only [go_sem, Nat.reduceAdd, Nat.reduceSub, Nat.reduceMul, Nat.reduceBEq, Nat.reduceEqDiff, Nat.reduceLT, Nat.reduceLeDiff, Nat.reduceDiv, reduceIte, reduceCtorEq, dw]
                          have e : refE cap r2 = ((r2.st.wFrame (r2.st.frame + 1)).wOver true).wWin r2.won := by unfold refE; rw [if_pos (of_decide_eq_true dw)]
                          rw [e]
                          try (refine zc ?_; try exact trivial)
                          all_goals exact leCs_refl _
                        -- END
                      · have hU : undoR s r2 = ⟨(r2.st.wAll s).wSeed s.seed, r2.i0, r2.i1, r2.sk, r2.pc, -1, true⟩ := by unfold undoR; rw [if_pos dB, dB]; rfl
                        rw [hU]
                        simp (maxSteps := 2000000) (disch := omega) only [go_sem, Nat.reduceAdd, Nat.reduceSub, Nat.reduceMul, Nat.reduceBEq, Nat.reduceEqDiff, Nat.reduceLT, Nat.reduceLeDiff, Nat.reduceDiv, reduceIte, reduceCtorEq, dB]
                        refine a_drawC (⟨[.undef, .undef, .undef, V.cell (.ptr (.loc [3]) 0), V.cell (.ptr (.loc [4]) 0), .undef, V.cell (.ptr (.loc [6]) 0), V.int .i64 0, .undef, V.cell (.ptr (.loc [39]) 0), .undef, .undef, .undef, .undef, .undef, .undef, .undef, .undef, .undef, .undef, .undef, .undef, .undef, .undef, .undef, .undef, .undef, .undef, .undef, .undef, .undef, .undef, .undef, .undef, .undef, .undef, .undef, .undef, .undef, .undef, .undef, .undef, .undef, .undef, .undef, .undef, .undef, .undef, .undef, .undef, .undef, .undef, .undef, .undef, .undef, .undef, .undef, .undef, .undef, .undef, .undef, .undef, .undef, .undef, .undef, .undef, .undef, .undef, .undef, .undef, .undef, .undef, .undef, .undef, .undef, .undef, .undef, .undef, .undef, .undef, .undef, .undef, .undef, .undef, .undef, .undef, .undef, .undef, .undef, .undef, .undef, .undef, .undef, .undef, .undef, .undef, .undef, .undef, .undef, .undef, .undef, .undef, .undef, .undef, .undef, .undef, .undef, .undef, .undef, .undef, .undef, .undef, .undef, .undef, .undef, .undef, .undef, .undef, .undef, .undef, .undef, .undef, .undef, .undef, .undef, .undef, .undef, .undef, .undef, .undef, .undef, .undef, .undef, .undef, .undef, .undef, .undef, .undef, .undef, .undef, .undef, .undef, .undef, .undef, .undef, .undef, .undef, .undef, .undef, .undef, .undef, .undef, .undef, .undef, .undef, .undef, .undef, .undef, .undef, .undef, .undef, .undef, .undef, .undef, .undef, .undef, .undef, .undef, .undef, .undef, .undef, .undef], [(.loc [39], rB (.loc [39]) ⟨(r2.st.wAll s).wSeed s.seed, r2.i0, r2.i1, r2.sk, r2.pc, -1, true⟩), (.loc [6], (sd (stz 0 0)).map D.toC), (.loc [4], (sd s).map D.toC), (.loc [3], [.lst .no none 2 (ins code), .val (.int .i64 cap), .val (.int .i64 fuel)])]⟩) (.take 0 (.take 1 (.take 2 (.take 3 (.take 5 (.both [(4, .take 7 (.take 8 (.take 9 (.both [(6, .both [(10, .take 11 (.take 12 (.take 13 (.both [(14, .take 15 (.take 16 (.both [(17, .done)])))]))))]), (10, .both [(6, .take 11 (.take 12 (.take 13 (.both [(14, .take 15 (.take 16 (.both [(17, .done)])))]))))])])))), (6, .both [(4, .take 7 (.take 8 (.take 9 (.both [(10, .take 11 (.take 12 (.take 13 (.both [(14, .take 15 (.take 16 (.both [(17, .done)])))]))))]))))])])))))) (by kernel_rfl) (by kernel_rfl) ?_ ?_
                        · (refine zc ?_; try exact trivial)
                          all_goals exact rm_le ⟨rfl, rfl, rfl, leC_refl _, rfl, rfl, by first | rfl | exact dB.symm⟩
                        · have k0 : 0 ≤ ((r2.st.wAll s).wSeed s.seed).frame := k0
                          have k1 : ((r2.st.wAll s).wSeed s.seed).frame ≤ 600 := k1
                          generalize (r2.st.wAll s).wSeed s.seed = st at k0 k1 ⊢
                          -- REST ⟨st, r2.i0, r2.i1, r2.sk, r2.pc, -1, true⟩ | st | (-1) | 1
                          (refine zc ?_; try exact trivial)
                          refine a_quiet (by kernel_rfl) (by kernel_rfl) (by kernel_rfl) ?_
                          cases dc : decide (st.frame + 1 = cap)
                          · simp (maxSteps := 2000000) (disch := omega) only [go_sem, Nat.reduceAdd, Nat.reduceSub, Nat.reduceMul, Nat.reduceBEq, Nat.reduceEqDiff, Nat.reduceLT, Nat.reduceLeDiff, Nat.reduceDiv, reduceIte, reduceCtorEq, dc]
                            have e : refE cap ⟨st, r2.i0, r2.i1, r2.sk, r2.pc, -1, true⟩ = (st.wFrame (st.frame + 1)) := by unfold refE; rw [if_neg (show ¬ (0 : Int) ≤ -1 by omega), if_neg (of_decide_eq_false dc)]
                            rw [e]
                            try (refine zc ?_; try exact trivial)
                            all_goals exact leCs_refl _
                          · simp (maxSteps := 2000000) (disch := omega) only [go_sem, Nat.reduceAdd, Nat.reduceSub, Nat.reduceMul, Nat.reduceBEq, Nat.reduceEqDiff, Nat.reduceLT, Nat.reduceLeDiff, Nat.reduceDiv, reduceIte, reduceCtorEq, dc]
                            refine a_quiet (by kernel_rfl) (by kernel_rfl) (by kernel_rfl) ?_
                            (refine zs ?_; try exact trivial)
                            cases de : decide (st.cells.getD 0 0 = st.cells.getD 1 0)
                            · simp (maxSteps := 2000000) (disch := omega) only [go_sem, Nat.reduceAdd, Nat.reduceSub, Nat.reduceMul, Nat.reduceBEq, Nat.reduceEqDiff, Nat.reduceLT, Nat.reduceLeDiff, Nat.reduceDiv, reduceIte, reduceCtorEq, de]
                              refine a_quiet (by kernel_rfl) (by kernel_rfl) (by kernel_rfl) ?_
                              (refine zs ?_; try exact trivial)
                              cases dl : decide (st.cells.getD 0 0 < st.cells.getD 1 0)
                              · simp (maxSteps := 2000000) (disch := omega) only [go_sem, Nat.reduceAdd, Nat.reduceSub, Nat.reduceMul, Nat.reduceBEq, Nat.reduceEqDiff, Nat.reduceLT, Nat.reduceLeDiff, Nat.reduceDiv, reduceIte, reduceCtorEq, dl]
                                have e : refE cap ⟨st, r2.i0, r2.i1, r2.sk, r2.pc, -1, true⟩ = (st.wFrame (st.frame + 1)).wOver true := by unfold refE; rw [if_neg (show ¬ (0 : Int) ≤ -1 by omega), if_pos (of_decide_eq_true dc), if_neg (show ¬ st.cells.getD 0 0 = st.cells.getD 1 0 from of_decide_eq_false de), if_neg (show ¬ st.cells.getD 0 0 < st.cells.getD 1 0 from of_decide_eq_false dl)]
                                rw [e]
                                try (refine zc ?_; try exact trivial)
                                all_goals exact leCs_refl _
                              · simp (maxSteps := 2000000) (disch := omega) only [go_sem, Nat.reduceAdd, Nat.reduceSub, Nat.reduceMul, Nat.reduceBEq, Nat.reduceEqDiff, Nat.reduceLT, Nat.reduceLeDiff, Nat.reduceDiv, reduceIte, reduceCtorEq, dl]
                                have e : refE cap ⟨st, r2.i0, r2.i1, r2.sk, r2.pc, -1, true⟩ = ((st.wFrame (st.frame + 1)).wOver true).wWin 1 := by unfold refE; rw [if_neg (show ¬ (0 : Int) ≤ -1 by omega), if_pos (of_decide_eq_true dc), if_neg (show ¬ st.cells.getD 0 0 = st.cells.getD 1 0 from of_decide_eq_false de), if_pos (show st.cells.getD 0 0 < st.cells.getD 1 0 from of_decide_eq_true dl)]
                                rw [e]
                                try (refine zc ?_; try exact trivial)
                                all_goals exact leCs_refl _
                            · simp (maxSteps := 2000000) (disch := omega) only [go_sem, Nat.reduceAdd, Nat.reduceSub, Nat.reduceMul, Nat.reduceBEq, Nat.reduceEqDiff, Nat.reduceLT, Nat.reduceLeDiff, Nat.reduceDiv, reduceIte, reduceCtorEq, de]
                              have e : refE cap ⟨st, r2.i0, r2.i1, r2.sk, r2.pc, -1, true⟩ = ((st.wFrame (st.frame + 1)).wOver true).wWin 2 := by unfold refE; rw [if_neg (show ¬ (0 : Int) ≤ -1 by omega), if_pos (of_decide_eq_true dc), if_pos (show st.cells.getD 0 0 = st.cells.getD 1 0 from of_decide_eq_true de)]
                              rw [e]
                              try (refine zc ?_; try exact trivial)
                              all_goals exact leCs_refl _
                          -- END
                    · simp (maxSteps := 2000000) (disch := omega) only [go_sem, Nat.reduceAdd, Nat.reduceSub, Nat.reduceMul, Nat.reduceBEq, Nat.reduceEqDiff, Nat.reduceLT, Nat.reduceLeDiff, Nat.reduceDiv, reduceIte, reduceCtorEq, hb, Bool.not_true]
                      refine ⟨(f, rdoM (gi code r.pc.toNat).1 (gi code r.pc.toNat).2 r), by simp, ⟨by simp; omega, hk, ?_, ?_⟩, rfl, leCs_refl _⟩
                      · unfold rdoB at hb
                        split at hb
                        · cases hb
                        · unfold goB at hb
                          simpa using (Bool.and_eq_true_iff.1 hb).1
                      · show rrunM code f _ = R
                        rw [← h4]
                        exact ((if_pos hlt).trans (if_pos hb)).symm
          · have e : stepP code cap fuel s i0 i1 = (stz 0 0, 12) := by unfold stepP; rw [if_neg (by rw [hg]; simp), if_neg (by rintro (h | h); rw [hi] at h; cases h; exact hz' h), if_pos (.inr (of_decide_eq_true hf))]
            rw [e]
            simp (maxSteps := 2000000) (disch := omega) only [go_sem, Nat.reduceAdd, Nat.reduceSub, Nat.reduceMul, Nat.reduceBEq, Nat.reduceEqDiff, Nat.reduceLT, Nat.reduceLeDiff, Nat.reduceDiv, reduceIte, reduceCtorEq, hf]
            all_goals exact leCs_refl _
        · have e : stepP code cap fuel s i0 i1 = (stz 0 0, 12) := by unfold stepP; rw [if_neg (by rw [hg]; simp), if_neg (by rintro (h | h); rw [hi] at h; cases h; exact hz' h), if_pos (.inl ho)]
          rw [e]
          simp (maxSteps := 2000000) (disch := omega) only [go_sem, Nat.reduceAdd, Nat.reduceSub, Nat.reduceMul, Nat.reduceBEq, Nat.reduceEqDiff, Nat.reduceLT, Nat.reduceLeDiff, Nat.reduceDiv, reduceIte, reduceCtorEq, ho]
          all_goals exact leCs_refl _
      · have e : stepP code cap fuel s i0 i1 = (stz 0 0, 1) := by unfold stepP; rw [if_neg (by rw [hg]; simp), if_pos (.inr (of_decide_eq_true hz))]
        rw [e]
        simp (maxSteps := 2000000) (disch := omega) only [go_sem, Nat.reduceAdd, Nat.reduceSub, Nat.reduceMul, Nat.reduceBEq, Nat.reduceEqDiff, Nat.reduceLT, Nat.reduceLeDiff, Nat.reduceDiv, reduceIte, reduceCtorEq, hz]
        all_goals exact leCs_refl _
  · have e : stepP code cap fuel s i0 i1 = (stz 0 0, gameP code cap fuel) := by unfold stepP; rw [if_pos hg]
    rw [e]
    have dg : decide (gameP code cap fuel = 0) = false := decide_eq_false hg
    simp (maxSteps := 2000000) (disch := omega) only [go_sem, Nat.reduceAdd, Nat.reduceSub, Nat.reduceMul, Nat.reduceBEq, Nat.reduceEqDiff, Nat.reduceLT, Nat.reduceLeDiff, Nat.reduceDiv, reduceIte, reduceCtorEq, dg, Bool.not_false, decide_not]
    all_goals trace_state
end Go.Proofs.Ytamcjecgkfmjkaa

/- Chapter 18: what a player does. -/
open Go Go.RowKit
namespace Go.Proofs.Ytamcjecgkfmjkaa
set_option linter.unusedSimpArgs false
set_option linter.unusedVariables false
@[go_sem ↓ 1200] theorem e_fU {l : List UInt16} {i : Nat} {K : C → Prop} (h : i < l.length) : (∃ c, ((ls fU (l.drop i)).map D.toC)[0]? = some c ∧ K c) = K (.val (.int .u16 (U16 (l.getD i 0)))) := by
  apply ex_some
  rw [List.getElem?_map]
  simp [ls, h, fU, D.toC]
/-- may a player do this, who did mine? -/
def winP (cap : Int) (mine other : List UInt16) (e : Ev) : Int :=
  if e.frame < 0 ∨ cap ≤ e.frame then 1
  else if e.frame < (mine.length : Int) ∧ U16 (mine.getD e.frame.toNat 0) = U16 e.inp then 8
  else if e.frame < (mine.length : Int) then 18
  else if (mine.length : Int) < e.frame ∨ 8 ≤ (mine.length : Int) - (other.length : Int) then 13 else 0
def mayInputP (c : Ct) (e : Ev) : Int := if actP c e.player ≠ 0 then actP c e.player else if seatP c e.player = 0 then winP c.cap c.in0 c.in1 e else winP c.cap c.in1 c.in0 e
set_option maxHeartbeats 4000000 in
theorem mayInput_h (c : Ct) (e : Ev) (h0 : c.in0.length ≤ 1000000) (h1 : c.in1.length ≤ 1000000) : Holds Try.prog 42 [.ptr (.arg 0) 0, .ev e] [(.arg 0, ctB (.arg 0) c)] (fun r h' => r = .int .i64 (mayInputP c e) ∧ h' = [(.arg 0, ctB (.arg 0) c)]) := by
  refine holds_of_awp Try.func42 rfl (by decide +kernel) mixed Try.ntmps42 Try.results42 ?_
  simp only [entrySt, List.map_cons, List.map_nil, List.length_cons, List.length_nil, Nat.reduceAdd, Nat.reduceSub, List.replicate_succ, List.replicate_zero, List.cons_append, List.nil_append]
  (refine zs ?_; try exact trivial)
  refine a_call [.arg 0] (mayAct_h c e) (ok1 rfl) ?_ ?_ ?_
  · (refine zs ?_; try exact trivial)
  · (refine zs ?_; try exact trivial)
  rintro _ _ ⟨rfl, rfl⟩
  (refine zs ?_; try exact trivial)
  refine c_dec (fun h => ?_) (fun h => ?_)
  · have e1 : mayInputP c e = actP c e.player := by unfold mayInputP; rw [if_pos h]
    rw [e1]
    (refine zs ?_; try exact trivial)
  · have ha : ¬ actP c e.player ≠ 0 := h
    have hs := act_seat (c := c) (x := e.player) (by omega)
    (refine zs ?_; try exact trivial)
    refine a_call [.arg 0] (seat_h c e.player) (ok1 rfl) ?_ ?_ ?_
    · (refine zs ?_; try exact trivial)
    · (refine zs ?_; try exact trivial)
    rintro _ _ ⟨rfl, rfl⟩
    rcases seat_cases c e.player hs with q | q
    · have e1 : mayInputP c e = winP c.cap c.in0 c.in1 e := by unfold mayInputP; rw [if_neg ha, if_pos q]
      rw [e1, q]
      (refine zc ?_; try exact trivial)
      refine a_quiet (by kernel_rfl) (by kernel_rfl) (by kernel_rfl) ?_
      (refine zc ?_; try exact trivial)
      refine a_quiet (by kernel_rfl) (by kernel_rfl) (by kernel_rfl) ?_
      cases g1 : decide (e.frame < 0)
      · have f1 := of_decide_eq_false g1
        simp (maxSteps := 2000000) (disch := omega) only [go_sem, Nat.reduceAdd, Nat.reduceSub, Nat.reduceMul, Nat.reduceBEq, Nat.reduceEqDiff, Nat.reduceLT, Nat.reduceLeDiff, Nat.reduceDiv, reduceIte, reduceCtorEq, g1]
        refine c_dec (fun g2 => ?_) (fun g2 => ?_)
        · have e2 : winP c.cap c.in0 c.in1 e = 1 := by unfold winP; rw [if_pos (.inr g2)]
          rw [e2]
          (refine zs ?_; try exact trivial)
        · have n1 : ¬ (e.frame < 0 ∨ c.cap ≤ e.frame) := by omega
          (refine zs ?_; try exact trivial)
          refine a_quiet (by kernel_rfl) (by kernel_rfl) (by kernel_rfl) ?_
          cases g3 : decide (e.frame < (c.in0.length : Int))
          · have f3 := of_decide_eq_false g3
            simp (maxSteps := 2000000) (disch := omega) only [go_sem, Nat.reduceAdd, Nat.reduceSub, Nat.reduceMul, Nat.reduceBEq, Nat.reduceEqDiff, Nat.reduceLT, Nat.reduceLeDiff, Nat.reduceDiv, reduceIte, reduceCtorEq, g3]
            have n2 : ¬ (e.frame < (c.in0.length : Int) ∧ U16 (c.in0.getD e.frame.toNat 0) = U16 e.inp) := fun h => f3 h.1
            cases g4 : decide ((c.in0.length : Int) < e.frame)
            · have f4 := of_decide_eq_false g4
              simp (maxSteps := 2000000) (disch := omega) only [go_sem, Nat.reduceAdd, Nat.reduceSub, Nat.reduceMul, Nat.reduceBEq, Nat.reduceEqDiff, Nat.reduceLT, Nat.reduceLeDiff, Nat.reduceDiv, reduceIte, reduceCtorEq, g4]
              refine c_dec (fun g5 => ?_) (fun g5 => ?_)
              · have e2 : winP c.cap c.in0 c.in1 e = 13 := by unfold winP; rw [if_neg n1, if_neg n2, if_neg f3, if_pos (.inr g5)]
                rw [e2]
                (refine zs ?_; try exact trivial)
              · have e2 : winP c.cap c.in0 c.in1 e = 0 := by unfold winP; rw [if_neg n1, if_neg n2, if_neg f3, if_neg (by omega)]
                rw [e2]
                (refine zs ?_; try exact trivial)
            · have f4 := of_decide_eq_true g4
              have e2 : winP c.cap c.in0 c.in1 e = 13 := by unfold winP; rw [if_neg n1, if_neg n2, if_neg f3, if_pos (.inl f4)]
              rw [e2]
              simp (maxSteps := 2000000) (disch := omega) only [go_sem, Nat.reduceAdd, Nat.reduceSub, Nat.reduceMul, Nat.reduceBEq, Nat.reduceEqDiff, Nat.reduceLT, Nat.reduceLeDiff, Nat.reduceDiv, reduceIte, reduceCtorEq, g4]
          · have f3 := of_decide_eq_true g3
            simp (maxSteps := 2000000) (disch := omega) only [go_sem, Nat.reduceAdd, Nat.reduceSub, Nat.reduceMul, Nat.reduceBEq, Nat.reduceEqDiff, Nat.reduceLT, Nat.reduceLeDiff, Nat.reduceDiv, reduceIte, reduceCtorEq, g3]
            refine c_dec (fun g4 => ?_) (fun g4 => ?_)
            · have e2 : winP c.cap c.in0 c.in1 e = 8 := by unfold winP; rw [if_neg n1, if_pos ⟨f3, g4⟩]
              rw [e2]
              (refine zs ?_; try exact trivial)
            · have e2 : winP c.cap c.in0 c.in1 e = 18 := by unfold winP; rw [if_neg n1, if_neg (fun h => g4 h.2), if_pos f3]
              rw [e2]
              simp (maxSteps := 2000000) (disch := omega) only [go_sem, Nat.reduceAdd, Nat.reduceSub, Nat.reduceMul, Nat.reduceBEq, Nat.reduceEqDiff, Nat.reduceLT, Nat.reduceLeDiff, Nat.reduceDiv, reduceIte, reduceCtorEq, g3]
      · have f1 := of_decide_eq_true g1
        have e2 : winP c.cap c.in0 c.in1 e = 1 := by unfold winP; rw [if_pos (.inl f1)]
        rw [e2]
        simp (maxSteps := 2000000) (disch := omega) only [go_sem, Nat.reduceAdd, Nat.reduceSub, Nat.reduceMul, Nat.reduceBEq, Nat.reduceEqDiff, Nat.reduceLT, Nat.reduceLeDiff, Nat.reduceDiv, reduceIte, reduceCtorEq, g1]
    · have e1 : mayInputP c e = winP c.cap c.in1 c.in0 e := by unfold mayInputP; rw [if_neg ha, if_neg (show ¬ seatP c e.player = 0 by omega)]
      rw [e1, q]
      (refine zc ?_; try exact trivial)
      refine a_quiet (by kernel_rfl) (by kernel_rfl) (by kernel_rfl) ?_
      (refine zc ?_; try exact trivial)
      refine a_quiet (by kernel_rfl) (by kernel_rfl) (by kernel_rfl) ?_
      cases g1 : decide (e.frame < 0)
      · have f1 := of_decide_eq_false g1
        simp (maxSteps := 2000000) (disch := omega) only [go_sem, Nat.reduceAdd, Nat.reduceSub, Nat.reduceMul, Nat.reduceBEq, Nat.reduceEqDiff, Nat.reduceLT, Nat.reduceLeDiff, Nat.reduceDiv, reduceIte, reduceCtorEq, g1]
        refine c_dec (fun g2 => ?_) (fun g2 => ?_)
        · have e2 : winP c.cap c.in1 c.in0 e = 1 := by unfold winP; rw [if_pos (.inr g2)]
          rw [e2]
          (refine zs ?_; try exact trivial)
        · have n1 : ¬ (e.frame < 0 ∨ c.cap ≤ e.frame) := by omega
          (refine zs ?_; try exact trivial)
          refine a_quiet (by kernel_rfl) (by kernel_rfl) (by kernel_rfl) ?_
          cases g3 : decide (e.frame < (c.in1.length : Int))
          · have f3 := of_decide_eq_false g3
            simp (maxSteps := 2000000) (disch := omega) only [go_sem, Nat.reduceAdd, Nat.reduceSub, Nat.reduceMul, Nat.reduceBEq, Nat.reduceEqDiff, Nat.reduceLT, Nat.reduceLeDiff, Nat.reduceDiv, reduceIte, reduceCtorEq, g3]
            have n2 : ¬ (e.frame < (c.in1.length : Int) ∧ U16 (c.in1.getD e.frame.toNat 0) = U16 e.inp) := fun h => f3 h.1
            cases g4 : decide ((c.in1.length : Int) < e.frame)
            · have f4 := of_decide_eq_false g4
              simp (maxSteps := 2000000) (disch := omega) only [go_sem, Nat.reduceAdd, Nat.reduceSub, Nat.reduceMul, Nat.reduceBEq, Nat.reduceEqDiff, Nat.reduceLT, Nat.reduceLeDiff, Nat.reduceDiv, reduceIte, reduceCtorEq, g4]
              refine c_dec (fun g5 => ?_) (fun g5 => ?_)
              · have e2 : winP c.cap c.in1 c.in0 e = 13 := by unfold winP; rw [if_neg n1, if_neg n2, if_neg f3, if_pos (.inr g5)]
                rw [e2]
                (refine zs ?_; try exact trivial)
              · have e2 : winP c.cap c.in1 c.in0 e = 0 := by unfold winP; rw [if_neg n1, if_neg n2, if_neg f3, if_neg (by omega)]
                rw [e2]
                (refine zs ?_; try exact trivial)
            · have f4 := of_decide_eq_true g4
              have e2 : winP c.cap c.in1 c.in0 e = 13 := by unfold winP; rw [if_neg n1, if_neg n2, if_neg f3, if_pos (.inl f4)]
              rw [e2]
              simp (maxSteps := 2000000) (disch := omega) only [go_sem, Nat.reduceAdd, Nat.reduceSub, Nat.reduceMul, Nat.reduceBEq, Nat.reduceEqDiff, Nat.reduceLT, Nat.reduceLeDiff, Nat.reduceDiv, reduceIte, reduceCtorEq, g4]
          · have f3 := of_decide_eq_true g3
            simp (maxSteps := 2000000) (disch := omega) only [go_sem, Nat.reduceAdd, Nat.reduceSub, Nat.reduceMul, Nat.reduceBEq, Nat.reduceEqDiff, Nat.reduceLT, Nat.reduceLeDiff, Nat.reduceDiv, reduceIte, reduceCtorEq, g3]
            refine c_dec (fun g4 => ?_) (fun g4 => ?_)
            · have e2 : winP c.cap c.in1 c.in0 e = 8 := by unfold winP; rw [if_neg n1, if_pos ⟨f3, g4⟩]
              rw [e2]
              (refine zs ?_; try exact trivial)
            · have e2 : winP c.cap c.in1 c.in0 e = 18 := by unfold winP; rw [if_neg n1, if_neg (fun h => g4 h.2), if_pos f3]
              rw [e2]
              simp (maxSteps := 2000000) (disch := omega) only [go_sem, Nat.reduceAdd, Nat.reduceSub, Nat.reduceMul, Nat.reduceBEq, Nat.reduceEqDiff, Nat.reduceLT, Nat.reduceLeDiff, Nat.reduceDiv, reduceIte, reduceCtorEq, g3]
      · have f1 := of_decide_eq_true g1
        have e2 : winP c.cap c.in1 c.in0 e = 1 := by unfold winP; rw [if_pos (.inl f1)]
        rw [e2]
        simp (maxSteps := 2000000) (disch := omega) only [go_sem, Nat.reduceAdd, Nat.reduceSub, Nat.reduceMul, Nat.reduceBEq, Nat.reduceEqDiff, Nat.reduceLT, Nat.reduceLeDiff, Nat.reduceDiv, reduceIte, reduceCtorEq, g1]
end Go.Proofs.Ytamcjecgkfmjkaa

/- Chapter 18: an input while the other did nothing. -/
open Go Go.RowKit
namespace Go.Proofs.Ytamcjecgkfmjkaa
set_option linter.unusedSimpArgs false
set_option linter.unusedVariables false
@[go_sem 1200] theorem fU_app {l : List UInt16} {x : UInt16} : ls fU l ++ [.val (.int .u16 (U16 x))] = ls fU (l ++ [x]) := by simp [ls, fU]
@[go_sem ↓ 1200] theorem e_lenp {P : Program} {t : TypeId} {l : List (UInt16 × UInt16)} {o : Own} {nl : Option Bool} {V' : V → Prop} : aLen P t (.cell (.lst o nl 2 (prs l))) V' = (isSlcT P t = true ∧ V' (.int .i64 l.length)) := by
  simp only [aLen, prs_len, Nat.mul_div_cancel _ (show 0 < 2 by omega)]
@[go_sem ↓ 1200] theorem e_lenE {P : Program} {t : TypeId} {l : List Ev} {o : Own} {nl : Option Bool} {V' : V → Prop} : aLen P t (.cell (.lst o nl 6 (evs l))) V' = (isSlcT P t = true ∧ V' (.int .i64 l.length)) := by
  simp only [aLen, evs_len, Nat.mul_div_cancel _ (show 0 < 6 by omega)]
def inputP0 (c : Ct) (e : Ev) : Ct := if seatP c e.player = 0 then { c with in0 := c.in0 ++ [e.inp] } else { c with in1 := c.in1 ++ [e.inp] }
set_option maxRecDepth 20000 in
set_option maxHeartbeats 4000000 in
theorem input0_h (c : Ct) (e : Ev) (h0 : c.in0.length ≤ 1000000) (h1 : c.in1.length ≤ 1000000) (hs : 0 ≤ seatP c e.player) (hp : c.pairs = []) (ho : if seatP c e.player = 0 then c.in1 = [] else c.in0 = []) :
    Holds Try.prog 43 [.ptr (.arg 0) 0, .ev e] [(.arg 0, ctB (.arg 0) c)] (fun r h' => r = .tup [] ∧ h' = [(.arg 0, ctB (.arg 0) (inputP0 c e))]) := by
  refine holds_of_awp Try.func43 rfl (by decide +kernel) mixed Try.ntmps43 Try.results43 ?_
  simp only [entrySt, List.map_cons, List.map_nil, List.length_cons, List.length_nil, Nat.reduceAdd, Nat.reduceSub, List.replicate_succ, List.replicate_zero, List.cons_append, List.nil_append]
  (refine zs ?_; try exact trivial)
  refine a_call [.arg 0] (seat_h c e.player) (ok1 rfl) ?_ ?_ ?_
  · (refine zs ?_; try exact trivial)
  · (refine zs ?_; try exact trivial)
  rintro _ _ ⟨rfl, rfl⟩
  rcases seat_cases c e.player hs with q | q
  · rw [if_pos q] at ho
    have ei : inputP0 c e = { c with in0 := c.in0 ++ [e.inp] } := by unfold inputP0; rw [if_pos q]
    obtain ⟨code, cap, fuel, p0, p1, seed, l0, l1, over, winner, why, opn, in0, in1, pairs, st, events⟩ := c
    simp only at hp ho h0 h1 ei
    subst hp ho
    rw [ei, q]
    (refine zc ?_; try exact trivial)
    refine a_drawC (⟨[V.cell (.ptr (.arg 0) 0), .undef, .undef, V.cell (.ptr (.loc [3]) 0), V.int .i64 0, .undef, .undef, .undef, .undef, .undef, .undef, .undef, .undef, .undef, .undef, .undef, .undef, .undef, .undef, .undef, .undef, .undef, .undef, .undef, .undef, .undef, .undef, .undef, .undef, .undef, .undef, .undef, .undef, .undef, .undef, .undef, .undef, .undef, .undef, .undef, .undef, .undef, .undef, .undef, .undef, .undef, .undef, .undef, .undef, .undef, .undef, .undef, .undef, .undef, .undef, .undef, .undef, .undef, .undef, .undef, .undef, .undef, .undef, .undef, .undef, .undef, .undef, .undef, .undef, .undef, .undef, .undef, .undef, .undef, .undef, .undef, .undef, .undef, .undef, .undef, .undef, .undef, .undef, .undef, .undef, .undef, .undef, .undef, .undef, .undef, .undef, .undef, .undef, .undef, .undef, .undef, .undef, .undef, .undef, .undef, .undef, .undef, .undef, .undef, .undef, .undef, .undef, .undef, .undef, .undef, .undef], [(.loc [3], evC e), (.arg 0, ctC (.lst .no none 2 (ins code)) cap fuel p0 p1 seed l0 l1 (in0.length : Int) 0 over winner why opn (.lst (.tag (.cell (.arg 0) 14)) none 1 (ls fU (in0 ++ [e.inp]))) (.lst (.tag (.cell (.arg 0) 15)) none 1 (ls fU [])) (.lst (.tag (.cell (.arg 0) 16)) none 2 (prs [])) st (.lst (.tag (.cell (.arg 0) 37)) none 6 (evs events)))]⟩) (.take 0 (.take 1 (.take 2 (.take 3 (.take 4 (.take 5 (.take 6 (.take 8 (.take 12 (.take 13 (.both [(7, .both [(9, .both [(10, .both [(11, .take 14 (.both [(15, .done)]))])])]), (9, .both [(7, .both [(10, .both [(11, .take 14 (.both [(15, .done)]))])]), (10, .both [(7, .both [(11, .take 14 (.both [(15, .done)]))])])])]))))))))))) (by kernel_rfl) (by kernel_rfl) ?_ ?_
    · (refine zc ?_; try exact trivial)
      omega
    · (refine zc ?_; try exact trivial)
      refine a_drawC (⟨[V.cell (.ptr (.arg 0) 0), .undef, .undef, V.cell (.ptr (.loc [3]) 0), V.int .i64 0, .undef, .undef, .undef, .undef, .undef, .undef, .undef, .undef, .undef, .undef, .undef, .undef, .undef, .undef, .undef, .undef, .undef, .undef, .undef, .undef, .undef, .undef, .undef, .undef, .undef, .undef, .undef, .undef, .undef, .undef, .undef, .undef, .undef, .undef, .undef, .undef, .undef, .undef, .undef, .undef, .undef, .undef, .undef, .undef, .undef, .undef, .undef, .undef, .undef, .undef, .undef, .undef, .undef, .undef, .undef, .undef, .undef, .undef, .undef, .undef, .undef, .undef, .undef, .undef, .undef, .undef, .undef, .undef, .undef, .undef, .undef, .undef, .undef, .undef, .undef, .undef, .undef, .undef, .undef, .undef, .undef, .undef, .undef, .undef, .undef, .undef, .undef, .undef, .undef, .undef, .undef, .undef, .undef, .undef, .undef, .undef, .undef, .undef, .undef, .undef, .undef, .undef, .undef, .undef, .undef, .undef], [(.loc [3], evC e), (.arg 0, ctC (.lst .no none 2 (ins code)) cap fuel p0 p1 seed l0 l1 ((in0 ++ [e.inp]).length : Int) 0 over winner why opn (.lst (.tag (.cell (.arg 0) 14)) none 1 (ls fU (in0 ++ [e.inp]))) (.lst (.tag (.cell (.arg 0) 15)) none 1 (ls fU [])) (.lst (.tag (.cell (.arg 0) 16)) none 2 (prs [])) st (.lst (.tag (.cell (.arg 0) 37)) none 6 (evs events)))]⟩) (.take 0 (.take 1 (.take 2 (.take 3 (.take 4 (.take 5 (.take 8 (.take 9 (.take 10 (.both [(6, .take 7 (.take 11 (.both [(12, .done)])))])))))))))) (by kernel_rfl) (by kernel_rfl) ?_ ?_
      · (refine zc ?_; try exact trivial)
      · (refine zc ?_; try exact trivial)
        refine a_loopk (fun _ : Unit => ⟨[V.cell (.ptr (.arg 0) 0), .undef, .undef, V.cell (.ptr (.loc [3]) 0), V.int .i64 0, V.int .i64 0, .undef, .undef, .undef, .undef, .undef, .undef, .undef, .undef, .undef, .undef, .undef, .undef, .undef, .undef, .undef, .undef, .undef, .undef, .undef, .undef, .undef, .undef, .undef, .undef, .undef, .undef, .undef, .undef, .undef, .undef, .undef, .undef, .undef, .undef, .undef, .undef, .undef, .undef, .undef, .undef, .undef, .undef, .undef, .undef, .undef, .undef, .undef, .undef, .undef, .undef, .undef, .undef, .undef, .undef, .undef, .undef, .undef, .undef, .undef, .undef, .undef, .undef, .undef, .undef, .undef, .undef, .undef, .undef, .undef, .undef, .undef, .undef, .undef, .undef, .undef, .undef, .undef, .undef, .undef, .undef, .undef, .undef, .undef, .undef, .undef, .undef, .undef, .undef, .undef, .undef, .undef, .undef, .undef, .undef, .undef, .undef, .undef, .undef, .undef, .undef, .undef, .undef, .undef, .undef, .undef], [(.loc [3], evC e), (.arg 0, ctC (.lst .no none 2 (ins code)) cap fuel p0 p1 seed l0 l1 ((in0 ++ [e.inp]).length : Int) 0 over winner why opn (.lst (.tag (.cell (.arg 0) 14)) none 1 (ls fU (in0 ++ [e.inp]))) (.lst (.tag (.cell (.arg 0) 15)) none 1 (ls fU [])) (.lst (.tag (.cell (.arg 0) 16)) none 2 (prs [])) st (.lst (.tag (.cell (.arg 0) 37)) none 6 (evs events)))]⟩) (fun _ => True) (fun _ => 0) () trivial ?_ ?_
        · try (refine zs ?_; try exact trivial)
        · rintro _ _
          (refine zs ?_; try exact trivial)
          refine a_quiet (by kernel_rfl) (by kernel_rfl) (by kernel_rfl) ?_
          cases so : (!st.over)
          · simp (maxSteps := 2000000) (disch := omega) only [go_sem, Nat.reduceAdd, Nat.reduceSub, Nat.reduceMul, Nat.reduceBEq, Nat.reduceEqDiff, Nat.reduceLT, Nat.reduceLeDiff, Nat.reduceDiv, reduceIte, reduceCtorEq, so]
            exact ct_le ⟨leC_refl _, rfl, rfl, rfl, rfl, rfl, rfl, rfl, (by simp), rfl, rfl, rfl, rfl, rfl, leC_refl _, leC_refl _, leC_refl _, rfl, leC_refl _⟩
          · simp (maxSteps := 2000000) (disch := omega) only [go_sem, Nat.reduceAdd, Nat.reduceSub, Nat.reduceMul, Nat.reduceBEq, Nat.reduceEqDiff, Nat.reduceLT, Nat.reduceLeDiff, Nat.reduceDiv, reduceIte, reduceCtorEq, so]
            refine c_dec (fun h => ?_) (fun h => ?_)
            · omega
            · (refine zs ?_; try exact trivial)
              exact ct_le ⟨leC_refl _, rfl, rfl, rfl, rfl, rfl, rfl, rfl, (by simp), rfl, rfl, rfl, rfl, rfl, leC_refl _, leC_refl _, leC_refl _, rfl, leC_refl _⟩
  · rw [if_neg (show ¬ seatP c e.player = 0 by omega)] at ho
    have ei : inputP0 c e = { c with in1 := c.in1 ++ [e.inp] } := by unfold inputP0; rw [if_neg (show ¬ seatP c e.player = 0 by omega)]
    obtain ⟨code, cap, fuel, p0, p1, seed, l0, l1, over, winner, why, opn, in0, in1, pairs, st, events⟩ := c
    simp only at hp ho h0 h1 ei
    subst hp ho
    rw [ei, q]
    (refine zc ?_; try exact trivial)
    refine a_drawC (⟨[V.cell (.ptr (.arg 0) 0), .undef, .undef, V.cell (.ptr (.loc [3]) 0), V.int .i64 1, .undef, .undef, .undef, .undef, .undef, .undef, .undef, .undef, .undef, .undef, .undef, .undef, .undef, .undef, .undef, .undef, .undef, .undef, .undef, .undef, .undef, .undef, .undef, .undef, .undef, .undef, .undef, .undef, .undef, .undef, .undef, .undef, .undef, .undef, .undef, .undef, .undef, .undef, .undef, .undef, .undef, .undef, .undef, .undef, .undef, .undef, .undef, .undef, .undef, .undef, .undef, .undef, .undef, .undef, .undef, .undef, .undef, .undef, .undef, .undef, .undef, .undef, .undef, .undef, .undef, .undef, .undef, .undef, .undef, .undef, .undef, .undef, .undef, .undef, .undef, .undef, .undef, .undef, .undef, .undef, .undef, .undef, .undef, .undef, .undef, .undef, .undef, .undef, .undef, .undef, .undef, .undef, .undef, .undef, .undef, .undef, .undef, .undef, .undef, .undef, .undef, .undef, .undef, .undef, .undef, .undef], [(.loc [3], evC e), (.arg 0, ctC (.lst .no none 2 (ins code)) cap fuel p0 p1 seed l0 l1 0 (in1.length : Int) over winner why opn (.lst (.tag (.cell (.arg 0) 14)) none 1 (ls fU [])) (.lst (.tag (.cell (.arg 0) 15)) none 1 (ls fU (in1 ++ [e.inp]))) (.lst (.tag (.cell (.arg 0) 16)) none 2 (prs [])) st (.lst (.tag (.cell (.arg 0) 37)) none 6 (evs events)))]⟩) (.take 0 (.take 1 (.take 2 (.take 3 (.take 4 (.take 5 (.take 6 (.take 8 (.take 12 (.take 13 (.both [(7, .both [(9, .both [(10, .both [(11, .take 14 (.both [(15, .done)]))])])]), (9, .both [(7, .both [(10, .both [(11, .take 14 (.both [(15, .done)]))])]), (10, .both [(7, .both [(11, .take 14 (.both [(15, .done)]))])])])]))))))))))) (by kernel_rfl) (by kernel_rfl) ?_ ?_
    · (refine zc ?_; try exact trivial)
      omega
    · (refine zc ?_; try exact trivial)
      refine a_drawC (⟨[V.cell (.ptr (.arg 0) 0), .undef, .undef, V.cell (.ptr (.loc [3]) 0), V.int .i64 1, .undef, .undef, .undef, .undef, .undef, .undef, .undef, .undef, .undef, .undef, .undef, .undef, .undef, .undef, .undef, .undef, .undef, .undef, .undef, .undef, .undef, .undef, .undef, .undef, .undef, .undef, .undef, .undef, .undef, .undef, .undef, .undef, .undef, .undef, .undef, .undef, .undef, .undef, .undef, .undef, .undef, .undef, .undef, .undef, .undef, .undef, .undef, .undef, .undef, .undef, .undef, .undef, .undef, .undef, .undef, .undef, .undef, .undef, .undef, .undef, .undef, .undef, .undef, .undef, .undef, .undef, .undef, .undef, .undef, .undef, .undef, .undef, .undef, .undef, .undef, .undef, .undef, .undef, .undef, .undef, .undef, .undef, .undef, .undef, .undef, .undef, .undef, .undef, .undef, .undef, .undef, .undef, .undef, .undef, .undef, .undef, .undef, .undef, .undef, .undef, .undef, .undef, .undef, .undef, .undef, .undef], [(.loc [3], evC e), (.arg 0, ctC (.lst .no none 2 (ins code)) cap fuel p0 p1 seed l0 l1 0 ((in1 ++ [e.inp]).length : Int) over winner why opn (.lst (.tag (.cell (.arg 0) 14)) none 1 (ls fU [])) (.lst (.tag (.cell (.arg 0) 15)) none 1 (ls fU (in1 ++ [e.inp]))) (.lst (.tag (.cell (.arg 0) 16)) none 2 (prs [])) st (.lst (.tag (.cell (.arg 0) 37)) none 6 (evs events)))]⟩) (.take 0 (.take 1 (.take 2 (.take 3 (.take 4 (.take 5 (.take 8 (.take 9 (.take 10 (.both [(6, .take 7 (.take 11 (.both [(12, .done)])))])))))))))) (by kernel_rfl) (by kernel_rfl) ?_ ?_
      · (refine zc ?_; try exact trivial)
      · (refine zc ?_; try exact trivial)
        refine a_loopk (fun _ : Unit => ⟨[V.cell (.ptr (.arg 0) 0), .undef, .undef, V.cell (.ptr (.loc [3]) 0), V.int .i64 1, V.int .i64 0, .undef, .undef, .undef, .undef, .undef, .undef, .undef, .undef, .undef, .undef, .undef, .undef, .undef, .undef, .undef, .undef, .undef, .undef, .undef, .undef, .undef, .undef, .undef, .undef, .undef, .undef, .undef, .undef, .undef, .undef, .undef, .undef, .undef, .undef, .undef, .undef, .undef, .undef, .undef, .undef, .undef, .undef, .undef, .undef, .undef, .undef, .undef, .undef, .undef, .undef, .undef, .undef, .undef, .undef, .undef, .undef, .undef, .undef, .undef, .undef, .undef, .undef, .undef, .undef, .undef, .undef, .undef, .undef, .undef, .undef, .undef, .undef, .undef, .undef, .undef, .undef, .undef, .undef, .undef, .undef, .undef, .undef, .undef, .undef, .undef, .undef, .undef, .undef, .undef, .undef, .undef, .undef, .undef, .undef, .undef, .undef, .undef, .undef, .undef, .undef, .undef, .undef, .undef, .undef, .undef], [(.loc [3], evC e), (.arg 0, ctC (.lst .no none 2 (ins code)) cap fuel p0 p1 seed l0 l1 0 ((in1 ++ [e.inp]).length : Int) over winner why opn (.lst (.tag (.cell (.arg 0) 14)) none 1 (ls fU [])) (.lst (.tag (.cell (.arg 0) 15)) none 1 (ls fU (in1 ++ [e.inp]))) (.lst (.tag (.cell (.arg 0) 16)) none 2 (prs [])) st (.lst (.tag (.cell (.arg 0) 37)) none 6 (evs events)))]⟩) (fun _ => True) (fun _ => 0) () trivial ?_ ?_
        · try (refine zs ?_; try exact trivial)
        · rintro _ _
          (refine zs ?_; try exact trivial)
          refine a_quiet (by kernel_rfl) (by kernel_rfl) (by kernel_rfl) ?_
          cases so : (!st.over)
          · simp (maxSteps := 2000000) (disch := omega) only [go_sem, Nat.reduceAdd, Nat.reduceSub, Nat.reduceMul, Nat.reduceBEq, Nat.reduceEqDiff, Nat.reduceLT, Nat.reduceLeDiff, Nat.reduceDiv, reduceIte, reduceCtorEq, so]
            exact ct_le ⟨leC_refl _, rfl, rfl, rfl, rfl, rfl, rfl, rfl, rfl, (by simp), rfl, rfl, rfl, rfl, leC_refl _, leC_refl _, leC_refl _, rfl, leC_refl _⟩
          · simp (maxSteps := 2000000) (disch := omega) only [go_sem, Nat.reduceAdd, Nat.reduceSub, Nat.reduceMul, Nat.reduceBEq, Nat.reduceEqDiff, Nat.reduceLT, Nat.reduceLeDiff, Nat.reduceDiv, reduceIte, reduceCtorEq, so]
            refine c_dec (fun h => ?_) (fun h => ?_)
            · omega
            · (refine zs ?_; try exact trivial)
              exact ct_le ⟨leC_refl _, rfl, rfl, rfl, rfl, rfl, rfl, rfl, rfl, (by simp), rfl, rfl, rfl, rfl, leC_refl _, leC_refl _, leC_refl _, rfl, leC_refl _⟩
end Go.Proofs.Ytamcjecgkfmjkaa

/- Chapter 18: an input, and the frames that it brings. (written by gen18m.py) -/
open Go Go.RowKit
namespace Go.Proofs.Ytamcjecgkfmjkaa
set_option linter.unusedSimpArgs false
set_option linter.unusedVariables false
@[go_sem 1200] theorem prs_app {l : List (UInt16 × UInt16)} {a b : UInt16} : prs l ++ [.val (.int .u16 (U16 a)), .val (.int .u16 (U16 b))] = prs (l ++ [(a, b)]) := by
  simp [prs, prD, fU]
/-- the frames of which both did something -/
def cuP (code : List (Int × Int)) (cap fuel : Int) (a b : List UInt16) : Nat → List (UInt16 × UInt16) → Sta → List (UInt16 × UInt16) × Sta
  | 0, ps, st => (ps, st)
  | f + 1, ps, st => if st.over = false ∧ ps.length < min a.length b.length then
      cuP code cap fuel a b f (ps ++ [(a.getD ps.length 0, b.getD ps.length 0)]) (stepP code cap fuel st (a.getD ps.length 0) (b.getD ps.length 0)).1 else (ps, st)
def goP (c : Ct) : Ct := { c with pairs := (cuP c.code c.cap c.fuel c.in0 c.in1 (min c.in0.length c.in1.length - c.pairs.length) c.pairs c.st).1, st := (cuP c.code c.cap c.fuel c.in0 c.in1 (min c.in0.length c.in1.length - c.pairs.length) c.pairs c.st).2 }
def inputP (c : Ct) (e : Ev) : Ct := goP (inputP0 c e)
set_option maxRecDepth 20000 in
set_option maxHeartbeats 16000000 in
theorem input_h (c : Ct) (e : Ev) (h0 : c.in0.length ≤ 1000000) (h1 : c.in1.length ≤ 1000000) (hpl : c.pairs.length ≤ 1000000) (hs : 0 ≤ seatP c e.player) (hg : gameP c.code c.cap c.fuel = 0) (hB : ∀ x ∈ c.st.cells, B32 x) :
    Holds Try.prog 43 [.ptr (.arg 0) 0, .ev e] [(.arg 0, ctB (.arg 0) c)] (fun r h' => r = .tup [] ∧ h' = [(.arg 0, ctB (.arg 0) (inputP c e))]) := by
  have hcl := game_len hg
  refine holds_of_awp Try.func43 rfl (by decide +kernel) mixed Try.ntmps43 Try.results43 ?_
  simp only [entrySt, List.map_cons, List.map_nil, List.length_cons, List.length_nil, Nat.reduceAdd, Nat.reduceSub, List.replicate_succ, List.replicate_zero, List.cons_append, List.nil_append]
  (refine zs ?_; try exact trivial)
  refine a_call [.arg 0] (seat_h c e.player) (ok1 rfl) ?_ ?_ ?_
  · (refine zs ?_; try exact trivial)
  · (refine zs ?_; try exact trivial)
  rintro _ _ ⟨rfl, rfl⟩
  rcases seat_cases c e.player hs with q | q
  · have ei : inputP0 c e = { c with in0 := c.in0 ++ [e.inp] } := by unfold inputP0; rw [if_pos q]
    have hF : inputP c e = goP { c with in0 := c.in0 ++ [e.inp] } := by unfold inputP; rw [ei]
    rw [hF]
    clear hF ei
    obtain ⟨code, cap, fuel, p0, p1, seed, l0, l1, over, winner, why, opn, in0, in1, pairs, st, events⟩ := c
    simp only at h0 h1 hpl hg hB hcl
    rw [q]
    obtain ⟨a, ha⟩ : ∃ a, a = in0 ++ [e.inp] := ⟨_, rfl⟩
    obtain ⟨b, hb⟩ : ∃ b, b = in1 := ⟨_, rfl⟩
    have la : a.length ≤ 1000001 := by rw [ha]; simp; omega
    have lb : b.length ≤ 1000001 := by rw [hb]; omega
    obtain ⟨ps', st', hcu⟩ : ∃ ps' st', cuP code cap fuel a b (min a.length b.length - pairs.length) pairs st = (ps', st') := ⟨_, _, rfl⟩
    have hgo : goP ⟨code, cap, fuel, p0, p1, seed, l0, l1, over, winner, why, opn, in0 ++ [e.inp], in1, pairs, st, events⟩ = ⟨code, cap, fuel, p0, p1, seed, l0, l1, over, winner, why, opn, a, b, ps', st', events⟩ := by
      unfold goP
      simp only [← ha, ← hb, hcu]
    rw [hgo]
    (refine zc ?_; try exact trivial)
    refine a_drawC (⟨[V.cell (.ptr (.arg 0) 0), .undef, .undef, V.cell (.ptr (.loc [3]) 0), V.int .i64 0, .undef, .undef, .undef, .undef, .undef, .undef, .undef, .undef, .undef, .undef, .undef, .undef, .undef, .undef, .undef, .undef, .undef, .undef, .undef, .undef, .undef, .undef, .undef, .undef, .undef, .undef, .undef, .undef, .undef, .undef, .undef, .undef, .undef, .undef, .undef, .undef, .undef, .undef, .undef, .undef, .undef, .undef, .undef, .undef, .undef, .undef, .undef, .undef, .undef, .undef, .undef, .undef, .undef, .undef, .undef, .undef, .undef, .undef, .undef, .undef, .undef, .undef, .undef, .undef, .undef, .undef, .undef, .undef, .undef, .undef, .undef, .undef, .undef, .undef, .undef, .undef, .undef, .undef, .undef, .undef, .undef, .undef, .undef, .undef, .undef, .undef, .undef, .undef, .undef, .undef, .undef, .undef, .undef, .undef, .undef, .undef, .undef, .undef, .undef, .undef, .undef, .undef, .undef, .undef, .undef, .undef], [(.loc [3], evC e), (.arg 0, ctC (.lst .no none 2 (ins code)) cap fuel p0 p1 seed l0 l1 (in0.length : Int) (in1.length : Int) over winner why opn (.lst (.tag (.cell (.arg 0) 14)) none 1 (ls fU (a))) (.lst (.tag (.cell (.arg 0) 15)) none 1 (ls fU (b))) (.lst (.tag (.cell (.arg 0) 16)) none 2 (prs (pairs))) (st) (.lst (.tag (.cell (.arg 0) 37)) none 6 (evs events)))]⟩) (.take 0 (.take 1 (.take 2 (.take 3 (.take 4 (.take 5 (.take 6 (.take 8 (.take 12 (.take 13 (.both [(7, .both [(9, .both [(10, .both [(11, .take 14 (.both [(15, .done)]))])])]), (9, .both [(7, .both [(10, .both [(11, .take 14 (.both [(15, .done)]))])]), (10, .both [(7, .both [(11, .take 14 (.both [(15, .done)]))])])])]))))))))))) (by kernel_rfl) (by kernel_rfl) ?_ ?_
    · (refine zc ?_; try exact trivial)
      all_goals (try rw [ha]); all_goals (try rw [hb]); all_goals (try (refine zc ?_; try exact trivial)); all_goals (try omega)
    · (refine zc ?_; try exact trivial)
      refine a_drawC (⟨[V.cell (.ptr (.arg 0) 0), .undef, .undef, V.cell (.ptr (.loc [3]) 0), V.int .i64 0, .undef, .undef, .undef, .undef, .undef, .undef, .undef, .undef, .undef, .undef, .undef, .undef, .undef, .undef, .undef, .undef, .undef, .undef, .undef, .undef, .undef, .undef, .undef, .undef, .undef, .undef, .undef, .undef, .undef, .undef, .undef, .undef, .undef, .undef, .undef, .undef, .undef, .undef, .undef, .undef, .undef, .undef, .undef, .undef, .undef, .undef, .undef, .undef, .undef, .undef, .undef, .undef, .undef, .undef, .undef, .undef, .undef, .undef, .undef, .undef, .undef, .undef, .undef, .undef, .undef, .undef, .undef, .undef, .undef, .undef, .undef, .undef, .undef, .undef, .undef, .undef, .undef, .undef, .undef, .undef, .undef, .undef, .undef, .undef, .undef, .undef, .undef, .undef, .undef, .undef, .undef, .undef, .undef, .undef, .undef, .undef, .undef, .undef, .undef, .undef, .undef, .undef, .undef, .undef, .undef, .undef], [(.loc [3], evC e), (.arg 0, ctC (.lst .no none 2 (ins code)) cap fuel p0 p1 seed l0 l1 (a.length : Int) (b.length : Int) over winner why opn (.lst (.tag (.cell (.arg 0) 14)) none 1 (ls fU (a))) (.lst (.tag (.cell (.arg 0) 15)) none 1 (ls fU (b))) (.lst (.tag (.cell (.arg 0) 16)) none 2 (prs (pairs))) (st) (.lst (.tag (.cell (.arg 0) 37)) none 6 (evs events)))]⟩) (.take 0 (.take 1 (.take 2 (.take 3 (.take 4 (.take 5 (.take 8 (.take 9 (.take 10 (.both [(6, .take 7 (.take 11 (.both [(12, .done)])))])))))))))) (by kernel_rfl) (by kernel_rfl) ?_ ?_
      · (refine zc ?_; try exact trivial)
        all_goals (try rw [ha]); all_goals (try rw [hb]); all_goals (try (refine zc ?_; try exact trivial)); all_goals (try omega)
      · (refine zc ?_; try exact trivial)
        refine a_loopk (fun x : List (UInt16 × UInt16) × Sta => ⟨[V.cell (.ptr (.arg 0) 0), .undef, .undef, V.cell (.ptr (.loc [3]) 0), V.int .i64 0, V.int .i64 (x.1.length : Int), .undef, .undef, .undef, .undef, .undef, .undef, .undef, .undef, .undef, .undef, .undef, .undef, .undef, .undef, .undef, .undef, .undef, .undef, .undef, .undef, .undef, .undef, .undef, .undef, .undef, .undef, .undef, .undef, .undef, .undef, .undef, .undef, .undef, .undef, .undef, .undef, .undef, .undef, .undef, .undef, .undef, .undef, .undef, .undef, .undef, .undef, .undef, .undef, .undef, .undef, .undef, .undef, .undef, .undef, .undef, .undef, .undef, .undef, .undef, .undef, .undef, .undef, .undef, .undef, .undef, .undef, .undef, .undef, .undef, .undef, .undef, .undef, .undef, .undef, .undef, .undef, .undef, .undef, .undef, .undef, .undef, .undef, .undef, .undef, .undef, .undef, .undef, .undef, .undef, .undef, .undef, .undef, .undef, .undef, .undef, .undef, .undef, .undef, .undef, .undef, .undef, .undef, .undef, .undef, .undef], [(.loc [3], evC e), (.arg 0, ctC (.lst .no none 2 (ins code)) cap fuel p0 p1 seed l0 l1 (a.length : Int) (b.length : Int) over winner why opn (.lst (.tag (.cell (.arg 0) 14)) none 1 (ls fU (a))) (.lst (.tag (.cell (.arg 0) 15)) none 1 (ls fU (b))) (.lst (.tag (.cell (.arg 0) 16)) none 2 (prs (x.1))) (x.2) (.lst (.tag (.cell (.arg 0) 37)) none 6 (evs events)))]⟩) (fun x => x.1.length ≤ 1000001 ∧ (∀ y ∈ x.2.cells, B32 y) ∧ cuP code cap fuel a b (min a.length b.length - x.1.length) x.1 x.2 = (ps', st')) (fun x => min a.length b.length - x.1.length) (pairs, st) ⟨by show pairs.length ≤ 1000001; omega, hB, hcu⟩ ?_ ?_
        · try (refine zs ?_; try exact trivial)
        · rintro ⟨ps, sx⟩ ⟨hp1, hp2, hp3⟩
          simp only at hp1 hp2 hp3 ⊢
          (refine zs ?_; try exact trivial)
          refine a_quiet (by kernel_rfl) (by kernel_rfl) (by kernel_rfl) ?_
          cases so : (!sx.over)
          · have so' : sx.over = true := by cases hh : sx.over <;> simp_all
            have e0 : cuP code cap fuel a b (min a.length b.length - ps.length) ps sx = (ps, sx) := by
              cases hm : min a.length b.length - ps.length with
              | zero => rfl
              | succ n => unfold cuP; rw [if_neg (by rw [so']; simp)]
            rw [e0] at hp3
            cases hp3
            simp (maxSteps := 2000000) (disch := omega) only [go_sem, Nat.reduceAdd, Nat.reduceSub, Nat.reduceMul, Nat.reduceBEq, Nat.reduceEqDiff, Nat.reduceLT, Nat.reduceLeDiff, Nat.reduceDiv, reduceIte, reduceCtorEq, so]
            all_goals exact ct_le ⟨leC_refl _, rfl, rfl, rfl, rfl, rfl, rfl, rfl, rfl, rfl, rfl, rfl, rfl, rfl, leC_refl _, leC_refl _, leC_refl _, rfl, leC_refl _⟩
          · simp (maxSteps := 2000000) (disch := omega) only [go_sem, Nat.reduceAdd, Nat.reduceSub, Nat.reduceMul, Nat.reduceBEq, Nat.reduceEqDiff, Nat.reduceLT, Nat.reduceLeDiff, Nat.reduceDiv, reduceIte, reduceCtorEq, so]
            have so' : sx.over = false := by cases hh : sx.over <;> simp_all
            refine c_dec (fun g => ?_) (fun g => ?_)
            · have hlt : ps.length < min a.length b.length := by omega
              have hpa : ps.length < a.length := by omega
              have hpb : ps.length < b.length := by omega
              obtain ⟨m, hm⟩ : ∃ m, min a.length b.length - ps.length = m + 1 := ⟨min a.length b.length - ps.length - 1, by omega⟩
              rw [hm] at hp3
              unfold cuP at hp3
              rw [if_pos ⟨so', hlt⟩] at hp3
              (refine zc ?_; try exact trivial)
              refine a_drawC (⟨[V.cell (.ptr (.arg 0) 0), .undef, .undef, V.cell (.ptr (.loc [3]) 0), V.int .i64 0, V.int .i64 (ps.length : Int), V.cell (.ptr (.loc [6]) 0), .undef, .undef, .undef, .undef, .undef, .undef, .undef, .undef, .undef, .undef, .undef, .undef, .undef, .undef, .undef, .undef, .undef, .undef, .undef, .undef, .undef, .undef, .undef, .undef, .undef, .undef, .undef, .undef, .undef, .undef, .undef, .undef, .undef, .undef, .undef, .undef, .undef, .undef, .undef, .undef, .undef, .undef, .undef, .undef, .undef, .undef, .undef, .undef, .undef, .undef, .undef, .undef, .undef, .undef, .undef, .undef, .undef, .undef, .undef, .undef, .undef, .undef, .undef, .undef, .undef, .undef, .undef, .undef, .undef, .undef, .undef, .undef, .undef, .undef, .undef, .undef, .undef, .undef, .undef, .undef, .undef, .undef, .undef, .undef, .undef, .undef, .undef, .undef, .undef, .undef, .undef, .undef, .undef, .undef, .undef, .undef, .undef, .undef, .undef, .undef, .undef, .undef, .undef, .undef], [(.loc [6], [.val (.int .u16 (U16 (a.getD ps.length 0))), .val (.int .u16 (U16 (b.getD ps.length 0)))]), (.loc [3], evC e), (.arg 0, ctC (.lst .no none 2 (ins code)) cap fuel p0 p1 seed l0 l1 (a.length : Int) (b.length : Int) over winner why opn (.lst (.tag (.cell (.arg 0) 14)) none 1 (ls fU (a))) (.lst (.tag (.cell (.arg 0) 15)) none 1 (ls fU (b))) (.lst (.tag (.cell (.arg 0) 16)) none 2 (prs (ps))) (sx) (.lst (.tag (.cell (.arg 0) 37)) none 6 (evs events)))]⟩) (.take 0 (.take 1 (.take 2 (.take 3 (.take 5 (.take 8 (.take 9 (.take 10 (.take 11 (.take 13 (.both [(4, .take 6 (.both [(7, .both [(12, .take 14 (.both [(15, .both [(16, .both [(17, .both [(18, .done)])]), (17, .both [(16, .both [(18, .done)])])]), (17, .both [(15, .both [(16, .both [(18, .done)])])])])), (17, .both [(12, .take 14 (.both [(15, .both [(16, .both [(18, .done)])])]))])]), (12, .take 14 (.both [(7, .both [(15, .both [(16, .both [(17, .both [(18, .done)])]), (17, .both [(16, .both [(18, .done)])])]), (17, .both [(15, .both [(16, .both [(18, .done)])])])]), (15, .both [(7, .both [(16, .both [(17, .both [(18, .done)])]), (17, .both [(16, .both [(18, .done)])])]), (17, .both [(7, .both [(16, .both [(18, .done)])])])]), (17, .both [(7, .both [(15, .both [(16, .both [(18, .done)])])]), (15, .both [(7, .both [(16, .both [(18, .done)])])])])])), (17, .both [(7, .both [(12, .take 14 (.both [(15, .both [(16, .both [(18, .done)])])]))]), (12, .take 14 (.both [(7, .both [(15, .both [(16, .both [(18, .done)])])]), (15, .both [(7, .both [(16, .both [(18, .done)])])])]))])])), (12, .take 14 (.both [(4, .take 6 (.both [(7, .both [(15, .both [(16, .both [(17, .both [(18, .done)])]), (17, .both [(16, .both [(18, .done)])])]), (17, .both [(15, .both [(16, .both [(18, .done)])])])]), (15, .both [(7, .both [(16, .both [(17, .both [(18, .done)])]), (17, .both [(16, .both [(18, .done)])])]), (17, .both [(7, .both [(16, .both [(18, .done)])])])]), (17, .both [(7, .both [(15, .both [(16, .both [(18, .done)])])]), (15, .both [(7, .both [(16, .both [(18, .done)])])])])])), (15, .both [(4, .take 6 (.both [(7, .both [(16, .both [(17, .both [(18, .done)])]), (17, .both [(16, .both [(18, .done)])])]), (17, .both [(7, .both [(16, .both [(18, .done)])])])])), (17, .both [(4, .take 6 (.both [(7, .both [(16, .both [(18, .done)])])]))])]), (17, .both [(4, .take 6 (.both [(7, .both [(15, .both [(16, .both [(18, .done)])])]), (15, .both [(7, .both [(16, .both [(18, .done)])])])])), (15, .both [(4, .take 6 (.both [(7, .both [(16, .both [(18, .done)])])]))])])])), (17, .both [(4, .take 6 (.both [(7, .both [(12, .take 14 (.both [(15, .both [(16, .both [(18, .done)])])]))]), (12, .take 14 (.both [(7, .both [(15, .both [(16, .both [(18, .done)])])]), (15, .both [(7, .both [(16, .both [(18, .done)])])])]))])), (12, .take 14 (.both [(4, .take 6 (.both [(7, .both [(15, .both [(16, .both [(18, .done)])])]), (15, .both [(7, .both [(16, .both [(18, .done)])])])])), (15, .both [(4, .take 6 (.both [(7, .both [(16, .both [(18, .done)])])]))])]))])]))))))))))) (by kernel_rfl) (by kernel_rfl) ?_ ?_
              · (refine zc ?_; try exact trivial)
              · (refine zc ?_; try exact trivial)
                refine a_drawC (⟨[V.cell (.ptr (.arg 0) 0), .undef, .undef, V.cell (.ptr (.loc [3]) 0), V.int .i64 0, V.int .i64 (ps.length : Int), V.cell (.ptr (.loc [6]) 0), .undef, .undef, .undef, .undef, .undef, .undef, .undef, .undef, .undef, .undef, .undef, .undef, .undef, .undef, .undef, .undef, .undef, .undef, .undef, .undef, .undef, .undef, .undef, .undef, .undef, .undef, .undef, .undef, .undef, .undef, .undef, .undef, .undef, .undef, .undef, .undef, .undef, .undef, .undef, .undef, .undef, .undef, .undef, .undef, .undef, .undef, .undef, .undef, .undef, .undef, .undef, .undef, .undef, .undef, .undef, .undef, .undef, .undef, .undef, .undef, .undef, .undef, .undef, .undef, .undef, .undef, .undef, .undef, .undef, .undef, .undef, .undef, .undef, .undef, .undef, .undef, .undef, .undef, .undef, .undef, .undef, .undef, .undef, .undef, .undef, .undef, .undef, .undef, .undef, .undef, .undef, .undef, .undef, .undef, .undef, .undef, .undef, .undef, .undef, .undef, .undef, .undef, .undef, .undef], [(.loc [6], [.val (.int .u16 (U16 (a.getD ps.length 0))), .val (.int .u16 (U16 (b.getD ps.length 0)))]), (.loc [3], evC e), (.arg 0, ctC (.lst .no none 2 (ins code)) cap fuel p0 p1 seed l0 l1 (a.length : Int) (b.length : Int) over winner why opn (.lst (.tag (.cell (.arg 0) 14)) none 1 (ls fU (a))) (.lst (.tag (.cell (.arg 0) 15)) none 1 (ls fU (b))) (.lst (.tag (.cell (.arg 0) 16)) none 2 (prs (ps ++ [(a.getD ps.length 0, b.getD ps.length 0)]))) (sx) (.lst (.tag (.cell (.arg 0) 37)) none 6 (evs events)))]⟩) (.take 0 (.take 1 (.take 2 (.take 3 (.both [(4, .both [(5, .both [(6, .both [(7, .take 8 (.take 9 (.both [(10, .done)])))])])]), (5, .both [(4, .both [(6, .both [(7, .take 8 (.take 9 (.both [(10, .done)])))])]), (6, .both [(4, .both [(7, .take 8 (.take 9 (.both [(10, .done)])))])])])]))))) (by kernel_rfl) (by kernel_rfl) ?_ ?_
                · (refine zc ?_; try exact trivial)
                  all_goals omega
                · (refine zc ?_; try exact trivial)
                  refine a_drawC (⟨[V.cell (.ptr (.arg 0) 0), .undef, .undef, V.cell (.ptr (.loc [3]) 0), V.int .i64 0, V.int .i64 (ps.length : Int), V.cell (.ptr (.loc [6]) 0), .undef, .undef, .undef, .undef, .undef, .undef, .undef, .undef, .undef, .undef, .undef, .undef, .undef, .undef, .undef, .undef, .undef, .undef, .undef, .undef, .undef, .undef, .undef, .undef, .undef, .undef, .undef, .undef, .undef, .undef, .undef, .undef, .undef, .undef, .undef, .undef, .undef, .undef, .undef, .undef, .undef, .undef, .undef, .undef, .undef, .undef, .undef, .undef, .undef, .undef, .undef, .undef, .undef, .undef, .undef, .undef, .undef, .undef, .undef, .undef, .undef, .undef, .undef, .undef, .undef, .undef, .undef, .undef, .undef, .undef, .undef, .undef, .undef, .undef, .undef, .undef, .undef, .undef, .undef, .undef, .undef, .undef, .undef, .undef, .undef, .undef, .undef, .undef, .undef, .undef, .undef, .undef, .undef, .undef, .undef, .undef, .undef, .undef, .undef, .undef, .undef, .undef, .undef, .undef], [(.loc [6], [.val (.int .u16 (U16 (a.getD ps.length 0))), .val (.int .u16 (U16 (b.getD ps.length 0)))]), (.loc [3], evC e), (.arg 0, ctC (.lst .no none 2 (ins code)) cap fuel p0 p1 seed l0 l1 (a.length : Int) (b.length : Int) over winner why opn (.lst (.tag (.cell (.arg 0) 14)) none 1 (ls fU (a))) (.lst (.tag (.cell (.arg 0) 15)) none 1 (ls fU (b))) (.lst (.tag (.cell (.arg 0) 16)) none 2 (prs (ps ++ [(a.getD ps.length 0, b.getD ps.length 0)]))) ((stepP code cap fuel sx (a.getD ps.length 0) (b.getD ps.length 0)).1) (.lst (.tag (.cell (.arg 0) 37)) none 6 (evs events)))]⟩) (.take 0 (.take 1 (.take 2 (.take 3 (.take 5 (.take 6 (.take 7 (.both [(4, .both [(8, .both [(9, .both [(10, .take 11 (.take 12 (.take 13 (.take 14 (.take 15 (.both [(16, .done)]))))))])]), (9, .both [(8, .both [(10, .take 11 (.take 12 (.take 13 (.take 14 (.take 15 (.both [(16, .done)]))))))])])]), (8, .both [(4, .both [(9, .both [(10, .take 11 (.take 12 (.take 13 (.take 14 (.take 15 (.both [(16, .done)]))))))])]), (9, .both [(4, .both [(10, .take 11 (.take 12 (.take 13 (.take 14 (.take 15 (.both [(16, .done)]))))))])])]), (9, .both [(4, .both [(8, .both [(10, .take 11 (.take 12 (.take 13 (.take 14 (.take 15 (.both [(16, .done)]))))))])]), (8, .both [(4, .both [(10, .take 11 (.take 12 (.take 13 (.take 14 (.take 15 (.both [(16, .done)]))))))])])])])))))))) (by kernel_rfl) (by kernel_rfl) ?_ ?_
                  · (refine zc ?_; try exact trivial)
                    have hst := step_h code cap fuel sx (a.getD ps.length 0) (b.getD ps.length 0) (by omega) hp2
                    refine a_call [] hst ok0 ?_ ?_ ?_
                    · (refine zs ?_; try exact trivial)
                    · (refine zs ?_; try exact trivial)
                    rintro _ _ ⟨rfl, rfl⟩
                    (refine zc ?_; try exact trivial)
                    all_goals exact leCs_refl _
                  · (refine zc ?_; try exact trivial)
                    refine ⟨(ps ++ [(a.getD ps.length 0, b.getD ps.length 0)], (stepP code cap fuel sx (a.getD ps.length 0) (b.getD ps.length 0)).1), ?_, ⟨?_, ?_, ?_⟩, ?_⟩
                    · simp; omega
                    · simp; omega
                    · exact step_B32 _ _ _ _ _ _ hp2
                    · simp only [List.length_append, List.length_cons, List.length_nil]
                      rw [show min a.length b.length - (ps.length + (0 + 1)) = m by omega]
                      exact hp3
                    · try (refine zs ?_; try exact trivial)
            · have e0 : cuP code cap fuel a b (min a.length b.length - ps.length) ps sx = (ps, sx) := by
                rw [show min a.length b.length - ps.length = 0 by omega]; rfl
              rw [e0] at hp3
              cases hp3
              (refine zs ?_; try exact trivial)
              all_goals exact ct_le ⟨leC_refl _, rfl, rfl, rfl, rfl, rfl, rfl, rfl, rfl, rfl, rfl, rfl, rfl, rfl, leC_refl _, leC_refl _, leC_refl _, rfl, leC_refl _⟩
  · have ei : inputP0 c e = { c with in1 := c.in1 ++ [e.inp] } := by unfold inputP0; rw [if_neg (show ¬ seatP c e.player = 0 by omega)]
    have hF : inputP c e = goP { c with in1 := c.in1 ++ [e.inp] } := by unfold inputP; rw [ei]
    rw [hF]
    clear hF ei
    obtain ⟨code, cap, fuel, p0, p1, seed, l0, l1, over, winner, why, opn, in0, in1, pairs, st, events⟩ := c
    simp only at h0 h1 hpl hg hB hcl
    rw [q]
    obtain ⟨a, ha⟩ : ∃ a, a = in0 := ⟨_, rfl⟩
    obtain ⟨b, hb⟩ : ∃ b, b = in1 ++ [e.inp] := ⟨_, rfl⟩
    have la : a.length ≤ 1000001 := by rw [ha]; omega
    have lb : b.length ≤ 1000001 := by rw [hb]; simp; omega
    obtain ⟨ps', st', hcu⟩ : ∃ ps' st', cuP code cap fuel a b (min a.length b.length - pairs.length) pairs st = (ps', st') := ⟨_, _, rfl⟩
    have hgo : goP ⟨code, cap, fuel, p0, p1, seed, l0, l1, over, winner, why, opn, in0, in1 ++ [e.inp], pairs, st, events⟩ = ⟨code, cap, fuel, p0, p1, seed, l0, l1, over, winner, why, opn, a, b, ps', st', events⟩ := by
      unfold goP
      simp only [← ha, ← hb, hcu]
    rw [hgo]
    (refine zc ?_; try exact trivial)
    refine a_drawC (⟨[V.cell (.ptr (.arg 0) 0), .undef, .undef, V.cell (.ptr (.loc [3]) 0), V.int .i64 1, .undef, .undef, .undef, .undef, .undef, .undef, .undef, .undef, .undef, .undef, .undef, .undef, .undef, .undef, .undef, .undef, .undef, .undef, .undef, .undef, .undef, .undef, .undef, .undef, .undef, .undef, .undef, .undef, .undef, .undef, .undef, .undef, .undef, .undef, .undef, .undef, .undef, .undef, .undef, .undef, .undef, .undef, .undef, .undef, .undef, .undef, .undef, .undef, .undef, .undef, .undef, .undef, .undef, .undef, .undef, .undef, .undef, .undef, .undef, .undef, .undef, .undef, .undef, .undef, .undef, .undef, .undef, .undef, .undef, .undef, .undef, .undef, .undef, .undef, .undef, .undef, .undef, .undef, .undef, .undef, .undef, .undef, .undef, .undef, .undef, .undef, .undef, .undef, .undef, .undef, .undef, .undef, .undef, .undef, .undef, .undef, .undef, .undef, .undef, .undef, .undef, .undef, .undef, .undef, .undef, .undef], [(.loc [3], evC e), (.arg 0, ctC (.lst .no none 2 (ins code)) cap fuel p0 p1 seed l0 l1 (in0.length : Int) (in1.length : Int) over winner why opn (.lst (.tag (.cell (.arg 0) 14)) none 1 (ls fU (a))) (.lst (.tag (.cell (.arg 0) 15)) none 1 (ls fU (b))) (.lst (.tag (.cell (.arg 0) 16)) none 2 (prs (pairs))) (st) (.lst (.tag (.cell (.arg 0) 37)) none 6 (evs events)))]⟩) (.take 0 (.take 1 (.take 2 (.take 3 (.take 4 (.take 5 (.take 6 (.take 8 (.take 12 (.take 13 (.both [(7, .both [(9, .both [(10, .both [(11, .take 14 (.both [(15, .done)]))])])]), (9, .both [(7, .both [(10, .both [(11, .take 14 (.both [(15, .done)]))])]), (10, .both [(7, .both [(11, .take 14 (.both [(15, .done)]))])])])]))))))))))) (by kernel_rfl) (by kernel_rfl) ?_ ?_
    · (refine zc ?_; try exact trivial)
      all_goals (try rw [ha]); all_goals (try rw [hb]); all_goals (try (refine zc ?_; try exact trivial)); all_goals (try omega)
    · (refine zc ?_; try exact trivial)
      refine a_drawC (⟨[V.cell (.ptr (.arg 0) 0), .undef, .undef, V.cell (.ptr (.loc [3]) 0), V.int .i64 1, .undef, .undef, .undef, .undef, .undef, .undef, .undef, .undef, .undef, .undef, .undef, .undef, .undef, .undef, .undef, .undef, .undef, .undef, .undef, .undef, .undef, .undef, .undef, .undef, .undef, .undef, .undef, .undef, .undef, .undef, .undef, .undef, .undef, .undef, .undef, .undef, .undef, .undef, .undef, .undef, .undef, .undef, .undef, .undef, .undef, .undef, .undef, .undef, .undef, .undef, .undef, .undef, .undef, .undef, .undef, .undef, .undef, .undef, .undef, .undef, .undef, .undef, .undef, .undef, .undef, .undef, .undef, .undef, .undef, .undef, .undef, .undef, .undef, .undef, .undef, .undef, .undef, .undef, .undef, .undef, .undef, .undef, .undef, .undef, .undef, .undef, .undef, .undef, .undef, .undef, .undef, .undef, .undef, .undef, .undef, .undef, .undef, .undef, .undef, .undef, .undef, .undef, .undef, .undef, .undef, .undef], [(.loc [3], evC e), (.arg 0, ctC (.lst .no none 2 (ins code)) cap fuel p0 p1 seed l0 l1 (a.length : Int) (b.length : Int) over winner why opn (.lst (.tag (.cell (.arg 0) 14)) none 1 (ls fU (a))) (.lst (.tag (.cell (.arg 0) 15)) none 1 (ls fU (b))) (.lst (.tag (.cell (.arg 0) 16)) none 2 (prs (pairs))) (st) (.lst (.tag (.cell (.arg 0) 37)) none 6 (evs events)))]⟩) (.take 0 (.take 1 (.take 2 (.take 3 (.take 4 (.take 5 (.take 8 (.take 9 (.take 10 (.both [(6, .take 7 (.take 11 (.both [(12, .done)])))])))))))))) (by kernel_rfl) (by kernel_rfl) ?_ ?_
      · (refine zc ?_; try exact trivial)
        all_goals (try rw [ha]); all_goals (try rw [hb]); all_goals (try (refine zc ?_; try exact trivial)); all_goals (try omega)
      · (refine zc ?_; try exact trivial)
        refine a_loopk (fun x : List (UInt16 × UInt16) × Sta => ⟨[V.cell (.ptr (.arg 0) 0), .undef, .undef, V.cell (.ptr (.loc [3]) 0), V.int .i64 1, V.int .i64 (x.1.length : Int), .undef, .undef, .undef, .undef, .undef, .undef, .undef, .undef, .undef, .undef, .undef, .undef, .undef, .undef, .undef, .undef, .undef, .undef, .undef, .undef, .undef, .undef, .undef, .undef, .undef, .undef, .undef, .undef, .undef, .undef, .undef, .undef, .undef, .undef, .undef, .undef, .undef, .undef, .undef, .undef, .undef, .undef, .undef, .undef, .undef, .undef, .undef, .undef, .undef, .undef, .undef, .undef, .undef, .undef, .undef, .undef, .undef, .undef, .undef, .undef, .undef, .undef, .undef, .undef, .undef, .undef, .undef, .undef, .undef, .undef, .undef, .undef, .undef, .undef, .undef, .undef, .undef, .undef, .undef, .undef, .undef, .undef, .undef, .undef, .undef, .undef, .undef, .undef, .undef, .undef, .undef, .undef, .undef, .undef, .undef, .undef, .undef, .undef, .undef, .undef, .undef, .undef, .undef, .undef, .undef], [(.loc [3], evC e), (.arg 0, ctC (.lst .no none 2 (ins code)) cap fuel p0 p1 seed l0 l1 (a.length : Int) (b.length : Int) over winner why opn (.lst (.tag (.cell (.arg 0) 14)) none 1 (ls fU (a))) (.lst (.tag (.cell (.arg 0) 15)) none 1 (ls fU (b))) (.lst (.tag (.cell (.arg 0) 16)) none 2 (prs (x.1))) (x.2) (.lst (.tag (.cell (.arg 0) 37)) none 6 (evs events)))]⟩) (fun x => x.1.length ≤ 1000001 ∧ (∀ y ∈ x.2.cells, B32 y) ∧ cuP code cap fuel a b (min a.length b.length - x.1.length) x.1 x.2 = (ps', st')) (fun x => min a.length b.length - x.1.length) (pairs, st) ⟨by show pairs.length ≤ 1000001; omega, hB, hcu⟩ ?_ ?_
        · try (refine zs ?_; try exact trivial)
        · rintro ⟨ps, sx⟩ ⟨hp1, hp2, hp3⟩
          simp only at hp1 hp2 hp3 ⊢
          (refine zs ?_; try exact trivial)
          refine a_quiet (by kernel_rfl) (by kernel_rfl) (by kernel_rfl) ?_
          cases so : (!sx.over)
          · have so' : sx.over = true := by cases hh : sx.over <;> simp_all
            have e0 : cuP code cap fuel a b (min a.length b.length - ps.length) ps sx = (ps, sx) := by
              cases hm : min a.length b.length - ps.length with
              | zero => rfl
              | succ n => unfold cuP; rw [if_neg (by rw [so']; simp)]
            rw [e0] at hp3
            cases hp3
            simp (maxSteps := 2000000) (disch := omega) only [go_sem, Nat.reduceAdd, Nat.reduceSub, Nat.reduceMul, Nat.reduceBEq, Nat.reduceEqDiff, Nat.reduceLT, Nat.reduceLeDiff, Nat.reduceDiv, reduceIte, reduceCtorEq, so]
            all_goals exact ct_le ⟨leC_refl _, rfl, rfl, rfl, rfl, rfl, rfl, rfl, rfl, rfl, rfl, rfl, rfl, rfl, leC_refl _, leC_refl _, leC_refl _, rfl, leC_refl _⟩
          · simp (maxSteps := 2000000) (disch := omega) only [go_sem, Nat.reduceAdd, Nat.reduceSub, Nat.reduceMul, Nat.reduceBEq, Nat.reduceEqDiff, Nat.reduceLT, Nat.reduceLeDiff, Nat.reduceDiv, reduceIte, reduceCtorEq, so]
            have so' : sx.over = false := by cases hh : sx.over <;> simp_all
            refine c_dec (fun g => ?_) (fun g => ?_)
            · have hlt : ps.length < min a.length b.length := by omega
              have hpa : ps.length < a.length := by omega
              have hpb : ps.length < b.length := by omega
              obtain ⟨m, hm⟩ : ∃ m, min a.length b.length - ps.length = m + 1 := ⟨min a.length b.length - ps.length - 1, by omega⟩
              rw [hm] at hp3
              unfold cuP at hp3
              rw [if_pos ⟨so', hlt⟩] at hp3
              (refine zc ?_; try exact trivial)
              refine a_drawC (⟨[V.cell (.ptr (.arg 0) 0), .undef, .undef, V.cell (.ptr (.loc [3]) 0), V.int .i64 1, V.int .i64 (ps.length : Int), V.cell (.ptr (.loc [6]) 0), .undef, .undef, .undef, .undef, .undef, .undef, .undef, .undef, .undef, .undef, .undef, .undef, .undef, .undef, .undef, .undef, .undef, .undef, .undef, .undef, .undef, .undef, .undef, .undef, .undef, .undef, .undef, .undef, .undef, .undef, .undef, .undef, .undef, .undef, .undef, .undef, .undef, .undef, .undef, .undef, .undef, .undef, .undef, .undef, .undef, .undef, .undef, .undef, .undef, .undef, .undef, .undef, .undef, .undef, .undef, .undef, .undef, .undef, .undef, .undef, .undef, .undef, .undef, .undef, .undef, .undef, .undef, .undef, .undef, .undef, .undef, .undef, .undef, .undef, .undef, .undef, .undef, .undef, .undef, .undef, .undef, .undef, .undef, .undef, .undef, .undef, .undef, .undef, .undef, .undef, .undef, .undef, .undef, .undef, .undef, .undef, .undef, .undef, .undef, .undef, .undef, .undef, .undef, .undef], [(.loc [6], [.val (.int .u16 (U16 (a.getD ps.length 0))), .val (.int .u16 (U16 (b.getD ps.length 0)))]), (.loc [3], evC e), (.arg 0, ctC (.lst .no none 2 (ins code)) cap fuel p0 p1 seed l0 l1 (a.length : Int) (b.length : Int) over winner why opn (.lst (.tag (.cell (.arg 0) 14)) none 1 (ls fU (a))) (.lst (.tag (.cell (.arg 0) 15)) none 1 (ls fU (b))) (.lst (.tag (.cell (.arg 0) 16)) none 2 (prs (ps))) (sx) (.lst (.tag (.cell (.arg 0) 37)) none 6 (evs events)))]⟩) (.take 0 (.take 1 (.take 2 (.take 3 (.take 5 (.take 8 (.take 9 (.take 10 (.take 11 (.take 13 (.both [(4, .take 6 (.both [(7, .both [(12, .take 14 (.both [(15, .both [(16, .both [(17, .both [(18, .done)])]), (17, .both [(16, .both [(18, .done)])])]), (17, .both [(15, .both [(16, .both [(18, .done)])])])])), (17, .both [(12, .take 14 (.both [(15, .both [(16, .both [(18, .done)])])]))])]), (12, .take 14 (.both [(7, .both [(15, .both [(16, .both [(17, .both [(18, .done)])]), (17, .both [(16, .both [(18, .done)])])]), (17, .both [(15, .both [(16, .both [(18, .done)])])])]), (15, .both [(7, .both [(16, .both [(17, .both [(18, .done)])]), (17, .both [(16, .both [(18, .done)])])]), (17, .both [(7, .both [(16, .both [(18, .done)])])])]), (17, .both [(7, .both [(15, .both [(16, .both [(18, .done)])])]), (15, .both [(7, .both [(16, .both [(18, .done)])])])])])), (17, .both [(7, .both [(12, .take 14 (.both [(15, .both [(16, .both [(18, .done)])])]))]), (12, .take 14 (.both [(7, .both [(15, .both [(16, .both [(18, .done)])])]), (15, .both [(7, .both [(16, .both [(18, .done)])])])]))])])), (12, .take 14 (.both [(4, .take 6 (.both [(7, .both [(15, .both [(16, .both [(17, .both [(18, .done)])]), (17, .both [(16, .both [(18, .done)])])]), (17, .both [(15, .both [(16, .both [(18, .done)])])])]), (15, .both [(7, .both [(16, .both [(17, .both [(18, .done)])]), (17, .both [(16, .both [(18, .done)])])]), (17, .both [(7, .both [(16, .both [(18, .done)])])])]), (17, .both [(7, .both [(15, .both [(16, .both [(18, .done)])])]), (15, .both [(7, .both [(16, .both [(18, .done)])])])])])), (15, .both [(4, .take 6 (.both [(7, .both [(16, .both [(17, .both [(18, .done)])]), (17, .both [(16, .both [(18, .done)])])]), (17, .both [(7, .both [(16, .both [(18, .done)])])])])), (17, .both [(4, .take 6 (.both [(7, .both [(16, .both [(18, .done)])])]))])]), (17, .both [(4, .take 6 (.both [(7, .both [(15, .both [(16, .both [(18, .done)])])]), (15, .both [(7, .both [(16, .both [(18, .done)])])])])), (15, .both [(4, .take 6 (.both [(7, .both [(16, .both [(18, .done)])])]))])])])), (17, .both [(4, .take 6 (.both [(7, .both [(12, .take 14 (.both [(15, .both [(16, .both [(18, .done)])])]))]), (12, .take 14 (.both [(7, .both [(15, .both [(16, .both [(18, .done)])])]), (15, .both [(7, .both [(16, .both [(18, .done)])])])]))])), (12, .take 14 (.both [(4, .take 6 (.both [(7, .both [(15, .both [(16, .both [(18, .done)])])]), (15, .both [(7, .both [(16, .both [(18, .done)])])])])), (15, .both [(4, .take 6 (.both [(7, .both [(16, .both [(18, .done)])])]))])]))])]))))))))))) (by kernel_rfl) (by kernel_rfl) ?_ ?_
              · (refine zc ?_; try exact trivial)
              · (refine zc ?_; try exact trivial)
                refine a_drawC (⟨[V.cell (.ptr (.arg 0) 0), .undef, .undef, V.cell (.ptr (.loc [3]) 0), V.int .i64 1, V.int .i64 (ps.length : Int), V.cell (.ptr (.loc [6]) 0), .undef, .undef, .undef, .undef, .undef, .undef, .undef, .undef, .undef, .undef, .undef, .undef, .undef, .undef, .undef, .undef, .undef, .undef, .undef, .undef, .undef, .undef, .undef, .undef, .undef, .undef, .undef, .undef, .undef, .undef, .undef, .undef, .undef, .undef, .undef, .undef, .undef, .undef, .undef, .undef, .undef, .undef, .undef, .undef, .undef, .undef, .undef, .undef, .undef, .undef, .undef, .undef, .undef, .undef, .undef, .undef, .undef, .undef, .undef, .undef, .undef, .undef, .undef, .undef, .undef, .undef, .undef, .undef, .undef, .undef, .undef, .undef, .undef, .undef, .undef, .undef, .undef, .undef, .undef, .undef, .undef, .undef, .undef, .undef, .undef, .undef, .undef, .undef, .undef, .undef, .undef, .undef, .undef, .undef, .undef, .undef, .undef, .undef, .undef, .undef, .undef, .undef, .undef, .undef], [(.loc [6], [.val (.int .u16 (U16 (a.getD ps.length 0))), .val (.int .u16 (U16 (b.getD ps.length 0)))]), (.loc [3], evC e), (.arg 0, ctC (.lst .no none 2 (ins code)) cap fuel p0 p1 seed l0 l1 (a.length : Int) (b.length : Int) over winner why opn (.lst (.tag (.cell (.arg 0) 14)) none 1 (ls fU (a))) (.lst (.tag (.cell (.arg 0) 15)) none 1 (ls fU (b))) (.lst (.tag (.cell (.arg 0) 16)) none 2 (prs (ps ++ [(a.getD ps.length 0, b.getD ps.length 0)]))) (sx) (.lst (.tag (.cell (.arg 0) 37)) none 6 (evs events)))]⟩) (.take 0 (.take 1 (.take 2 (.take 3 (.both [(4, .both [(5, .both [(6, .both [(7, .take 8 (.take 9 (.both [(10, .done)])))])])]), (5, .both [(4, .both [(6, .both [(7, .take 8 (.take 9 (.both [(10, .done)])))])]), (6, .both [(4, .both [(7, .take 8 (.take 9 (.both [(10, .done)])))])])])]))))) (by kernel_rfl) (by kernel_rfl) ?_ ?_
                · (refine zc ?_; try exact trivial)
                  all_goals omega
                · (refine zc ?_; try exact trivial)
                  refine a_drawC (⟨[V.cell (.ptr (.arg 0) 0), .undef, .undef, V.cell (.ptr (.loc [3]) 0), V.int .i64 1, V.int .i64 (ps.length : Int), V.cell (.ptr (.loc [6]) 0), .undef, .undef, .undef, .undef, .undef, .undef, .undef, .undef, .undef, .undef, .undef, .undef, .undef, .undef, .undef, .undef, .undef, .undef, .undef, .undef, .undef, .undef, .undef, .undef, .undef, .undef, .undef, .undef, .undef, .undef, .undef, .undef, .undef, .undef, .undef, .undef, .undef, .undef, .undef, .undef, .undef, .undef, .undef, .undef, .undef, .undef, .undef, .undef, .undef, .undef, .undef, .undef, .undef, .undef, .undef, .undef, .undef, .undef, .undef, .undef, .undef, .undef, .undef, .undef, .undef, .undef, .undef, .undef, .undef, .undef, .undef, .undef, .undef, .undef, .undef, .undef, .undef, .undef, .undef, .undef, .undef, .undef, .undef, .undef, .undef, .undef, .undef, .undef, .undef, .undef, .undef, .undef, .undef, .undef, .undef, .undef, .undef, .undef, .undef, .undef, .undef, .undef, .undef, .undef], [(.loc [6], [.val (.int .u16 (U16 (a.getD ps.length 0))), .val (.int .u16 (U16 (b.getD ps.length 0)))]), (.loc [3], evC e), (.arg 0, ctC (.lst .no none 2 (ins code)) cap fuel p0 p1 seed l0 l1 (a.length : Int) (b.length : Int) over winner why opn (.lst (.tag (.cell (.arg 0) 14)) none 1 (ls fU (a))) (.lst (.tag (.cell (.arg 0) 15)) none 1 (ls fU (b))) (.lst (.tag (.cell (.arg 0) 16)) none 2 (prs (ps ++ [(a.getD ps.length 0, b.getD ps.length 0)]))) ((stepP code cap fuel sx (a.getD ps.length 0) (b.getD ps.length 0)).1) (.lst (.tag (.cell (.arg 0) 37)) none 6 (evs events)))]⟩) (.take 0 (.take 1 (.take 2 (.take 3 (.take 5 (.take 6 (.take 7 (.both [(4, .both [(8, .both [(9, .both [(10, .take 11 (.take 12 (.take 13 (.take 14 (.take 15 (.both [(16, .done)]))))))])]), (9, .both [(8, .both [(10, .take 11 (.take 12 (.take 13 (.take 14 (.take 15 (.both [(16, .done)]))))))])])]), (8, .both [(4, .both [(9, .both [(10, .take 11 (.take 12 (.take 13 (.take 14 (.take 15 (.both [(16, .done)]))))))])]), (9, .both [(4, .both [(10, .take 11 (.take 12 (.take 13 (.take 14 (.take 15 (.both [(16, .done)]))))))])])]), (9, .both [(4, .both [(8, .both [(10, .take 11 (.take 12 (.take 13 (.take 14 (.take 15 (.both [(16, .done)]))))))])]), (8, .both [(4, .both [(10, .take 11 (.take 12 (.take 13 (.take 14 (.take 15 (.both [(16, .done)]))))))])])])])))))))) (by kernel_rfl) (by kernel_rfl) ?_ ?_
                  · (refine zc ?_; try exact trivial)
                    have hst := step_h code cap fuel sx (a.getD ps.length 0) (b.getD ps.length 0) (by omega) hp2
                    refine a_call [] hst ok0 ?_ ?_ ?_
                    · (refine zs ?_; try exact trivial)
                    · (refine zs ?_; try exact trivial)
                    rintro _ _ ⟨rfl, rfl⟩
                    (refine zc ?_; try exact trivial)
                    all_goals exact leCs_refl _
                  · (refine zc ?_; try exact trivial)
                    refine ⟨(ps ++ [(a.getD ps.length 0, b.getD ps.length 0)], (stepP code cap fuel sx (a.getD ps.length 0) (b.getD ps.length 0)).1), ?_, ⟨?_, ?_, ?_⟩, ?_⟩
                    · simp; omega
                    · simp; omega
                    · exact step_B32 _ _ _ _ _ _ hp2
                    · simp only [List.length_append, List.length_cons, List.length_nil]
                      rw [show min a.length b.length - (ps.length + (0 + 1)) = m by omega]
                      exact hp3
                    · try (refine zs ?_; try exact trivial)
            · have e0 : cuP code cap fuel a b (min a.length b.length - ps.length) ps sx = (ps, sx) := by
                rw [show min a.length b.length - ps.length = 0 by omega]; rfl
              rw [e0] at hp3
              cases hp3
              (refine zs ?_; try exact trivial)
              all_goals exact ct_le ⟨leC_refl _, rfl, rfl, rfl, rfl, rfl, rfl, rfl, rfl, rfl, rfl, rfl, rfl, rfl, leC_refl _, leC_refl _, leC_refl _, rfl, leC_refl _⟩
end Go.Proofs.Ytamcjecgkfmjkaa

/- Chapter 18: a match is opened; an input ahead of the other's. -/
open Go Go.RowKit
namespace Go.Proofs.Ytamcjecgkfmjkaa
set_option linter.unusedSimpArgs false
set_option linter.unusedVariables false
def openP (c : Ct) (e : Ev) : Ct := { c with opn := true, p0 := e.player, p1 := e.other, seed := UInt32.ofNat e.n.toNat, st := startS (UInt32.ofNat e.n.toNat) }
attribute [-go_sem] e_both in
set_option maxHeartbeats 16000000 in
theorem open_h (c : Ct) (e : Ev) (hn : 0 ≤ e.n ∧ e.n ≤ 4294967295) : Holds Try.prog 37 [.ptr (.arg 0) 0, .ev e] [(.arg 0, ctB (.arg 0) c)] (fun r h' => r = .tup [] ∧ h' = [(.arg 0, ctB (.arg 0) (openP c e))]) := by
  have hU : ∀ z : Int, 0 ≤ z ∧ z ≤ 4294967295 → U32 (UInt32.ofNat z.toNat) = z := fun z hz => by unfold U32; rw [UInt32.toNat_ofNat']; omega
  have e0 := hU e.n hn
  refine holds_of_awp Try.func37 rfl (by decide +kernel) mixed Try.ntmps37 Try.results37 ?_
  simp only [entrySt, List.map_cons, List.map_nil, List.length_cons, List.length_nil, Nat.reduceAdd, Nat.reduceSub, List.replicate_succ, List.replicate_zero, List.cons_append, List.nil_append]
  (refine zs ?_; try exact trivial)
  refine a_drawC (⟨[V.cell (.ptr (.arg 0) 0), .undef, .undef, .undef, .undef, .undef, .undef, .undef, .undef, .undef, .undef, .undef, .undef, .undef, .undef, .undef, .undef, .undef, .undef, .undef, .undef, .undef, .undef, .undef, .undef, .undef, .undef, .undef, .undef, .undef, .undef, .undef, .undef], [(.arg 0, ctB (.arg 0) { c with opn := true, p0 := e.player, p1 := e.other, seed := UInt32.ofNat e.n.toNat })]⟩) (.take 0 (.take 1 (.take 2 (.take 3 (.take 5 (.take 8 (.take 11 (.take 12 (.take 13 (.both [(4, .both [(6, .both [(7, .both [(9, .take 10 (.both [(14, .take 15 (.take 16 (.take 17 (.both [(18, .take 19 (.take 20 (.take 21 (.both [(22, .done)]))))]))))])), (14, .take 15 (.take 16 (.take 17 (.both [(9, .take 10 (.both [(18, .take 19 (.take 20 (.take 21 (.both [(22, .done)]))))])), (18, .both [(9, .take 10 (.take 19 (.take 20 (.take 21 (.both [(22, .done)])))))])]))))]), (9, .take 10 (.both [(7, .both [(14, .take 15 (.take 16 (.take 17 (.both [(18, .take 19 (.take 20 (.take 21 (.both [(22, .done)]))))]))))]), (14, .both [(7, .take 15 (.take 16 (.take 17 (.both [(18, .take 19 (.take 20 (.take 21 (.both [(22, .done)]))))]))))])])), (14, .both [(7, .take 15 (.take 16 (.take 17 (.both [(9, .take 10 (.both [(18, .take 19 (.take 20 (.take 21 (.both [(22, .done)]))))])), (18, .both [(9, .take 10 (.take 19 (.take 20 (.take 21 (.both [(22, .done)])))))])])))), (9, .take 10 (.both [(7, .take 15 (.take 16 (.take 17 (.both [(18, .take 19 (.take 20 (.take 21 (.both [(22, .done)]))))]))))]))])]), (9, .take 10 (.both [(6, .both [(7, .both [(14, .take 15 (.take 16 (.take 17 (.both [(18, .take 19 (.take 20 (.take 21 (.both [(22, .done)]))))]))))]), (14, .both [(7, .take 15 (.take 16 (.take 17 (.both [(18, .take 19 (.take 20 (.take 21 (.both [(22, .done)]))))]))))])]), (14, .both [(6, .both [(7, .take 15 (.take 16 (.take 17 (.both [(18, .take 19 (.take 20 (.take 21 (.both [(22, .done)]))))]))))])])])), (14, .both [(6, .both [(7, .take 15 (.take 16 (.take 17 (.both [(9, .take 10 (.both [(18, .take 19 (.take 20 (.take 21 (.both [(22, .done)]))))])), (18, .both [(9, .take 10 (.take 19 (.take 20 (.take 21 (.both [(22, .done)])))))])])))), (9, .take 10 (.both [(7, .take 15 (.take 16 (.take 17 (.both [(18, .take 19 (.take 20 (.take 21 (.both [(22, .done)]))))]))))]))]), (9, .take 10 (.both [(6, .both [(7, .take 15 (.take 16 (.take 17 (.both [(18, .take 19 (.take 20 (.take 21 (.both [(22, .done)]))))]))))])]))])]), (6, .both [(4, .both [(7, .both [(9, .take 10 (.both [(14, .take 15 (.take 16 (.take 17 (.both [(18, .take 19 (.take 20 (.take 21 (.both [(22, .done)]))))]))))])), (14, .take 15 (.take 16 (.take 17 (.both [(9, .take 10 (.both [(18, .take 19 (.take 20 (.take 21 (.both [(22, .done)]))))])), (18, .both [(9, .take 10 (.take 19 (.take 20 (.take 21 (.both [(22, .done)])))))])]))))]), (9, .take 10 (.both [(7, .both [(14, .take 15 (.take 16 (.take 17 (.both [(18, .take 19 (.take 20 (.take 21 (.both [(22, .done)]))))]))))]), (14, .both [(7, .take 15 (.take 16 (.take 17 (.both [(18, .take 19 (.take 20 (.take 21 (.both [(22, .done)]))))]))))])])), (14, .both [(7, .take 15 (.take 16 (.take 17 (.both [(9, .take 10 (.both [(18, .take 19 (.take 20 (.take 21 (.both [(22, .done)]))))])), (18, .both [(9, .take 10 (.take 19 (.take 20 (.take 21 (.both [(22, .done)])))))])])))), (9, .take 10 (.both [(7, .take 15 (.take 16 (.take 17 (.both [(18, .take 19 (.take 20 (.take 21 (.both [(22, .done)]))))]))))]))])]), (9, .take 10 (.both [(4, .both [(7, .both [(14, .take 15 (.take 16 (.take 17 (.both [(18, .take 19 (.take 20 (.take 21 (.both [(22, .done)]))))]))))]), (14, .both [(7, .take 15 (.take 16 (.take 17 (.both [(18, .take 19 (.take 20 (.take 21 (.both [(22, .done)]))))]))))])]), (14, .both [(4, .both [(7, .take 15 (.take 16 (.take 17 (.both [(18, .take 19 (.take 20 (.take 21 (.both [(22, .done)]))))]))))])])])), (14, .both [(4, .both [(7, .take 15 (.take 16 (.take 17 (.both [(9, .take 10 (.both [(18, .take 19 (.take 20 (.take 21 (.both [(22, .done)]))))])), (18, .both [(9, .take 10 (.take 19 (.take 20 (.take 21 (.both [(22, .done)])))))])])))), (9, .take 10 (.both [(7, .take 15 (.take 16 (.take 17 (.both [(18, .take 19 (.take 20 (.take 21 (.both [(22, .done)]))))]))))]))]), (9, .take 10 (.both [(4, .both [(7, .take 15 (.take 16 (.take 17 (.both [(18, .take 19 (.take 20 (.take 21 (.both [(22, .done)]))))]))))])]))])]), (9, .take 10 (.both [(4, .both [(6, .both [(7, .both [(14, .take 15 (.take 16 (.take 17 (.both [(18, .take 19 (.take 20 (.take 21 (.both [(22, .done)]))))]))))]), (14, .both [(7, .take 15 (.take 16 (.take 17 (.both [(18, .take 19 (.take 20 (.take 21 (.both [(22, .done)]))))]))))])]), (14, .both [(6, .both [(7, .take 15 (.take 16 (.take 17 (.both [(18, .take 19 (.take 20 (.take 21 (.both [(22, .done)]))))]))))])])]), (6, .both [(4, .both [(7, .both [(14, .take 15 (.take 16 (.take 17 (.both [(18, .take 19 (.take 20 (.take 21 (.both [(22, .done)]))))]))))]), (14, .both [(7, .take 15 (.take 16 (.take 17 (.both [(18, .take 19 (.take 20 (.take 21 (.both [(22, .done)]))))]))))])]), (14, .both [(4, .both [(7, .take 15 (.take 16 (.take 17 (.both [(18, .take 19 (.take 20 (.take 21 (.both [(22, .done)]))))]))))])])]), (14, .both [(4, .both [(6, .both [(7, .take 15 (.take 16 (.take 17 (.both [(18, .take 19 (.take 20 (.take 21 (.both [(22, .done)]))))]))))])]), (6, .both [(4, .both [(7, .take 15 (.take 16 (.take 17 (.both [(18, .take 19 (.take 20 (.take 21 (.both [(22, .done)]))))]))))])])])])), (14, .both [(4, .both [(6, .both [(7, .take 15 (.take 16 (.take 17 (.both [(9, .take 10 (.both [(18, .take 19 (.take 20 (.take 21 (.both [(22, .done)]))))])), (18, .both [(9, .take 10 (.take 19 (.take 20 (.take 21 (.both [(22, .done)])))))])])))), (9, .take 10 (.both [(7, .take 15 (.take 16 (.take 17 (.both [(18, .take 19 (.take 20 (.take 21 (.both [(22, .done)]))))]))))]))]), (9, .take 10 (.both [(6, .both [(7, .take 15 (.take 16 (.take 17 (.both [(18, .take 19 (.take 20 (.take 21 (.both [(22, .done)]))))]))))])]))]), (6, .both [(4, .both [(7, .take 15 (.take 16 (.take 17 (.both [(9, .take 10 (.both [(18, .take 19 (.take 20 (.take 21 (.both [(22, .done)]))))])), (18, .both [(9, .take 10 (.take 19 (.take 20 (.take 21 (.both [(22, .done)])))))])])))), (9, .take 10 (.both [(7, .take 15 (.take 16 (.take 17 (.both [(18, .take 19 (.take 20 (.take 21 (.both [(22, .done)]))))]))))]))]), (9, .take 10 (.both [(4, .both [(7, .take 15 (.take 16 (.take 17 (.both [(18, .take 19 (.take 20 (.take 21 (.both [(22, .done)]))))]))))])]))]), (9, .take 10 (.both [(4, .both [(6, .both [(7, .take 15 (.take 16 (.take 17 (.both [(18, .take 19 (.take 20 (.take 21 (.both [(22, .done)]))))]))))])]), (6, .both [(4, .both [(7, .take 15 (.take 16 (.take 17 (.both [(18, .take 19 (.take 20 (.take 21 (.both [(22, .done)]))))]))))])])]))])])))))))))) (by kernel_rfl) (by kernel_rfl) ?_ ?_
  · (refine zs ?_; try exact trivial)
    iterate 9
      all_goals first
        | done
        | (simp only [e_both]
           (refine zs ?_; try exact trivial)
           repeat' (with_reducible apply And.intro))
        | skip
  · (refine zc ?_; try exact trivial)
    refine a_call [] (start_h (UInt32.ofNat e.n.toNat)) ok0 ?_ ?_ ?_
    · (refine zs ?_; try exact trivial)
    · (refine zs ?_; try exact trivial)
    rintro _ _ ⟨rfl, rfl⟩
    (refine zc ?_; try exact trivial)
    exact ct_le ⟨leC_refl _, rfl, rfl, rfl, rfl, rfl, rfl, rfl, rfl, rfl, rfl, rfl, rfl, rfl, leC_refl _, leC_refl _, leC_refl _, rfl, leC_refl _⟩
end Go.Proofs.Ytamcjecgkfmjkaa

/- The logic: states, events, numbers in a row compared. -/
open Go Go.RowKit
namespace Go.Proofs.Ytamcjecgkfmjkaa
set_option linter.unusedSimpArgs false
set_option linter.unusedVariables false
def eqS (s t : Sta) : Bool := decide (s.frame = t.frame) && decide (s.cells = t.cells) && decide (s.seed = t.seed) && (s.over == t.over) && decide (s.win = t.win)
theorem eqS_iff {s t : Sta} : eqS s t = true ↔ s = t := by
  unfold eqS
  simp only [Bool.and_eq_true, decide_eq_true_eq, beq_iff_eq]
  constructor
  · rintro ⟨⟨⟨⟨a, b⟩, c⟩, d⟩, e⟩; exact Sta.ext' a b c d e
  · rintro rfl; exact ⟨⟨⟨⟨rfl, rfl⟩, rfl⟩, rfl⟩, rfl⟩
@[go_sem] theorem eqS_refl {s : Sta} : eqS s s = true := eqS_iff.2 rfl
def uvS (s : Sta) : List Value := .int .i64 s.frame :: (s.cells.map (fun n => Value.int .i32 n) ++ [.int .u32 (U32 s.seed), .bool s.over, .int .i64 s.win])
theorem uvS_sd (s : Sta) : (sd s).map D.toC = (uvS s).map C.val := by
  simp [sd, uvS, c32, D.toC]
theorem val_inj : ∀ {us vs : List Value}, us.map C.val = vs.map C.val → us = vs
  | [], [], _ => rfl
  | [], _ :: _, h => by simp at h
  | _ :: _, [], h => by simp at h
  | u :: us, v :: vs, h => by
    simp only [List.map_cons, List.cons.injEq, C.val.injEq] at h
    rw [h.1, val_inj h.2]
theorem uvS_inj {s t : Sta} : uvS s = uvS t ↔ s = t := by
  constructor
  · intro h
    unfold uvS at h
    simp only [List.cons.injEq, Value.int.injEq, true_and] at h
    obtain ⟨h1, h2⟩ := h
    obtain ⟨h3, h4⟩ := List.append_inj h2 (by simp [s.len, t.len])
    simp only [List.cons.injEq, Value.int.injEq, Value.bool.injEq, true_and, and_true] at h4
    refine Sta.ext' h1 ?_ (U32_inj.1 h4.1) h4.2.1 h4.2.2
    exact List.map_inj_right (fun a b h => by simpa using h) |>.1 h3
  · rintro rfl; rfl
theorem All2.app {α β : Type} {R : α → β → Prop} {a c : List α} {b d : List β} (h1 : All2 R a b) (h2 : All2 R c d) : All2 R (a ++ c) (b ++ d) := by
  induction h1 with
  | nil => exact h2
  | cons h _ ih => exact .cons h ih
theorem ok_i32 : ∀ (l : List Int), All2 okK (List.replicate l.length (some .i32)) (l.map (fun n => Value.int .i32 n))
  | [] => .nil
  | x :: l => .cons ⟨_, rfl⟩ (ok_i32 l)
theorem uvS_ok (s : Sta) : All2 okK ([some .i64, some .i32, some .i32, some .i32, some .i32, some .i32, some .i32, some .i32, some .i32, some .i32, some .i32, some .i32, some .i32, some .i32, some .i32, some .i32, some .i32, some .u32, none, some .i64] : List (Option IntKind)) (uvS s) := by
  have h := ok_i32 s.cells
  rw [s.len] at h
  show All2 okK (some .i64 :: (List.replicate 16 (some .i32) ++ [some .u32, none, some .i64])) _
  exact .cons ⟨_, rfl⟩ (h.app (c := [some .u32, none, some .i64]) (.cons ⟨_, rfl⟩ (.cons ⟨_, rfl⟩ (.cons ⟨_, rfl⟩ .nil))))
@[congr] theorem cg_aEqA2 {q q' : Option (List (Option IntKind))} {cs ds cs' ds' : List C} {J : Bool → Prop} (h0 : q = q') (h1 : cs = cs') (h2 : ds = ds') : aEqA q cs ds J = aEqA q' cs' ds' J := by subst h0; subst h1; subst h2; rfl
@[go_sem] theorem e_eqS {s t : Sta} {K : Bool → Prop} : aEqA (some [some .i64, some .i32, some .i32, some .i32, some .i32, some .i32, some .i32, some .i32, some .i32, some .i32, some .i32, some .i32, some .i32, some .i32, some .i32, some .i32, some .i32, some .u32, none, some .i64]) ((sd s).map D.toC) ((sd t).map D.toC) K = K (eqS s t) := by
  refine propext ⟨?_, fun h => ?_⟩
  · rintro ⟨ks, us, vs, hq, hu, hv, _, _, h⟩
    refine h _ ?_
    rw [eqS_iff, ← uvS_inj]
    rw [uvS_sd] at hu hv
    rw [val_inj hu, val_inj hv]
  · refine ⟨_, _, _, rfl, uvS_sd s, uvS_sd t, uvS_ok s, uvS_ok t, fun b hb => ?_⟩
    rw [uvS_inj, ← eqS_iff] at hb
    rw [Bool.eq_iff_iff.2 hb]; exact h
@[go_sem] theorem e_eqSl {s : Sta} {f : Int} {K : Bool → Prop} : aEqA (some [some .i64, some .i32, some .i32, some .i32, some .i32, some .i32, some .i32, some .i32, some .i32, some .i32, some .i32, some .i32, some .i32, some .i32, some .i32, some .i32, some .i32, some .u32, none, some .i64]) ((sd s).map D.toC) [.val (.int .i64 f), .val (.int .i32 0), .val (.int .i32 0), .val (.int .i32 0), .val (.int .i32 0), .val (.int .i32 0), .val (.int .i32 0), .val (.int .i32 0), .val (.int .i32 0), .val (.int .i32 0), .val (.int .i32 0), .val (.int .i32 0), .val (.int .i32 0), .val (.int .i32 0), .val (.int .i32 0), .val (.int .i32 0), .val (.int .i32 0), .val (.int .u32 0), .val (.bool false), .val (.int .i64 0)] K = K (eqS s (stz f 0)) := e_eqS (t := stz f 0)
@[go_sem 1100] theorem e_eqEv {x0 y0 : Int} {x1 y1 : Int} {x2 y2 : Int} {x3 y3 : Int} {x4 y4 : Int} {x5 y5 : Int} {K : Bool → Prop} : aEqA (some [some .i64, some .i64, some .i64, some .i64, some .u16, some .i64]) [.val (.int .i64 x0), .val (.int .i64 x1), .val (.int .i64 x2), .val (.int .i64 x3), .val (.int .u16 x4), .val (.int .i64 x5)] [.val (.int .i64 y0), .val (.int .i64 y1), .val (.int .i64 y2), .val (.int .i64 y3), .val (.int .u16 y4), .val (.int .i64 y5)] K = K (decide (x0 = y0 ∧ x1 = y1 ∧ x2 = y2 ∧ x3 = y3 ∧ x4 = y4 ∧ x5 = y5)) := by
  have key : ([.int .i64 x0, .int .i64 x1, .int .i64 x2, .int .i64 x3, .int .u16 x4, .int .i64 x5] : List Value) = [.int .i64 y0, .int .i64 y1, .int .i64 y2, .int .i64 y3, .int .u16 y4, .int .i64 y5] ↔ (x0 = y0 ∧ x1 = y1 ∧ x2 = y2 ∧ x3 = y3 ∧ x4 = y4 ∧ x5 = y5) := by simp
  refine propext ⟨?_, fun h => ?_⟩
  · rintro ⟨ks, us, vs, hq, hu, hv, _, _, h⟩
    refine h _ ?_
    have hu' : us = [.int .i64 x0, .int .i64 x1, .int .i64 x2, .int .i64 x3, .int .u16 x4, .int .i64 x5] := val_inj (us := us) (vs := [.int .i64 x0, .int .i64 x1, .int .i64 x2, .int .i64 x3, .int .u16 x4, .int .i64 x5]) hu.symm
    have hv' : vs = [.int .i64 y0, .int .i64 y1, .int .i64 y2, .int .i64 y3, .int .u16 y4, .int .i64 y5] := val_inj (us := vs) (vs := [.int .i64 y0, .int .i64 y1, .int .i64 y2, .int .i64 y3, .int .u16 y4, .int .i64 y5]) hv.symm
    rw [hu', hv', decide_eq_true_eq, key]
  · refine ⟨_, [.int .i64 x0, .int .i64 x1, .int .i64 x2, .int .i64 x3, .int .u16 x4, .int .i64 x5], [.int .i64 y0, .int .i64 y1, .int .i64 y2, .int .i64 y3, .int .u16 y4, .int .i64 y5], rfl, rfl, rfl, (.cons ⟨_, rfl⟩ (.cons ⟨_, rfl⟩ (.cons ⟨_, rfl⟩ (.cons ⟨_, rfl⟩ (.cons ⟨_, rfl⟩ (.cons ⟨_, rfl⟩ .nil)))))), (.cons ⟨_, rfl⟩ (.cons ⟨_, rfl⟩ (.cons ⟨_, rfl⟩ (.cons ⟨_, rfl⟩ (.cons ⟨_, rfl⟩ (.cons ⟨_, rfl⟩ .nil)))))), fun b hb => ?_⟩
    rw [key] at hb
    have : b = decide (x0 = y0 ∧ x1 = y1 ∧ x2 = y2 ∧ x3 = y3 ∧ x4 = y4 ∧ x5 = y5) := by rw [Bool.eq_iff_iff, hb, decide_eq_true_eq]
    rw [this]; exact h
@[go_sem 1100] theorem e_eqSt {x0 y0 : Int} {x1 y1 : Int} {x2 y2 : Int} {x3 y3 : Int} {x4 y4 : Int} {x5 y5 : Int} {x6 y6 : Int} {x7 y7 : Bool} {x8 y8 : Int} {x9 y9 : Int} {x10 y10 : Bool} {K : Bool → Prop} : aEqA (some [some .i64, some .i64, some .u32, some .i64, some .i64, some .i64, some .i64, none, some .i64, some .i64, none]) [.val (.int .i64 x0), .val (.int .i64 x1), .val (.int .u32 x2), .val (.int .i64 x3), .val (.int .i64 x4), .val (.int .i64 x5), .val (.int .i64 x6), .val (.bool x7), .val (.int .i64 x8), .val (.int .i64 x9), .val (.bool x10)] [.val (.int .i64 y0), .val (.int .i64 y1), .val (.int .u32 y2), .val (.int .i64 y3), .val (.int .i64 y4), .val (.int .i64 y5), .val (.int .i64 y6), .val (.bool y7), .val (.int .i64 y8), .val (.int .i64 y9), .val (.bool y10)] K = K (decide (x0 = y0 ∧ x1 = y1 ∧ x2 = y2 ∧ x3 = y3 ∧ x4 = y4 ∧ x5 = y5 ∧ x6 = y6 ∧ x7 = y7 ∧ x8 = y8 ∧ x9 = y9 ∧ x10 = y10)) := by
  have key : ([.int .i64 x0, .int .i64 x1, .int .u32 x2, .int .i64 x3, .int .i64 x4, .int .i64 x5, .int .i64 x6, .bool x7, .int .i64 x8, .int .i64 x9, .bool x10] : List Value) = [.int .i64 y0, .int .i64 y1, .int .u32 y2, .int .i64 y3, .int .i64 y4, .int .i64 y5, .int .i64 y6, .bool y7, .int .i64 y8, .int .i64 y9, .bool y10] ↔ (x0 = y0 ∧ x1 = y1 ∧ x2 = y2 ∧ x3 = y3 ∧ x4 = y4 ∧ x5 = y5 ∧ x6 = y6 ∧ x7 = y7 ∧ x8 = y8 ∧ x9 = y9 ∧ x10 = y10) := by simp
  refine propext ⟨?_, fun h => ?_⟩
  · rintro ⟨ks, us, vs, hq, hu, hv, _, _, h⟩
    refine h _ ?_
    have hu' : us = [.int .i64 x0, .int .i64 x1, .int .u32 x2, .int .i64 x3, .int .i64 x4, .int .i64 x5, .int .i64 x6, .bool x7, .int .i64 x8, .int .i64 x9, .bool x10] := val_inj (us := us) (vs := [.int .i64 x0, .int .i64 x1, .int .u32 x2, .int .i64 x3, .int .i64 x4, .int .i64 x5, .int .i64 x6, .bool x7, .int .i64 x8, .int .i64 x9, .bool x10]) hu.symm
    have hv' : vs = [.int .i64 y0, .int .i64 y1, .int .u32 y2, .int .i64 y3, .int .i64 y4, .int .i64 y5, .int .i64 y6, .bool y7, .int .i64 y8, .int .i64 y9, .bool y10] := val_inj (us := vs) (vs := [.int .i64 y0, .int .i64 y1, .int .u32 y2, .int .i64 y3, .int .i64 y4, .int .i64 y5, .int .i64 y6, .bool y7, .int .i64 y8, .int .i64 y9, .bool y10]) hv.symm
    rw [hu', hv', decide_eq_true_eq, key]
  · refine ⟨_, [.int .i64 x0, .int .i64 x1, .int .u32 x2, .int .i64 x3, .int .i64 x4, .int .i64 x5, .int .i64 x6, .bool x7, .int .i64 x8, .int .i64 x9, .bool x10], [.int .i64 y0, .int .i64 y1, .int .u32 y2, .int .i64 y3, .int .i64 y4, .int .i64 y5, .int .i64 y6, .bool y7, .int .i64 y8, .int .i64 y9, .bool y10], rfl, rfl, rfl, (.cons ⟨_, rfl⟩ (.cons ⟨_, rfl⟩ (.cons ⟨_, rfl⟩ (.cons ⟨_, rfl⟩ (.cons ⟨_, rfl⟩ (.cons ⟨_, rfl⟩ (.cons ⟨_, rfl⟩ (.cons ⟨_, rfl⟩ (.cons ⟨_, rfl⟩ (.cons ⟨_, rfl⟩ (.cons ⟨_, rfl⟩ .nil))))))))))), (.cons ⟨_, rfl⟩ (.cons ⟨_, rfl⟩ (.cons ⟨_, rfl⟩ (.cons ⟨_, rfl⟩ (.cons ⟨_, rfl⟩ (.cons ⟨_, rfl⟩ (.cons ⟨_, rfl⟩ (.cons ⟨_, rfl⟩ (.cons ⟨_, rfl⟩ (.cons ⟨_, rfl⟩ (.cons ⟨_, rfl⟩ .nil))))))))))), fun b hb => ?_⟩
    rw [key] at hb
    have : b = decide (x0 = y0 ∧ x1 = y1 ∧ x2 = y2 ∧ x3 = y3 ∧ x4 = y4 ∧ x5 = y5 ∧ x6 = y6 ∧ x7 = y7 ∧ x8 = y8 ∧ x9 = y9 ∧ x10 = y10) := by rw [Bool.eq_iff_iff, hb, decide_eq_true_eq]
    rw [this]; exact h
@[go_sem 1100] theorem e_eqP2 {x0 y0 : Int} {x1 y1 : Int} {K : Bool → Prop} : aEqA (some [some .i64, some .i64]) [.val (.int .i64 x0), .val (.int .i64 x1)] [.val (.int .i64 y0), .val (.int .i64 y1)] K = K (decide (x0 = y0 ∧ x1 = y1)) := by
  have key : ([.int .i64 x0, .int .i64 x1] : List Value) = [.int .i64 y0, .int .i64 y1] ↔ (x0 = y0 ∧ x1 = y1) := by simp
  refine propext ⟨?_, fun h => ?_⟩
  · rintro ⟨ks, us, vs, hq, hu, hv, _, _, h⟩
    refine h _ ?_
    have hu' : us = [.int .i64 x0, .int .i64 x1] := val_inj (us := us) (vs := [.int .i64 x0, .int .i64 x1]) hu.symm
    have hv' : vs = [.int .i64 y0, .int .i64 y1] := val_inj (us := vs) (vs := [.int .i64 y0, .int .i64 y1]) hv.symm
    rw [hu', hv', decide_eq_true_eq, key]
  · refine ⟨_, [.int .i64 x0, .int .i64 x1], [.int .i64 y0, .int .i64 y1], rfl, rfl, rfl, (.cons ⟨_, rfl⟩ (.cons ⟨_, rfl⟩ .nil)), (.cons ⟨_, rfl⟩ (.cons ⟨_, rfl⟩ .nil)), fun b hb => ?_⟩
    rw [key] at hb
    have : b = decide (x0 = y0 ∧ x1 = y1) := by rw [Bool.eq_iff_iff, hb, decide_eq_true_eq]
    rw [this]; exact h
@[go_sem 1100] theorem e_eqU2 {x0 y0 : Int} {x1 y1 : Int} {K : Bool → Prop} : aEqA (some [some .u16, some .u16]) [.val (.int .u16 x0), .val (.int .u16 x1)] [.val (.int .u16 y0), .val (.int .u16 y1)] K = K (decide (x0 = y0 ∧ x1 = y1)) := by
  have key : ([.int .u16 x0, .int .u16 x1] : List Value) = [.int .u16 y0, .int .u16 y1] ↔ (x0 = y0 ∧ x1 = y1) := by simp
  refine propext ⟨?_, fun h => ?_⟩
  · rintro ⟨ks, us, vs, hq, hu, hv, _, _, h⟩
    refine h _ ?_
    have hu' : us = [.int .u16 x0, .int .u16 x1] := val_inj (us := us) (vs := [.int .u16 x0, .int .u16 x1]) hu.symm
    have hv' : vs = [.int .u16 y0, .int .u16 y1] := val_inj (us := vs) (vs := [.int .u16 y0, .int .u16 y1]) hv.symm
    rw [hu', hv', decide_eq_true_eq, key]
  · refine ⟨_, [.int .u16 x0, .int .u16 x1], [.int .u16 y0, .int .u16 y1], rfl, rfl, rfl, (.cons ⟨_, rfl⟩ (.cons ⟨_, rfl⟩ .nil)), (.cons ⟨_, rfl⟩ (.cons ⟨_, rfl⟩ .nil)), fun b hb => ?_⟩
    rw [key] at hb
    have : b = decide (x0 = y0 ∧ x1 = y1) := by rw [Bool.eq_iff_iff, hb, decide_eq_true_eq]
    rw [this]; exact h
end Go.Proofs.Ytamcjecgkfmjkaa

/- Chapter 18: how each kind of event is done. (written by gen18g.py) -/
open Go Go.RowKit
namespace Go.Proofs.Ytamcjecgkfmjkaa
set_option linter.unusedSimpArgs false
set_option linter.unusedVariables false
def howsC : List C := [.val .nilFunc, .val .nilFunc, .val .nilFunc,
  .fn (.func 36) [] [], .fn (.func 37) [] [], .fn (.func 38) [] [],
  .fn (.func 39) [] [], .fn (.func 40) [] [], .fn (.func 41) [] [],
  .fn (.func 42) [] [], .fn (.func 43) [] [], .fn (.func 44) [] [],
  .fn (.func 45) [] [], .fn (.func 46) [] [], .fn (.func 47) [] [],
  .fn (.func 48) [] [], .fn (.func 49) [] [], .fn (.func 50) [] []]
@[go_sem] theorem u16_0 : U16 0 = 0 := nr rfl
@[go_sem] theorem u32_0 : U32 0 = 0 := nr rfl
theorem not_t {b : Bool} (d : (!b) = true) : ¬ b = true := by cases b <;> simp_all
theorem not_f {b : Bool} (d : (!b) = false) : b = true := by cases b <;> simp_all
@[go_sem] theorem hw_k {bi : Id → Bool} {bt : Tag → Bool} : howsC.map (C.clean bi bt) = howsC := nr rfl
@[go_sem] theorem hw_r {ks : List Id} {d : Nat} : howsC.map (C.ren ks d) = howsC := nr rfl
@[go_sem] theorem hw_t {ta tb : Tag} : howsC.map (C.retag ta tb) = howsC := nr rfl
@[go_sem] theorem hw_n : howsC.all known = true := nr rfl
@[go_sem] theorem hw_l : howsC.length = 18 := nr rfl
@[go_sem 1300] theorem hw_1 : List.take 3 (List.drop 3 howsC) = [.fn (.func 36) [] [], .fn (.func 37) [] [], .fn (.func 38) [] []] := nr rfl
@[go_sem 1300] theorem hw_2 : List.take 3 (List.drop 6 howsC) = [.fn (.func 39) [] [], .fn (.func 40) [] [], .fn (.func 41) [] []] := nr rfl
@[go_sem 1300] theorem hw_3 : List.take 3 (List.drop 9 howsC) = [.fn (.func 42) [] [], .fn (.func 43) [] [], .fn (.func 44) [] []] := nr rfl
@[go_sem 1300] theorem hw_4 : List.take 3 (List.drop 12 howsC) = [.fn (.func 45) [] [], .fn (.func 46) [] [], .fn (.func 47) [] []] := nr rfl
@[go_sem 1300] theorem hw_5 : List.take 3 (List.drop 15 howsC) = [.fn (.func 48) [] [], .fn (.func 49) [] [], .fn (.func 50) [] []] := nr rfl
@[go_sem 1300] theorem hw_td : List.take 18 (List.drop 0 howsC) = howsC := nr rfl
@[go_sem ↓ 1300] theorem hw_le : leCs howsC howsC = True := eq_true (leCs_refl _)
theorem hows_h : Holds Try.prog 27 [] [] (fun r h' => r = .w (.agg howsC) ∧ h' = []) := by
  refine holds_of_awp Try.func27 rfl (by decide +kernel) mixed Try.ntmps27 Try.results27 ?_
  simp only [entrySt, List.map_cons, List.map_nil, List.length_cons, List.length_nil, Nat.reduceAdd, Nat.reduceSub, List.replicate_succ, List.replicate_zero, List.cons_append, List.nil_append]
  unfold howsC
  (refine zs ?_; try exact trivial)
  exact leCs_refl _
theorem may0_h (e : Ev) : Holds Try.prog 20 [.c (.val (.pointer none)), .ev e] [] (fun r h' => r = .int .i64 1 ∧ h' = []) := by
  refine holds_of_awp Try.func20 rfl (by decide +kernel) mixed Try.ntmps20 Try.results20 ?_
  simp only [entrySt, List.map_cons, List.map_nil, List.length_cons, List.length_nil, Nat.reduceAdd, Nat.reduceSub, List.replicate_succ, List.replicate_zero, List.cons_append, List.nil_append]
  (refine zs ?_; try exact trivial)
theorem apply0_h (e : Ev) : Holds Try.prog 13 [.c (.val (.pointer none)), .ev e] [] (fun r h' => r = .int .i64 1 ∧ h' = []) := by
  refine holds_of_awp Try.func13 rfl (by decide +kernel) mixed Try.ntmps13 Try.results13 ?_
  simp only [entrySt, List.map_cons, List.map_nil, List.length_cons, List.length_nil, Nat.reduceAdd, Nat.reduceSub, List.replicate_succ, List.replicate_zero, List.cons_append, List.nil_append]
  (refine zs ?_; try exact trivial)
  refine a_call [] (may0_h e) ok0 ?_ ?_ ?_
  · (refine zs ?_; try exact trivial)
  · (refine zs ?_; try exact trivial)
  rintro _ _ ⟨rfl, rfl⟩
  (refine zc ?_; try exact trivial)
/-- has an event nothing but what its kind names? -/
def bareB (e : Ev) : Bool :=
  if e.kind = 1 then decide (e.frame = 0 ∧ U16 e.inp = 0)
  else if e.kind = 3 then decide (e.other = 0 ∧ e.n = 0)
  else if e.kind = 5 then decide (e.other = 0 ∧ e.frame = 0 ∧ U16 e.inp = 0)
  else decide (e.other = 0 ∧ e.frame = 0 ∧ U16 e.inp = 0 ∧ e.n = 0)
def may1P (c : Ct) (e : Ev) : Int :=
  if e.kind = 1 then mayOpenP c e else if e.kind = 2 then mayJoinP c e else if e.kind = 3 then mayInputP c e else if e.kind = 4 then actP c e.player else mayResultP c e
def mayP18 (c : Ct) (e : Ev) : Int := if e.kind < 1 ∨ 6 ≤ e.kind then 3 else if bareB e = true then may1P c e else 3
abbrev fnR1 : List C := [.fn (.func 36) [] [], .fn (.func 37) [] [], .fn (.func 38) [] []]
abbrev fnR2 : List C := [.fn (.func 39) [] [], .fn (.func 40) [] [], .fn (.func 41) [] []]
abbrev fnR3 : List C := [.fn (.func 42) [] [], .fn (.func 43) [] [], .fn (.func 44) [] []]
abbrev fnR4 : List C := [.fn (.func 45) [] [], .fn (.func 46) [] [], .fn (.func 47) [] []]
abbrev fnR5 : List C := [.fn (.func 48) [] [], .fn (.func 49) [] [], .fn (.func 50) [] []]
set_option maxHeartbeats 4000000 in
theorem may1_h (c : Ct) (player other frame n : Int) (inp : UInt16) : Holds Try.prog 20 [.ptr (.arg 0) 0, .ev ⟨1, player, other, frame, inp, n⟩] [(.arg 0, ctB (.arg 0) c)] (fun r h' => r = .int .i64 (mayP18 c ⟨1, player, other, frame, inp, n⟩) ∧ h' = [(.arg 0, ctB (.arg 0) c)]) := by
  have eb : bareB ⟨1, player, other, frame, inp, n⟩ = decide (frame = 0 ∧ U16 inp = 0) := rfl
  have em : mayP18 c ⟨1, player, other, frame, inp, n⟩ = if decide (frame = 0 ∧ U16 inp = 0) = true then mayOpenP c ⟨1, player, other, frame, inp, n⟩ else 3 := by
    unfold mayP18
    rw [if_neg (by simp only; omega), eb]
    rfl
  rw [em]
  refine holds_of_awp Try.func20 rfl (by decide +kernel) mixed Try.ntmps20 Try.results20 ?_
  simp only [entrySt, List.map_cons, List.map_nil, List.length_cons, List.length_nil, Nat.reduceAdd, Nat.reduceSub, List.replicate_succ, List.replicate_zero, List.cons_append, List.nil_append]
  (refine zc ?_; try exact trivial)
  refine a_drawC (⟨[V.cell (.ptr (.arg 0) 0), .undef, .undef, V.cell (.ptr (.loc [3]) 0), .undef, V.cell (.ptr (.loc [5]) 0), .undef, .undef, .undef, .undef, .undef, .undef, .undef, .undef, .undef, .undef, .undef, .undef, .undef, .undef, .undef, .undef, .undef, .undef, .undef, .undef, .undef, .undef, .undef, .undef, .undef, .undef, .undef], [(.loc [5], fnR1), (.loc [3], evC ⟨1, player, other, frame, inp, n⟩), (.arg 0, ctB (.arg 0) c)]⟩) (.take 1 (.both [(0, .both [(2, .take 3 (.both [(4, .both [(5, .done)])])), (4, .both [(2, .take 3 (.both [(5, .done)]))])]), (2, .both [(0, .take 3 (.both [(4, .both [(5, .done)])])), (4, .both [(0, .take 3 (.both [(5, .done)]))])]), (4, .both [(0, .both [(2, .take 3 (.both [(5, .done)]))]), (2, .both [(0, .take 3 (.both [(5, .done)]))])])])) (by kernel_rfl) (by kernel_rfl) ?_ ?_
  · (refine zc ?_; try exact trivial)
    repeat' (with_reducible apply And.intro)
    all_goals (
      refine a_call [] (hows_h) ok0 ?_ ?_ ?_
      · (refine zs ?_; try exact trivial)
      · (refine zs ?_; try exact trivial)
      rintro _ _ ⟨rfl, rfl⟩
      (refine zc ?_; try exact trivial))
  · (refine zc ?_; try exact trivial)
    refine a_drawC (⟨[V.cell (.ptr (.arg 0) 0), .undef, .undef, V.cell (.ptr (.loc [3]) 0), .undef, V.cell (.ptr (.loc [5]) 0), .undef, .undef, .undef, .undef, .undef, .undef, .undef, .undef, .undef, .undef, .undef, .undef, .undef, .undef, .undef, .undef, .undef, .undef, .undef, .undef, .undef, V.bool (!decide (frame = 0 ∧ U16 inp = 0)), .undef, .undef, .undef, .undef, .undef], [(.loc [5], fnR1), (.loc [3], evC ⟨1, player, other, frame, inp, n⟩), (.arg 0, ctB (.arg 0) c)]⟩) (.take 0 (.take 4 (.both [(1, .both [(2, .both [(3, .both [(5, .both [(6, .take 7 (.done))])]), (5, .both [(3, .both [(6, .take 7 (.done))]), (6, .both [(3, .take 7 (.done))])])]), (5, .both [(2, .both [(3, .both [(6, .take 7 (.done))]), (6, .both [(3, .take 7 (.done))])]), (6, .both [(2, .both [(3, .take 7 (.done))])])])]), (2, .both [(1, .both [(3, .both [(5, .both [(6, .take 7 (.done))])]), (5, .both [(3, .both [(6, .take 7 (.done))]), (6, .both [(3, .take 7 (.done))])])]), (5, .both [(1, .both [(3, .both [(6, .take 7 (.done))]), (6, .both [(3, .take 7 (.done))])]), (6, .both [(1, .both [(3, .take 7 (.done))])])])]), (5, .both [(1, .both [(2, .both [(3, .both [(6, .take 7 (.done))]), (6, .both [(3, .take 7 (.done))])]), (6, .both [(2, .both [(3, .take 7 (.done))])])]), (2, .both [(1, .both [(3, .both [(6, .take 7 (.done))]), (6, .both [(3, .take 7 (.done))])]), (6, .both [(1, .both [(3, .take 7 (.done))])])]), (6, .both [(1, .both [(2, .both [(3, .take 7 (.done))])]), (2, .both [(1, .both [(3, .take 7 (.done))])])])])]))) (by kernel_rfl) (by kernel_rfl) ?_ ?_
    · (refine zc ?_; try exact trivial)
      repeat' (with_reducible apply And.intro)
      all_goals (
        refine a_call [] (bare1_h ⟨1, player, other, frame, inp, n⟩) ok0 ?_ ?_ ?_
        · (refine zs ?_; try exact trivial)
        · (refine zs ?_; try exact trivial)
        rintro _ _ ⟨rfl, rfl⟩
        (refine zc ?_; try exact trivial))
    · (refine zs ?_; try exact trivial)
      refine c_b (fun d => ?_) (fun d => ?_)
      · have d' : ¬ decide (frame = 0 ∧ U16 inp = 0) = true := not_t d
        rw [if_neg d']
        (refine zs ?_; try exact trivial)
      · have d' : decide (frame = 0 ∧ U16 inp = 0) = true := not_f d
        rw [if_pos d']
        (refine zs ?_; try exact trivial)
        refine a_call [.arg 0] (mayOpen_h c ⟨1, player, other, frame, inp, n⟩) (ok1 rfl) ?_ ?_ ?_
        · (refine zs ?_; try exact trivial)
        · (refine zs ?_; try exact trivial)
        rintro _ _ ⟨rfl, rfl⟩
        (refine zs ?_; try exact trivial)
set_option maxHeartbeats 4000000 in
theorem may2_h (c : Ct) (player other frame n : Int) (inp : UInt16) : Holds Try.prog 20 [.ptr (.arg 0) 0, .ev ⟨2, player, other, frame, inp, n⟩] [(.arg 0, ctB (.arg 0) c)] (fun r h' => r = .int .i64 (mayP18 c ⟨2, player, other, frame, inp, n⟩) ∧ h' = [(.arg 0, ctB (.arg 0) c)]) := by
  have eb : bareB ⟨2, player, other, frame, inp, n⟩ = decide (other = 0 ∧ frame = 0 ∧ U16 inp = 0 ∧ n = 0) := rfl
  have em : mayP18 c ⟨2, player, other, frame, inp, n⟩ = if decide (other = 0 ∧ frame = 0 ∧ U16 inp = 0 ∧ n = 0) = true then mayJoinP c ⟨2, player, other, frame, inp, n⟩ else 3 := by
    unfold mayP18
    rw [if_neg (by simp only; omega), eb]
    rfl
  rw [em]
  refine holds_of_awp Try.func20 rfl (by decide +kernel) mixed Try.ntmps20 Try.results20 ?_
  simp only [entrySt, List.map_cons, List.map_nil, List.length_cons, List.length_nil, Nat.reduceAdd, Nat.reduceSub, List.replicate_succ, List.replicate_zero, List.cons_append, List.nil_append]
  (refine zc ?_; try exact trivial)
  refine a_drawC (⟨[V.cell (.ptr (.arg 0) 0), .undef, .undef, V.cell (.ptr (.loc [3]) 0), .undef, V.cell (.ptr (.loc [5]) 0), .undef, .undef, .undef, .undef, .undef, .undef, .undef, .undef, .undef, .undef, .undef, .undef, .undef, .undef, .undef, .undef, .undef, .undef, .undef, .undef, .undef, .undef, .undef, .undef, .undef, .undef, .undef], [(.loc [5], fnR2), (.loc [3], evC ⟨2, player, other, frame, inp, n⟩), (.arg 0, ctB (.arg 0) c)]⟩) (.take 1 (.both [(0, .both [(2, .take 3 (.both [(4, .both [(5, .done)])])), (4, .both [(2, .take 3 (.both [(5, .done)]))])]), (2, .both [(0, .take 3 (.both [(4, .both [(5, .done)])])), (4, .both [(0, .take 3 (.both [(5, .done)]))])]), (4, .both [(0, .both [(2, .take 3 (.both [(5, .done)]))]), (2, .both [(0, .take 3 (.both [(5, .done)]))])])])) (by kernel_rfl) (by kernel_rfl) ?_ ?_
  · (refine zc ?_; try exact trivial)
    repeat' (with_reducible apply And.intro)
    all_goals (
      refine a_call [] (hows_h) ok0 ?_ ?_ ?_
      · (refine zs ?_; try exact trivial)
      · (refine zs ?_; try exact trivial)
      rintro _ _ ⟨rfl, rfl⟩
      (refine zc ?_; try exact trivial))
  · (refine zc ?_; try exact trivial)
    refine a_drawC (⟨[V.cell (.ptr (.arg 0) 0), .undef, .undef, V.cell (.ptr (.loc [3]) 0), .undef, V.cell (.ptr (.loc [5]) 0), .undef, .undef, .undef, .undef, .undef, .undef, .undef, .undef, .undef, .undef, .undef, .undef, .undef, .undef, .undef, .undef, .undef, .undef, .undef, .undef, .undef, V.bool (!decide (other = 0 ∧ frame = 0 ∧ U16 inp = 0 ∧ n = 0)), .undef, .undef, .undef, .undef, .undef], [(.loc [5], fnR2), (.loc [3], evC ⟨2, player, other, frame, inp, n⟩), (.arg 0, ctB (.arg 0) c)]⟩) (.take 0 (.take 4 (.both [(1, .both [(2, .both [(3, .both [(5, .both [(6, .take 7 (.done))])]), (5, .both [(3, .both [(6, .take 7 (.done))]), (6, .both [(3, .take 7 (.done))])])]), (5, .both [(2, .both [(3, .both [(6, .take 7 (.done))]), (6, .both [(3, .take 7 (.done))])]), (6, .both [(2, .both [(3, .take 7 (.done))])])])]), (2, .both [(1, .both [(3, .both [(5, .both [(6, .take 7 (.done))])]), (5, .both [(3, .both [(6, .take 7 (.done))]), (6, .both [(3, .take 7 (.done))])])]), (5, .both [(1, .both [(3, .both [(6, .take 7 (.done))]), (6, .both [(3, .take 7 (.done))])]), (6, .both [(1, .both [(3, .take 7 (.done))])])])]), (5, .both [(1, .both [(2, .both [(3, .both [(6, .take 7 (.done))]), (6, .both [(3, .take 7 (.done))])]), (6, .both [(2, .both [(3, .take 7 (.done))])])]), (2, .both [(1, .both [(3, .both [(6, .take 7 (.done))]), (6, .both [(3, .take 7 (.done))])]), (6, .both [(1, .both [(3, .take 7 (.done))])])]), (6, .both [(1, .both [(2, .both [(3, .take 7 (.done))])]), (2, .both [(1, .both [(3, .take 7 (.done))])])])])]))) (by kernel_rfl) (by kernel_rfl) ?_ ?_
    · (refine zc ?_; try exact trivial)
      repeat' (with_reducible apply And.intro)
      all_goals (
        refine a_call [] (bare2_h ⟨2, player, other, frame, inp, n⟩) ok0 ?_ ?_ ?_
        · (refine zs ?_; try exact trivial)
        · (refine zs ?_; try exact trivial)
        rintro _ _ ⟨rfl, rfl⟩
        (refine zc ?_; try exact trivial))
    · (refine zs ?_; try exact trivial)
      refine c_b (fun d => ?_) (fun d => ?_)
      · have d' : ¬ decide (other = 0 ∧ frame = 0 ∧ U16 inp = 0 ∧ n = 0) = true := not_t d
        rw [if_neg d']
        (refine zs ?_; try exact trivial)
      · have d' : decide (other = 0 ∧ frame = 0 ∧ U16 inp = 0 ∧ n = 0) = true := not_f d
        rw [if_pos d']
        (refine zs ?_; try exact trivial)
        refine a_call [.arg 0] (mayJoin_h c ⟨2, player, other, frame, inp, n⟩) (ok1 rfl) ?_ ?_ ?_
        · (refine zs ?_; try exact trivial)
        · (refine zs ?_; try exact trivial)
        rintro _ _ ⟨rfl, rfl⟩
        (refine zs ?_; try exact trivial)
set_option maxHeartbeats 4000000 in
theorem may3_h (c : Ct) (player other frame n : Int) (inp : UInt16) (h0 : c.in0.length ≤ 1000000) (h1 : c.in1.length ≤ 1000000) : Holds Try.prog 20 [.ptr (.arg 0) 0, .ev ⟨3, player, other, frame, inp, n⟩] [(.arg 0, ctB (.arg 0) c)] (fun r h' => r = .int .i64 (mayP18 c ⟨3, player, other, frame, inp, n⟩) ∧ h' = [(.arg 0, ctB (.arg 0) c)]) := by
  have eb : bareB ⟨3, player, other, frame, inp, n⟩ = decide (other = 0 ∧ n = 0) := rfl
  have em : mayP18 c ⟨3, player, other, frame, inp, n⟩ = if decide (other = 0 ∧ n = 0) = true then mayInputP c ⟨3, player, other, frame, inp, n⟩ else 3 := by
    unfold mayP18
    rw [if_neg (by simp only; omega), eb]
    rfl
  rw [em]
  refine holds_of_awp Try.func20 rfl (by decide +kernel) mixed Try.ntmps20 Try.results20 ?_
  simp only [entrySt, List.map_cons, List.map_nil, List.length_cons, List.length_nil, Nat.reduceAdd, Nat.reduceSub, List.replicate_succ, List.replicate_zero, List.cons_append, List.nil_append]
  (refine zc ?_; try exact trivial)
  refine a_drawC (⟨[V.cell (.ptr (.arg 0) 0), .undef, .undef, V.cell (.ptr (.loc [3]) 0), .undef, V.cell (.ptr (.loc [5]) 0), .undef, .undef, .undef, .undef, .undef, .undef, .undef, .undef, .undef, .undef, .undef, .undef, .undef, .undef, .undef, .undef, .undef, .undef, .undef, .undef, .undef, .undef, .undef, .undef, .undef, .undef, .undef], [(.loc [5], fnR3), (.loc [3], evC ⟨3, player, other, frame, inp, n⟩), (.arg 0, ctB (.arg 0) c)]⟩) (.take 1 (.both [(0, .both [(2, .take 3 (.both [(4, .both [(5, .done)])])), (4, .both [(2, .take 3 (.both [(5, .done)]))])]), (2, .both [(0, .take 3 (.both [(4, .both [(5, .done)])])), (4, .both [(0, .take 3 (.both [(5, .done)]))])]), (4, .both [(0, .both [(2, .take 3 (.both [(5, .done)]))]), (2, .both [(0, .take 3 (.both [(5, .done)]))])])])) (by kernel_rfl) (by kernel_rfl) ?_ ?_
  · (refine zc ?_; try exact trivial)
    repeat' (with_reducible apply And.intro)
    all_goals (
      refine a_call [] (hows_h) ok0 ?_ ?_ ?_
      · (refine zs ?_; try exact trivial)
      · (refine zs ?_; try exact trivial)
      rintro _ _ ⟨rfl, rfl⟩
      (refine zc ?_; try exact trivial))
  · (refine zc ?_; try exact trivial)
    refine a_drawC (⟨[V.cell (.ptr (.arg 0) 0), .undef, .undef, V.cell (.ptr (.loc [3]) 0), .undef, V.cell (.ptr (.loc [5]) 0), .undef, .undef, .undef, .undef, .undef, .undef, .undef, .undef, .undef, .undef, .undef, .undef, .undef, .undef, .undef, .undef, .undef, .undef, .undef, .undef, .undef, V.bool (!decide (other = 0 ∧ n = 0)), .undef, .undef, .undef, .undef, .undef], [(.loc [5], fnR3), (.loc [3], evC ⟨3, player, other, frame, inp, n⟩), (.arg 0, ctB (.arg 0) c)]⟩) (.take 0 (.take 4 (.both [(1, .both [(2, .both [(3, .both [(5, .both [(6, .take 7 (.done))])]), (5, .both [(3, .both [(6, .take 7 (.done))]), (6, .both [(3, .take 7 (.done))])])]), (5, .both [(2, .both [(3, .both [(6, .take 7 (.done))]), (6, .both [(3, .take 7 (.done))])]), (6, .both [(2, .both [(3, .take 7 (.done))])])])]), (2, .both [(1, .both [(3, .both [(5, .both [(6, .take 7 (.done))])]), (5, .both [(3, .both [(6, .take 7 (.done))]), (6, .both [(3, .take 7 (.done))])])]), (5, .both [(1, .both [(3, .both [(6, .take 7 (.done))]), (6, .both [(3, .take 7 (.done))])]), (6, .both [(1, .both [(3, .take 7 (.done))])])])]), (5, .both [(1, .both [(2, .both [(3, .both [(6, .take 7 (.done))]), (6, .both [(3, .take 7 (.done))])]), (6, .both [(2, .both [(3, .take 7 (.done))])])]), (2, .both [(1, .both [(3, .both [(6, .take 7 (.done))]), (6, .both [(3, .take 7 (.done))])]), (6, .both [(1, .both [(3, .take 7 (.done))])])]), (6, .both [(1, .both [(2, .both [(3, .take 7 (.done))])]), (2, .both [(1, .both [(3, .take 7 (.done))])])])])]))) (by kernel_rfl) (by kernel_rfl) ?_ ?_
    · (refine zc ?_; try exact trivial)
      repeat' (with_reducible apply And.intro)
      all_goals (
        refine a_call [] (bare3_h ⟨3, player, other, frame, inp, n⟩) ok0 ?_ ?_ ?_
        · (refine zs ?_; try exact trivial)
        · (refine zs ?_; try exact trivial)
        rintro _ _ ⟨rfl, rfl⟩
        (refine zc ?_; try exact trivial))
    · (refine zs ?_; try exact trivial)
      refine c_b (fun d => ?_) (fun d => ?_)
      · have d' : ¬ decide (other = 0 ∧ n = 0) = true := not_t d
        rw [if_neg d']
        (refine zs ?_; try exact trivial)
      · have d' : decide (other = 0 ∧ n = 0) = true := not_f d
        rw [if_pos d']
        (refine zs ?_; try exact trivial)
        refine a_call [.arg 0] (mayInput_h c ⟨3, player, other, frame, inp, n⟩ h0 h1) (ok1 rfl) ?_ ?_ ?_
        · (refine zs ?_; try exact trivial)
        · (refine zs ?_; try exact trivial)
        rintro _ _ ⟨rfl, rfl⟩
        (refine zs ?_; try exact trivial)
set_option maxHeartbeats 4000000 in
theorem may4_h (c : Ct) (player other frame n : Int) (inp : UInt16) : Holds Try.prog 20 [.ptr (.arg 0) 0, .ev ⟨4, player, other, frame, inp, n⟩] [(.arg 0, ctB (.arg 0) c)] (fun r h' => r = .int .i64 (mayP18 c ⟨4, player, other, frame, inp, n⟩) ∧ h' = [(.arg 0, ctB (.arg 0) c)]) := by
  have eb : bareB ⟨4, player, other, frame, inp, n⟩ = decide (other = 0 ∧ frame = 0 ∧ U16 inp = 0 ∧ n = 0) := rfl
  have em : mayP18 c ⟨4, player, other, frame, inp, n⟩ = if decide (other = 0 ∧ frame = 0 ∧ U16 inp = 0 ∧ n = 0) = true then actP c player else 3 := by
    unfold mayP18
    rw [if_neg (by simp only; omega), eb]
    rfl
  rw [em]
  refine holds_of_awp Try.func20 rfl (by decide +kernel) mixed Try.ntmps20 Try.results20 ?_
  simp only [entrySt, List.map_cons, List.map_nil, List.length_cons, List.length_nil, Nat.reduceAdd, Nat.reduceSub, List.replicate_succ, List.replicate_zero, List.cons_append, List.nil_append]
  (refine zc ?_; try exact trivial)
  refine a_drawC (⟨[V.cell (.ptr (.arg 0) 0), .undef, .undef, V.cell (.ptr (.loc [3]) 0), .undef, V.cell (.ptr (.loc [5]) 0), .undef, .undef, .undef, .undef, .undef, .undef, .undef, .undef, .undef, .undef, .undef, .undef, .undef, .undef, .undef, .undef, .undef, .undef, .undef, .undef, .undef, .undef, .undef, .undef, .undef, .undef, .undef], [(.loc [5], fnR4), (.loc [3], evC ⟨4, player, other, frame, inp, n⟩), (.arg 0, ctB (.arg 0) c)]⟩) (.take 1 (.both [(0, .both [(2, .take 3 (.both [(4, .both [(5, .done)])])), (4, .both [(2, .take 3 (.both [(5, .done)]))])]), (2, .both [(0, .take 3 (.both [(4, .both [(5, .done)])])), (4, .both [(0, .take 3 (.both [(5, .done)]))])]), (4, .both [(0, .both [(2, .take 3 (.both [(5, .done)]))]), (2, .both [(0, .take 3 (.both [(5, .done)]))])])])) (by kernel_rfl) (by kernel_rfl) ?_ ?_
  · (refine zc ?_; try exact trivial)
    repeat' (with_reducible apply And.intro)
    all_goals (
      refine a_call [] (hows_h) ok0 ?_ ?_ ?_
      · (refine zs ?_; try exact trivial)
      · (refine zs ?_; try exact trivial)
      rintro _ _ ⟨rfl, rfl⟩
      (refine zc ?_; try exact trivial))
  · (refine zc ?_; try exact trivial)
    refine a_drawC (⟨[V.cell (.ptr (.arg 0) 0), .undef, .undef, V.cell (.ptr (.loc [3]) 0), .undef, V.cell (.ptr (.loc [5]) 0), .undef, .undef, .undef, .undef, .undef, .undef, .undef, .undef, .undef, .undef, .undef, .undef, .undef, .undef, .undef, .undef, .undef, .undef, .undef, .undef, .undef, V.bool (!decide (other = 0 ∧ frame = 0 ∧ U16 inp = 0 ∧ n = 0)), .undef, .undef, .undef, .undef, .undef], [(.loc [5], fnR4), (.loc [3], evC ⟨4, player, other, frame, inp, n⟩), (.arg 0, ctB (.arg 0) c)]⟩) (.take 0 (.take 4 (.both [(1, .both [(2, .both [(3, .both [(5, .both [(6, .take 7 (.done))])]), (5, .both [(3, .both [(6, .take 7 (.done))]), (6, .both [(3, .take 7 (.done))])])]), (5, .both [(2, .both [(3, .both [(6, .take 7 (.done))]), (6, .both [(3, .take 7 (.done))])]), (6, .both [(2, .both [(3, .take 7 (.done))])])])]), (2, .both [(1, .both [(3, .both [(5, .both [(6, .take 7 (.done))])]), (5, .both [(3, .both [(6, .take 7 (.done))]), (6, .both [(3, .take 7 (.done))])])]), (5, .both [(1, .both [(3, .both [(6, .take 7 (.done))]), (6, .both [(3, .take 7 (.done))])]), (6, .both [(1, .both [(3, .take 7 (.done))])])])]), (5, .both [(1, .both [(2, .both [(3, .both [(6, .take 7 (.done))]), (6, .both [(3, .take 7 (.done))])]), (6, .both [(2, .both [(3, .take 7 (.done))])])]), (2, .both [(1, .both [(3, .both [(6, .take 7 (.done))]), (6, .both [(3, .take 7 (.done))])]), (6, .both [(1, .both [(3, .take 7 (.done))])])]), (6, .both [(1, .both [(2, .both [(3, .take 7 (.done))])]), (2, .both [(1, .both [(3, .take 7 (.done))])])])])]))) (by kernel_rfl) (by kernel_rfl) ?_ ?_
    · (refine zc ?_; try exact trivial)
      repeat' (with_reducible apply And.intro)
      all_goals (
        refine a_call [] (bare4_h ⟨4, player, other, frame, inp, n⟩) ok0 ?_ ?_ ?_
        · (refine zs ?_; try exact trivial)
        · (refine zs ?_; try exact trivial)
        rintro _ _ ⟨rfl, rfl⟩
        (refine zc ?_; try exact trivial))
    · (refine zs ?_; try exact trivial)
      refine c_b (fun d => ?_) (fun d => ?_)
      · have d' : ¬ decide (other = 0 ∧ frame = 0 ∧ U16 inp = 0 ∧ n = 0) = true := not_t d
        rw [if_neg d']
        (refine zs ?_; try exact trivial)
      · have d' : decide (other = 0 ∧ frame = 0 ∧ U16 inp = 0 ∧ n = 0) = true := not_f d
        rw [if_pos d']
        (refine zs ?_; try exact trivial)
        refine a_call [.arg 0] (mayForfeit_h c ⟨4, player, other, frame, inp, n⟩) (ok1 rfl) ?_ ?_ ?_
        · (refine zs ?_; try exact trivial)
        · (refine zs ?_; try exact trivial)
        rintro _ _ ⟨rfl, rfl⟩
        (refine zs ?_; try exact trivial)
set_option maxHeartbeats 4000000 in
theorem may5_h (c : Ct) (player other frame n : Int) (inp : UInt16) (hw : 0 ≤ c.st.win ∧ c.st.win ≤ 2) : Holds Try.prog 20 [.ptr (.arg 0) 0, .ev ⟨5, player, other, frame, inp, n⟩] [(.arg 0, ctB (.arg 0) c)] (fun r h' => r = .int .i64 (mayP18 c ⟨5, player, other, frame, inp, n⟩) ∧ h' = [(.arg 0, ctB (.arg 0) c)]) := by
  have eb : bareB ⟨5, player, other, frame, inp, n⟩ = decide (other = 0 ∧ frame = 0 ∧ U16 inp = 0) := rfl
  have em : mayP18 c ⟨5, player, other, frame, inp, n⟩ = if decide (other = 0 ∧ frame = 0 ∧ U16 inp = 0) = true then mayResultP c ⟨5, player, other, frame, inp, n⟩ else 3 := by
    unfold mayP18
    rw [if_neg (by simp only; omega), eb]
    rfl
  rw [em]
  refine holds_of_awp Try.func20 rfl (by decide +kernel) mixed Try.ntmps20 Try.results20 ?_
  simp only [entrySt, List.map_cons, List.map_nil, List.length_cons, List.length_nil, Nat.reduceAdd, Nat.reduceSub, List.replicate_succ, List.replicate_zero, List.cons_append, List.nil_append]
  (refine zc ?_; try exact trivial)
  refine a_drawC (⟨[V.cell (.ptr (.arg 0) 0), .undef, .undef, V.cell (.ptr (.loc [3]) 0), .undef, V.cell (.ptr (.loc [5]) 0), .undef, .undef, .undef, .undef, .undef, .undef, .undef, .undef, .undef, .undef, .undef, .undef, .undef, .undef, .undef, .undef, .undef, .undef, .undef, .undef, .undef, .undef, .undef, .undef, .undef, .undef, .undef], [(.loc [5], fnR5), (.loc [3], evC ⟨5, player, other, frame, inp, n⟩), (.arg 0, ctB (.arg 0) c)]⟩) (.take 1 (.both [(0, .both [(2, .take 3 (.both [(4, .both [(5, .done)])])), (4, .both [(2, .take 3 (.both [(5, .done)]))])]), (2, .both [(0, .take 3 (.both [(4, .both [(5, .done)])])), (4, .both [(0, .take 3 (.both [(5, .done)]))])]), (4, .both [(0, .both [(2, .take 3 (.both [(5, .done)]))]), (2, .both [(0, .take 3 (.both [(5, .done)]))])])])) (by kernel_rfl) (by kernel_rfl) ?_ ?_
  · (refine zc ?_; try exact trivial)
    repeat' (with_reducible apply And.intro)
    all_goals (
      refine a_call [] (hows_h) ok0 ?_ ?_ ?_
      · (refine zs ?_; try exact trivial)
      · (refine zs ?_; try exact trivial)
      rintro _ _ ⟨rfl, rfl⟩
      (refine zc ?_; try exact trivial))
  · (refine zc ?_; try exact trivial)
    refine a_drawC (⟨[V.cell (.ptr (.arg 0) 0), .undef, .undef, V.cell (.ptr (.loc [3]) 0), .undef, V.cell (.ptr (.loc [5]) 0), .undef, .undef, .undef, .undef, .undef, .undef, .undef, .undef, .undef, .undef, .undef, .undef, .undef, .undef, .undef, .undef, .undef, .undef, .undef, .undef, .undef, V.bool (!decide (other = 0 ∧ frame = 0 ∧ U16 inp = 0)), .undef, .undef, .undef, .undef, .undef], [(.loc [5], fnR5), (.loc [3], evC ⟨5, player, other, frame, inp, n⟩), (.arg 0, ctB (.arg 0) c)]⟩) (.take 0 (.take 4 (.both [(1, .both [(2, .both [(3, .both [(5, .both [(6, .take 7 (.done))])]), (5, .both [(3, .both [(6, .take 7 (.done))]), (6, .both [(3, .take 7 (.done))])])]), (5, .both [(2, .both [(3, .both [(6, .take 7 (.done))]), (6, .both [(3, .take 7 (.done))])]), (6, .both [(2, .both [(3, .take 7 (.done))])])])]), (2, .both [(1, .both [(3, .both [(5, .both [(6, .take 7 (.done))])]), (5, .both [(3, .both [(6, .take 7 (.done))]), (6, .both [(3, .take 7 (.done))])])]), (5, .both [(1, .both [(3, .both [(6, .take 7 (.done))]), (6, .both [(3, .take 7 (.done))])]), (6, .both [(1, .both [(3, .take 7 (.done))])])])]), (5, .both [(1, .both [(2, .both [(3, .both [(6, .take 7 (.done))]), (6, .both [(3, .take 7 (.done))])]), (6, .both [(2, .both [(3, .take 7 (.done))])])]), (2, .both [(1, .both [(3, .both [(6, .take 7 (.done))]), (6, .both [(3, .take 7 (.done))])]), (6, .both [(1, .both [(3, .take 7 (.done))])])]), (6, .both [(1, .both [(2, .both [(3, .take 7 (.done))])]), (2, .both [(1, .both [(3, .take 7 (.done))])])])])]))) (by kernel_rfl) (by kernel_rfl) ?_ ?_
    · (refine zc ?_; try exact trivial)
      repeat' (with_reducible apply And.intro)
      all_goals (
        refine a_call [] (bare5_h ⟨5, player, other, frame, inp, n⟩) ok0 ?_ ?_ ?_
        · (refine zs ?_; try exact trivial)
        · (refine zs ?_; try exact trivial)
        rintro _ _ ⟨rfl, rfl⟩
        (refine zc ?_; try exact trivial))
    · (refine zs ?_; try exact trivial)
      refine c_b (fun d => ?_) (fun d => ?_)
      · have d' : ¬ decide (other = 0 ∧ frame = 0 ∧ U16 inp = 0) = true := not_t d
        rw [if_neg d']
        (refine zs ?_; try exact trivial)
      · have d' : decide (other = 0 ∧ frame = 0 ∧ U16 inp = 0) = true := not_f d
        rw [if_pos d']
        (refine zs ?_; try exact trivial)
        refine a_call [.arg 0] (mayResult_h c ⟨5, player, other, frame, inp, n⟩ hw) (ok1 rfl) ?_ ?_ ?_
        · (refine zs ?_; try exact trivial)
        · (refine zs ?_; try exact trivial)
        rintro _ _ ⟨rfl, rfl⟩
        (refine zs ?_; try exact trivial)
end Go.Proofs.Ytamcjecgkfmjkaa

/- Chapter 18: an event is taken. (written by gen18h.py) -/
open Go Go.RowKit
namespace Go.Proofs.Ytamcjecgkfmjkaa
set_option linter.unusedSimpArgs false
set_option linter.unusedVariables false
@[go_sem 1200] theorem evs_app {l : List Ev} {a b c d f : Int} {x : UInt16} : evs l ++ [.val (.int .i64 a), .val (.int .i64 b), .val (.int .i64 c), .val (.int .i64 d), .val (.int .u16 (U16 x)), .val (.int .i64 f)] = evs (l ++ [⟨a, b, c, d, x, f⟩]) := by
  simp [evs, evD]
def Ct.add (c : Ct) (e : Ev) : Ct := { c with events := c.events ++ [e] }
theorem applyN1_h (c : Ct) (player other frame n : Int) (inp : UInt16) (hm : mayP18 c ⟨1, player, other, frame, inp, n⟩ ≠ 0) : Holds Try.prog 13 [.ptr (.arg 0) 0, .ev ⟨1, player, other, frame, inp, n⟩] [(.arg 0, ctB (.arg 0) c)] (fun r h' => r = .int .i64 (mayP18 c ⟨1, player, other, frame, inp, n⟩) ∧ h' = [(.arg 0, ctB (.arg 0) c)]) := by
  refine holds_of_awp Try.func13 rfl (by decide +kernel) mixed Try.ntmps13 Try.results13 ?_
  simp only [entrySt, List.map_cons, List.map_nil, List.length_cons, List.length_nil, Nat.reduceAdd, Nat.reduceSub, List.replicate_succ, List.replicate_zero, List.cons_append, List.nil_append]
  (refine zs ?_; try exact trivial)
  refine a_call [.arg 0] (may1_h c player other frame n inp) (ok1 rfl) ?_ ?_ ?_
  · (refine zs ?_; try exact trivial)
  · (refine zs ?_; try exact trivial)
  rintro _ _ ⟨rfl, rfl⟩
  (refine zs ?_; try exact trivial)
  refine c_dec (fun h => ?_) (fun h => ?_)
  · (refine zs ?_; try exact trivial)
  · exact (h hm).elim
set_option maxHeartbeats 4000000 in
theorem applyY1_h (c c' : Ct) (player other frame n : Int) (inp : UInt16) (hm : mayP18 c ⟨1, player, other, frame, inp, n⟩ = 0) (hl : c'.events.length ≤ 1000000)
    (hd : Holds Try.prog 37 [.ptr (.arg 0) 0, .ev ⟨1, player, other, frame, inp, n⟩] [(.arg 0, ctB (.arg 0) c)] (fun r h' => r = .tup [] ∧ h' = [(.arg 0, ctB (.arg 0) c')])) :
    Holds Try.prog 13 [.ptr (.arg 0) 0, .ev ⟨1, player, other, frame, inp, n⟩] [(.arg 0, ctB (.arg 0) c)] (fun r h' => r = .int .i64 0 ∧ h' = [(.arg 0, ctB (.arg 0) (c'.add ⟨1, player, other, frame, inp, n⟩))]) := by
  refine holds_of_awp Try.func13 rfl (by decide +kernel) mixed Try.ntmps13 Try.results13 ?_
  simp only [entrySt, List.map_cons, List.map_nil, List.length_cons, List.length_nil, Nat.reduceAdd, Nat.reduceSub, List.replicate_succ, List.replicate_zero, List.cons_append, List.nil_append]
  (refine zs ?_; try exact trivial)
  refine a_call [.arg 0] (may1_h c player other frame n inp) (ok1 rfl) ?_ ?_ ?_
  · (refine zs ?_; try exact trivial)
  · (refine zs ?_; try exact trivial)
  rintro _ _ ⟨rfl, rfl⟩
  rw [hm]
  (refine zc ?_; try exact trivial)
  refine a_drawC (⟨[V.cell (.ptr (.arg 0) 0), .undef, .undef, V.cell (.ptr (.loc [3]) 0), .undef, .undef, .undef, .undef, .undef, .undef, .undef, .undef, .undef, .undef, .undef, .undef, .undef, .undef, .undef, .undef, .undef, .undef, .undef, .undef, .undef, .undef, .undef, .undef, .undef, .undef], [(.loc [3], evC ⟨1, player, other, frame, inp, n⟩), (.arg 0, ctB (.arg 0) c')]⟩) (.take 1 (.take 5 (.both [(0, .both [(2, .take 3 (.take 4 (.both [(6, .both [(7, .done)])]))), (6, .both [(2, .take 3 (.take 4 (.both [(7, .done)])))])]), (2, .both [(0, .take 3 (.take 4 (.both [(6, .both [(7, .done)])]))), (6, .both [(0, .take 3 (.take 4 (.both [(7, .done)])))])]), (6, .both [(0, .both [(2, .take 3 (.take 4 (.both [(7, .done)])))]), (2, .both [(0, .take 3 (.take 4 (.both [(7, .done)])))])])]))) (by kernel_rfl) (by kernel_rfl) ?_ ?_
  · (refine zc ?_; try exact trivial)
    repeat' (with_reducible apply And.intro)
    all_goals (
      refine a_call [] (hows_h) ok0 ?_ ?_ ?_
      · (refine zs ?_; try exact trivial)
      · (refine zs ?_; try exact trivial)
      rintro _ _ ⟨rfl, rfl⟩
      (refine zc ?_; try exact trivial)
      refine a_call [.arg 0] (hd) (ok1 rfl) ?_ ?_ ?_
      · (refine zs ?_; try exact trivial)
      · (refine zs ?_; try exact trivial)
      rintro _ _ ⟨rfl, rfl⟩
      (refine zc ?_; try exact trivial))
  · (refine zc ?_; try exact trivial)
    refine a_drawC (⟨[.undef, .undef, .undef, .undef, .undef, .undef, .undef, .undef, .undef, .undef, .undef, .undef, .undef, .undef, .undef, .undef, .undef, .undef, .undef, .undef, .undef, .undef, .undef, .undef, .undef, .undef, .undef, .undef, .undef, .undef], [(.arg 0, ctB (.arg 0) (c'.add ⟨1, player, other, frame, inp, n⟩))]⟩) (.take 0 (.take 1 (.take 2 (.take 3 (.both [(4, .both [(5, .both [(6, .both [(7, .take 8 (.take 9 (.both [(10, .done)])))])])]), (5, .both [(4, .both [(6, .both [(7, .take 8 (.take 9 (.both [(10, .done)])))])]), (6, .both [(4, .both [(7, .take 8 (.take 9 (.both [(10, .done)])))])])])]))))) (by kernel_rfl) (by kernel_rfl) ?_ ?_
    · (refine zc ?_; try exact trivial)
      repeat' (with_reducible apply And.intro)
      all_goals first | omega | exact leCs_refl _
    · (refine zc ?_; try exact trivial)
theorem applyN2_h (c : Ct) (player other frame n : Int) (inp : UInt16) (hm : mayP18 c ⟨2, player, other, frame, inp, n⟩ ≠ 0) : Holds Try.prog 13 [.ptr (.arg 0) 0, .ev ⟨2, player, other, frame, inp, n⟩] [(.arg 0, ctB (.arg 0) c)] (fun r h' => r = .int .i64 (mayP18 c ⟨2, player, other, frame, inp, n⟩) ∧ h' = [(.arg 0, ctB (.arg 0) c)]) := by
  refine holds_of_awp Try.func13 rfl (by decide +kernel) mixed Try.ntmps13 Try.results13 ?_
  simp only [entrySt, List.map_cons, List.map_nil, List.length_cons, List.length_nil, Nat.reduceAdd, Nat.reduceSub, List.replicate_succ, List.replicate_zero, List.cons_append, List.nil_append]
  (refine zs ?_; try exact trivial)
  refine a_call [.arg 0] (may2_h c player other frame n inp) (ok1 rfl) ?_ ?_ ?_
  · (refine zs ?_; try exact trivial)
  · (refine zs ?_; try exact trivial)
  rintro _ _ ⟨rfl, rfl⟩
  (refine zs ?_; try exact trivial)
  refine c_dec (fun h => ?_) (fun h => ?_)
  · (refine zs ?_; try exact trivial)
  · exact (h hm).elim
set_option maxHeartbeats 4000000 in
theorem applyY2_h (c c' : Ct) (player other frame n : Int) (inp : UInt16) (hm : mayP18 c ⟨2, player, other, frame, inp, n⟩ = 0) (hl : c'.events.length ≤ 1000000)
    (hd : Holds Try.prog 40 [.ptr (.arg 0) 0, .ev ⟨2, player, other, frame, inp, n⟩] [(.arg 0, ctB (.arg 0) c)] (fun r h' => r = .tup [] ∧ h' = [(.arg 0, ctB (.arg 0) c')])) :
    Holds Try.prog 13 [.ptr (.arg 0) 0, .ev ⟨2, player, other, frame, inp, n⟩] [(.arg 0, ctB (.arg 0) c)] (fun r h' => r = .int .i64 0 ∧ h' = [(.arg 0, ctB (.arg 0) (c'.add ⟨2, player, other, frame, inp, n⟩))]) := by
  refine holds_of_awp Try.func13 rfl (by decide +kernel) mixed Try.ntmps13 Try.results13 ?_
  simp only [entrySt, List.map_cons, List.map_nil, List.length_cons, List.length_nil, Nat.reduceAdd, Nat.reduceSub, List.replicate_succ, List.replicate_zero, List.cons_append, List.nil_append]
  (refine zs ?_; try exact trivial)
  refine a_call [.arg 0] (may2_h c player other frame n inp) (ok1 rfl) ?_ ?_ ?_
  · (refine zs ?_; try exact trivial)
  · (refine zs ?_; try exact trivial)
  rintro _ _ ⟨rfl, rfl⟩
  rw [hm]
  (refine zc ?_; try exact trivial)
  refine a_drawC (⟨[V.cell (.ptr (.arg 0) 0), .undef, .undef, V.cell (.ptr (.loc [3]) 0), .undef, .undef, .undef, .undef, .undef, .undef, .undef, .undef, .undef, .undef, .undef, .undef, .undef, .undef, .undef, .undef, .undef, .undef, .undef, .undef, .undef, .undef, .undef, .undef, .undef, .undef], [(.loc [3], evC ⟨2, player, other, frame, inp, n⟩), (.arg 0, ctB (.arg 0) c')]⟩) (.take 1 (.take 5 (.both [(0, .both [(2, .take 3 (.take 4 (.both [(6, .both [(7, .done)])]))), (6, .both [(2, .take 3 (.take 4 (.both [(7, .done)])))])]), (2, .both [(0, .take 3 (.take 4 (.both [(6, .both [(7, .done)])]))), (6, .both [(0, .take 3 (.take 4 (.both [(7, .done)])))])]), (6, .both [(0, .both [(2, .take 3 (.take 4 (.both [(7, .done)])))]), (2, .both [(0, .take 3 (.take 4 (.both [(7, .done)])))])])]))) (by kernel_rfl) (by kernel_rfl) ?_ ?_
  · (refine zc ?_; try exact trivial)
    repeat' (with_reducible apply And.intro)
    all_goals (
      refine a_call [] (hows_h) ok0 ?_ ?_ ?_
      · (refine zs ?_; try exact trivial)
      · (refine zs ?_; try exact trivial)
      rintro _ _ ⟨rfl, rfl⟩
      (refine zc ?_; try exact trivial)
      refine a_call [.arg 0] (hd) (ok1 rfl) ?_ ?_ ?_
      · (refine zs ?_; try exact trivial)
      · (refine zs ?_; try exact trivial)
      rintro _ _ ⟨rfl, rfl⟩
      (refine zc ?_; try exact trivial))
  · (refine zc ?_; try exact trivial)
    refine a_drawC (⟨[.undef, .undef, .undef, .undef, .undef, .undef, .undef, .undef, .undef, .undef, .undef, .undef, .undef, .undef, .undef, .undef, .undef, .undef, .undef, .undef, .undef, .undef, .undef, .undef, .undef, .undef, .undef, .undef, .undef, .undef], [(.arg 0, ctB (.arg 0) (c'.add ⟨2, player, other, frame, inp, n⟩))]⟩) (.take 0 (.take 1 (.take 2 (.take 3 (.both [(4, .both [(5, .both [(6, .both [(7, .take 8 (.take 9 (.both [(10, .done)])))])])]), (5, .both [(4, .both [(6, .both [(7, .take 8 (.take 9 (.both [(10, .done)])))])]), (6, .both [(4, .both [(7, .take 8 (.take 9 (.both [(10, .done)])))])])])]))))) (by kernel_rfl) (by kernel_rfl) ?_ ?_
    · (refine zc ?_; try exact trivial)
      repeat' (with_reducible apply And.intro)
      all_goals first | omega | exact leCs_refl _
    · (refine zc ?_; try exact trivial)
theorem applyN3_h (c : Ct) (player other frame n : Int) (inp : UInt16) (h0 : c.in0.length ≤ 1000000) (h1 : c.in1.length ≤ 1000000) (hm : mayP18 c ⟨3, player, other, frame, inp, n⟩ ≠ 0) : Holds Try.prog 13 [.ptr (.arg 0) 0, .ev ⟨3, player, other, frame, inp, n⟩] [(.arg 0, ctB (.arg 0) c)] (fun r h' => r = .int .i64 (mayP18 c ⟨3, player, other, frame, inp, n⟩) ∧ h' = [(.arg 0, ctB (.arg 0) c)]) := by
  refine holds_of_awp Try.func13 rfl (by decide +kernel) mixed Try.ntmps13 Try.results13 ?_
  simp only [entrySt, List.map_cons, List.map_nil, List.length_cons, List.length_nil, Nat.reduceAdd, Nat.reduceSub, List.replicate_succ, List.replicate_zero, List.cons_append, List.nil_append]
  (refine zs ?_; try exact trivial)
  refine a_call [.arg 0] (may3_h c player other frame n inp h0 h1) (ok1 rfl) ?_ ?_ ?_
  · (refine zs ?_; try exact trivial)
  · (refine zs ?_; try exact trivial)
  rintro _ _ ⟨rfl, rfl⟩
  (refine zs ?_; try exact trivial)
  refine c_dec (fun h => ?_) (fun h => ?_)
  · (refine zs ?_; try exact trivial)
  · exact (h hm).elim
set_option maxHeartbeats 4000000 in
theorem applyY3_h (c c' : Ct) (player other frame n : Int) (inp : UInt16) (h0 : c.in0.length ≤ 1000000) (h1 : c.in1.length ≤ 1000000) (hm : mayP18 c ⟨3, player, other, frame, inp, n⟩ = 0) (hl : c'.events.length ≤ 1000000)
    (hd : Holds Try.prog 43 [.ptr (.arg 0) 0, .ev ⟨3, player, other, frame, inp, n⟩] [(.arg 0, ctB (.arg 0) c)] (fun r h' => r = .tup [] ∧ h' = [(.arg 0, ctB (.arg 0) c')])) :
    Holds Try.prog 13 [.ptr (.arg 0) 0, .ev ⟨3, player, other, frame, inp, n⟩] [(.arg 0, ctB (.arg 0) c)] (fun r h' => r = .int .i64 0 ∧ h' = [(.arg 0, ctB (.arg 0) (c'.add ⟨3, player, other, frame, inp, n⟩))]) := by
  refine holds_of_awp Try.func13 rfl (by decide +kernel) mixed Try.ntmps13 Try.results13 ?_
  simp only [entrySt, List.map_cons, List.map_nil, List.length_cons, List.length_nil, Nat.reduceAdd, Nat.reduceSub, List.replicate_succ, List.replicate_zero, List.cons_append, List.nil_append]
  (refine zs ?_; try exact trivial)
  refine a_call [.arg 0] (may3_h c player other frame n inp h0 h1) (ok1 rfl) ?_ ?_ ?_
  · (refine zs ?_; try exact trivial)
  · (refine zs ?_; try exact trivial)
  rintro _ _ ⟨rfl, rfl⟩
  rw [hm]
  (refine zc ?_; try exact trivial)
  refine a_drawC (⟨[V.cell (.ptr (.arg 0) 0), .undef, .undef, V.cell (.ptr (.loc [3]) 0), .undef, .undef, .undef, .undef, .undef, .undef, .undef, .undef, .undef, .undef, .undef, .undef, .undef, .undef, .undef, .undef, .undef, .undef, .undef, .undef, .undef, .undef, .undef, .undef, .undef, .undef], [(.loc [3], evC ⟨3, player, other, frame, inp, n⟩), (.arg 0, ctB (.arg 0) c')]⟩) (.take 1 (.take 5 (.both [(0, .both [(2, .take 3 (.take 4 (.both [(6, .both [(7, .done)])]))), (6, .both [(2, .take 3 (.take 4 (.both [(7, .done)])))])]), (2, .both [(0, .take 3 (.take 4 (.both [(6, .both [(7, .done)])]))), (6, .both [(0, .take 3 (.take 4 (.both [(7, .done)])))])]), (6, .both [(0, .both [(2, .take 3 (.take 4 (.both [(7, .done)])))]), (2, .both [(0, .take 3 (.take 4 (.both [(7, .done)])))])])]))) (by kernel_rfl) (by kernel_rfl) ?_ ?_
  · (refine zc ?_; try exact trivial)
    repeat' (with_reducible apply And.intro)
    all_goals (
      refine a_call [] (hows_h) ok0 ?_ ?_ ?_
      · (refine zs ?_; try exact trivial)
      · (refine zs ?_; try exact trivial)
      rintro _ _ ⟨rfl, rfl⟩
      (refine zc ?_; try exact trivial)
      refine a_call [.arg 0] (hd) (ok1 rfl) ?_ ?_ ?_
      · (refine zs ?_; try exact trivial)
      · (refine zs ?_; try exact trivial)
      rintro _ _ ⟨rfl, rfl⟩
      (refine zc ?_; try exact trivial))
  · (refine zc ?_; try exact trivial)
    refine a_drawC (⟨[.undef, .undef, .undef, .undef, .undef, .undef, .undef, .undef, .undef, .undef, .undef, .undef, .undef, .undef, .undef, .undef, .undef, .undef, .undef, .undef, .undef, .undef, .undef, .undef, .undef, .undef, .undef, .undef, .undef, .undef], [(.arg 0, ctB (.arg 0) (c'.add ⟨3, player, other, frame, inp, n⟩))]⟩) (.take 0 (.take 1 (.take 2 (.take 3 (.both [(4, .both [(5, .both [(6, .both [(7, .take 8 (.take 9 (.both [(10, .done)])))])])]), (5, .both [(4, .both [(6, .both [(7, .take 8 (.take 9 (.both [(10, .done)])))])]), (6, .both [(4, .both [(7, .take 8 (.take 9 (.both [(10, .done)])))])])])]))))) (by kernel_rfl) (by kernel_rfl) ?_ ?_
    · (refine zc ?_; try exact trivial)
      repeat' (with_reducible apply And.intro)
      all_goals first | omega | exact leCs_refl _
    · (refine zc ?_; try exact trivial)
theorem applyN4_h (c : Ct) (player other frame n : Int) (inp : UInt16) (hm : mayP18 c ⟨4, player, other, frame, inp, n⟩ ≠ 0) : Holds Try.prog 13 [.ptr (.arg 0) 0, .ev ⟨4, player, other, frame, inp, n⟩] [(.arg 0, ctB (.arg 0) c)] (fun r h' => r = .int .i64 (mayP18 c ⟨4, player, other, frame, inp, n⟩) ∧ h' = [(.arg 0, ctB (.arg 0) c)]) := by
  refine holds_of_awp Try.func13 rfl (by decide +kernel) mixed Try.ntmps13 Try.results13 ?_
  simp only [entrySt, List.map_cons, List.map_nil, List.length_cons, List.length_nil, Nat.reduceAdd, Nat.reduceSub, List.replicate_succ, List.replicate_zero, List.cons_append, List.nil_append]
  (refine zs ?_; try exact trivial)
  refine a_call [.arg 0] (may4_h c player other frame n inp) (ok1 rfl) ?_ ?_ ?_
  · (refine zs ?_; try exact trivial)
  · (refine zs ?_; try exact trivial)
  rintro _ _ ⟨rfl, rfl⟩
  (refine zs ?_; try exact trivial)
  refine c_dec (fun h => ?_) (fun h => ?_)
  · (refine zs ?_; try exact trivial)
  · exact (h hm).elim
set_option maxHeartbeats 4000000 in
theorem applyY4_h (c c' : Ct) (player other frame n : Int) (inp : UInt16) (hm : mayP18 c ⟨4, player, other, frame, inp, n⟩ = 0) (hl : c'.events.length ≤ 1000000)
    (hd : Holds Try.prog 46 [.ptr (.arg 0) 0, .ev ⟨4, player, other, frame, inp, n⟩] [(.arg 0, ctB (.arg 0) c)] (fun r h' => r = .tup [] ∧ h' = [(.arg 0, ctB (.arg 0) c')])) :
    Holds Try.prog 13 [.ptr (.arg 0) 0, .ev ⟨4, player, other, frame, inp, n⟩] [(.arg 0, ctB (.arg 0) c)] (fun r h' => r = .int .i64 0 ∧ h' = [(.arg 0, ctB (.arg 0) (c'.add ⟨4, player, other, frame, inp, n⟩))]) := by
  refine holds_of_awp Try.func13 rfl (by decide +kernel) mixed Try.ntmps13 Try.results13 ?_
  simp only [entrySt, List.map_cons, List.map_nil, List.length_cons, List.length_nil, Nat.reduceAdd, Nat.reduceSub, List.replicate_succ, List.replicate_zero, List.cons_append, List.nil_append]
  (refine zs ?_; try exact trivial)
  refine a_call [.arg 0] (may4_h c player other frame n inp) (ok1 rfl) ?_ ?_ ?_
  · (refine zs ?_; try exact trivial)
  · (refine zs ?_; try exact trivial)
  rintro _ _ ⟨rfl, rfl⟩
  rw [hm]
  (refine zc ?_; try exact trivial)
  refine a_drawC (⟨[V.cell (.ptr (.arg 0) 0), .undef, .undef, V.cell (.ptr (.loc [3]) 0), .undef, .undef, .undef, .undef, .undef, .undef, .undef, .undef, .undef, .undef, .undef, .undef, .undef, .undef, .undef, .undef, .undef, .undef, .undef, .undef, .undef, .undef, .undef, .undef, .undef, .undef], [(.loc [3], evC ⟨4, player, other, frame, inp, n⟩), (.arg 0, ctB (.arg 0) c')]⟩) (.take 1 (.take 5 (.both [(0, .both [(2, .take 3 (.take 4 (.both [(6, .both [(7, .done)])]))), (6, .both [(2, .take 3 (.take 4 (.both [(7, .done)])))])]), (2, .both [(0, .take 3 (.take 4 (.both [(6, .both [(7, .done)])]))), (6, .both [(0, .take 3 (.take 4 (.both [(7, .done)])))])]), (6, .both [(0, .both [(2, .take 3 (.take 4 (.both [(7, .done)])))]), (2, .both [(0, .take 3 (.take 4 (.both [(7, .done)])))])])]))) (by kernel_rfl) (by kernel_rfl) ?_ ?_
  · (refine zc ?_; try exact trivial)
    repeat' (with_reducible apply And.intro)
    all_goals (
      refine a_call [] (hows_h) ok0 ?_ ?_ ?_
      · (refine zs ?_; try exact trivial)
      · (refine zs ?_; try exact trivial)
      rintro _ _ ⟨rfl, rfl⟩
      (refine zc ?_; try exact trivial)
      refine a_call [.arg 0] (hd) (ok1 rfl) ?_ ?_ ?_
      · (refine zs ?_; try exact trivial)
      · (refine zs ?_; try exact trivial)
      rintro _ _ ⟨rfl, rfl⟩
      (refine zc ?_; try exact trivial))
  · (refine zc ?_; try exact trivial)
    refine a_drawC (⟨[.undef, .undef, .undef, .undef, .undef, .undef, .undef, .undef, .undef, .undef, .undef, .undef, .undef, .undef, .undef, .undef, .undef, .undef, .undef, .undef, .undef, .undef, .undef, .undef, .undef, .undef, .undef, .undef, .undef, .undef], [(.arg 0, ctB (.arg 0) (c'.add ⟨4, player, other, frame, inp, n⟩))]⟩) (.take 0 (.take 1 (.take 2 (.take 3 (.both [(4, .both [(5, .both [(6, .both [(7, .take 8 (.take 9 (.both [(10, .done)])))])])]), (5, .both [(4, .both [(6, .both [(7, .take 8 (.take 9 (.both [(10, .done)])))])]), (6, .both [(4, .both [(7, .take 8 (.take 9 (.both [(10, .done)])))])])])]))))) (by kernel_rfl) (by kernel_rfl) ?_ ?_
    · (refine zc ?_; try exact trivial)
      repeat' (with_reducible apply And.intro)
      all_goals first | omega | exact leCs_refl _
    · (refine zc ?_; try exact trivial)
theorem applyN5_h (c : Ct) (player other frame n : Int) (inp : UInt16) (hw : 0 ≤ c.st.win ∧ c.st.win ≤ 2) (hm : mayP18 c ⟨5, player, other, frame, inp, n⟩ ≠ 0) : Holds Try.prog 13 [.ptr (.arg 0) 0, .ev ⟨5, player, other, frame, inp, n⟩] [(.arg 0, ctB (.arg 0) c)] (fun r h' => r = .int .i64 (mayP18 c ⟨5, player, other, frame, inp, n⟩) ∧ h' = [(.arg 0, ctB (.arg 0) c)]) := by
  refine holds_of_awp Try.func13 rfl (by decide +kernel) mixed Try.ntmps13 Try.results13 ?_
  simp only [entrySt, List.map_cons, List.map_nil, List.length_cons, List.length_nil, Nat.reduceAdd, Nat.reduceSub, List.replicate_succ, List.replicate_zero, List.cons_append, List.nil_append]
  (refine zs ?_; try exact trivial)
  refine a_call [.arg 0] (may5_h c player other frame n inp hw) (ok1 rfl) ?_ ?_ ?_
  · (refine zs ?_; try exact trivial)
  · (refine zs ?_; try exact trivial)
  rintro _ _ ⟨rfl, rfl⟩
  (refine zs ?_; try exact trivial)
  refine c_dec (fun h => ?_) (fun h => ?_)
  · (refine zs ?_; try exact trivial)
  · exact (h hm).elim
set_option maxHeartbeats 4000000 in
theorem applyY5_h (c c' : Ct) (player other frame n : Int) (inp : UInt16) (hw : 0 ≤ c.st.win ∧ c.st.win ≤ 2) (hm : mayP18 c ⟨5, player, other, frame, inp, n⟩ = 0) (hl : c'.events.length ≤ 1000000)
    (hd : Holds Try.prog 49 [.ptr (.arg 0) 0, .ev ⟨5, player, other, frame, inp, n⟩] [(.arg 0, ctB (.arg 0) c)] (fun r h' => r = .tup [] ∧ h' = [(.arg 0, ctB (.arg 0) c')])) :
    Holds Try.prog 13 [.ptr (.arg 0) 0, .ev ⟨5, player, other, frame, inp, n⟩] [(.arg 0, ctB (.arg 0) c)] (fun r h' => r = .int .i64 0 ∧ h' = [(.arg 0, ctB (.arg 0) (c'.add ⟨5, player, other, frame, inp, n⟩))]) := by
  refine holds_of_awp Try.func13 rfl (by decide +kernel) mixed Try.ntmps13 Try.results13 ?_
  simp only [entrySt, List.map_cons, List.map_nil, List.length_cons, List.length_nil, Nat.reduceAdd, Nat.reduceSub, List.replicate_succ, List.replicate_zero, List.cons_append, List.nil_append]
  (refine zs ?_; try exact trivial)
  refine a_call [.arg 0] (may5_h c player other frame n inp hw) (ok1 rfl) ?_ ?_ ?_
  · (refine zs ?_; try exact trivial)
  · (refine zs ?_; try exact trivial)
  rintro _ _ ⟨rfl, rfl⟩
  rw [hm]
  (refine zc ?_; try exact trivial)
  refine a_drawC (⟨[V.cell (.ptr (.arg 0) 0), .undef, .undef, V.cell (.ptr (.loc [3]) 0), .undef, .undef, .undef, .undef, .undef, .undef, .undef, .undef, .undef, .undef, .undef, .undef, .undef, .undef, .undef, .undef, .undef, .undef, .undef, .undef, .undef, .undef, .undef, .undef, .undef, .undef], [(.loc [3], evC ⟨5, player, other, frame, inp, n⟩), (.arg 0, ctB (.arg 0) c')]⟩) (.take 1 (.take 5 (.both [(0, .both [(2, .take 3 (.take 4 (.both [(6, .both [(7, .done)])]))), (6, .both [(2, .take 3 (.take 4 (.both [(7, .done)])))])]), (2, .both [(0, .take 3 (.take 4 (.both [(6, .both [(7, .done)])]))), (6, .both [(0, .take 3 (.take 4 (.both [(7, .done)])))])]), (6, .both [(0, .both [(2, .take 3 (.take 4 (.both [(7, .done)])))]), (2, .both [(0, .take 3 (.take 4 (.both [(7, .done)])))])])]))) (by kernel_rfl) (by kernel_rfl) ?_ ?_
  · (refine zc ?_; try exact trivial)
    repeat' (with_reducible apply And.intro)
    all_goals (
      refine a_call [] (hows_h) ok0 ?_ ?_ ?_
      · (refine zs ?_; try exact trivial)
      · (refine zs ?_; try exact trivial)
      rintro _ _ ⟨rfl, rfl⟩
      (refine zc ?_; try exact trivial)
      refine a_call [.arg 0] (hd) (ok1 rfl) ?_ ?_ ?_
      · (refine zs ?_; try exact trivial)
      · (refine zs ?_; try exact trivial)
      rintro _ _ ⟨rfl, rfl⟩
      (refine zc ?_; try exact trivial))
  · (refine zc ?_; try exact trivial)
    refine a_drawC (⟨[.undef, .undef, .undef, .undef, .undef, .undef, .undef, .undef, .undef, .undef, .undef, .undef, .undef, .undef, .undef, .undef, .undef, .undef, .undef, .undef, .undef, .undef, .undef, .undef, .undef, .undef, .undef, .undef, .undef, .undef], [(.arg 0, ctB (.arg 0) (c'.add ⟨5, player, other, frame, inp, n⟩))]⟩) (.take 0 (.take 1 (.take 2 (.take 3 (.both [(4, .both [(5, .both [(6, .both [(7, .take 8 (.take 9 (.both [(10, .done)])))])])]), (5, .both [(4, .both [(6, .both [(7, .take 8 (.take 9 (.both [(10, .done)])))])]), (6, .both [(4, .both [(7, .take 8 (.take 9 (.both [(10, .done)])))])])])]))))) (by kernel_rfl) (by kernel_rfl) ?_ ?_
    · (refine zc ?_; try exact trivial)
      repeat' (with_reducible apply And.intro)
      all_goals first | omega | exact leCs_refl _
    · (refine zc ?_; try exact trivial)
end Go.Proofs.Ytamcjecgkfmjkaa

/- Chapter 18: who is waited for. -/
open Go Go.RowKit
namespace Go.Proofs.Ytamcjecgkfmjkaa
set_option linter.unusedSimpArgs false
set_option linter.unusedVariables false
@[go_sem] theorem l_no1 {sz : Nat} (h : 0 < sz) : leC (.lst .no none sz []) (.lst .full (some true) 1 []) = True := eq_true (by simp [leC, h])
def k18e1 : Ev := ⟨1, 7, 9, 0, 0, 0⟩
def k18e2 : Ev := ⟨3, 7, 0, 0, 0, 0⟩
def k18a : Ct := (openP (ctNew [] 5 5) k18e1).add k18e1
def k18b : Ct := (inputP0 k18a k18e2).add k18e2
theorem k18_g : gameP [] 5 5 = 0 := by decide
theorem k18_1 : mayP18 (ctNew [] 5 5) ⟨1, 7, 9, 0, 0, 0⟩ = 0 := by decide
theorem k18_2 : mayP18 k18a ⟨3, 7, 0, 0, 0, 0⟩ = 0 := by decide
theorem k18_3 : owesP k18b 7 = false := by decide
theorem k18_4 : owesP k18b 9 = true := by decide
theorem k18_5 : k18b.events.length = 2 := rfl
set_option maxRecDepth 20000 in
set_option maxHeartbeats 4000000 in
theorem known_h18 : Holds Try.prog 11 [] [] (fun r h' => r = V.bool true ∧ h' = []) := by
  have hA := applyY1_h (ctNew [] 5 5) (openP (ctNew [] 5 5) k18e1) 7 9 0 0 0 k18_1 (by decide) (open_h (ctNew [] 5 5) k18e1 (by decide))
  have hB := applyY3_h k18a (inputP0 k18a k18e2) 7 0 0 0 0 (by decide) (by decide) k18_2 (by decide) (input0_h k18a k18e2 (by decide) (by decide) (by decide) rfl rfl)
  have e1 : (openP (ctNew [] 5 5) k18e1).add ⟨1, 7, 9, 0, 0, 0⟩ = k18a := rfl
  have e2 : (inputP0 k18a k18e2).add ⟨3, 7, 0, 0, 0, 0⟩ = k18b := rfl
  have eO7 := k18_3
  have eO9 := k18_4
  have eL := k18_5
  rw [e1] at hA
  rw [e2] at hB
  have hn := new_ok18 [] 5 5 (by decide) k18_g
  generalize ctNew [] 5 5 = c0 at hA hn
  generalize k18a = c1 at hA hB
  generalize k18b = c2 at hB eO7 eO9 eL
  refine holds_of_awp Try.func11 rfl (by decide +kernel) mixed Try.ntmps11 Try.results11 ?_
  simp only [entrySt, List.map_cons, List.map_nil, List.length_cons, List.length_nil, Nat.reduceAdd, Nat.reduceSub, List.replicate_succ, List.replicate_zero, List.cons_append, List.nil_append]
  (refine zs ?_; try exact trivial)
  refine a_call [] (hn) ok0 ?_ ?_ ?_
  · (refine zs ?_; try exact trivial)
  · (refine zs ?_; try exact trivial)
  rintro _ _ ⟨rfl, rfl⟩
  (refine zc ?_; try exact trivial)
  refine a_call [.loc [5, 0, 14]] (hA) (ok1 rfl) ?_ ?_ ?_
  · (refine zs ?_; try exact trivial)
  · (refine zs ?_; try exact trivial)
  rintro _ _ ⟨rfl, rfl⟩
  (refine zc ?_; try exact trivial)
  refine a_call [.loc [5, 0, 14]] (hB) (ok1 rfl) ?_ ?_ ?_
  · (refine zs ?_; try exact trivial)
  · (refine zs ?_; try exact trivial)
  rintro _ _ ⟨rfl, rfl⟩
  (refine zc ?_; try exact trivial)
  refine a_call [.loc [5, 0, 14]] (owes_h c2 7) (ok1 rfl) ?_ ?_ ?_
  · (refine zs ?_; try exact trivial)
  · (refine zs ?_; try exact trivial)
  rintro _ _ ⟨rfl, rfl⟩
  simp (maxSteps := 2000000) (disch := omega) only [go_sem, Nat.reduceAdd, Nat.reduceSub, Nat.reduceMul, Nat.reduceBEq, Nat.reduceEqDiff, Nat.reduceLT, Nat.reduceLeDiff, Nat.reduceDiv, reduceIte, reduceCtorEq, eO7]
  refine a_call [.loc [5, 0, 14]] (owes_h c2 9) (ok1 rfl) ?_ ?_ ?_
  · (refine zs ?_; try exact trivial)
  · (refine zs ?_; try exact trivial)
  rintro _ _ ⟨rfl, rfl⟩
  simp (maxSteps := 2000000) (disch := omega) only [go_sem, Nat.reduceAdd, Nat.reduceSub, Nat.reduceMul, Nat.reduceBEq, Nat.reduceEqDiff, Nat.reduceLT, Nat.reduceLeDiff, Nat.reduceDiv, reduceIte, reduceCtorEq, eO9]
  refine a_call [.loc [5, 0, 14]] (events_h c2 (by omega)) (ok1 rfl) ?_ ?_ ?_
  · (refine zs ?_; try exact trivial)
  · (refine zs ?_; try exact trivial)
  rintro _ _ ⟨rfl, rfl⟩
  simp (maxSteps := 2000000) (disch := omega) only [go_sem, Nat.reduceAdd, Nat.reduceSub, Nat.reduceMul, Nat.reduceBEq, Nat.reduceEqDiff, Nat.reduceLT, Nat.reduceLeDiff, Nat.reduceDiv, reduceIte, reduceCtorEq, eL]
end Go.Proofs.Ytamcjecgkfmjkaa
