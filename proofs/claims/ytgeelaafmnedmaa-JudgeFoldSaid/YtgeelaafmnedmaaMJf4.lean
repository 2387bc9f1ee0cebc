/- Parts of a proof: Chapter 10: both machines come to the same state, Chapter 10: a frame's step, Chapter 18: an input, and the frames that it brings. (written by gen18m.py), Chapter 18: a match is opened; an input ahead of the other's, The logic: states, events, numbers in a row compared, Chapter 18: how each kind of event is done. (written by gen18g.py), Chapter 18: an event is taken. (written by gen18h.py), Chapter 18: who is waited for, Chapter 18: how a match goes on, input by input, Chapter 10: the other machine's instructions. (written by gen10e.py), Chapter 10: the other machine's instructions. (written by gen10e.py), Chapter 10: the other machine's instructions. (written by gen10e.py), Chapter 10: the other machine's instruction, whichever it is, Chapter 10: what holds of the other machine all the while; its guards, Chapter 10: the other machine's step, The law ContestFold: the plain part, Chapter 11, the other one: the states behind so many pairs of inputs, and the last of them, Chapter 18: what holds of a match all the while, Chapter 18: the cells of the other Contest (written by genbox.py), Chapter 18, the other one: a new match, what both did, the state, seats, Chapter 18, the other one: may an event be? (written by gen18t.py), Chapter 21, plain: the match over events but results; what is replayed of a match's own events. -/
import Derived.Test.YtgeelaafmnedmaaMJf3
import Derived.Test.YtgeelaafmnedmaaMJf2
set_option linter.unusedSimpArgs false
set_option linter.unusedVariables false
open Go Go.RowKit
namespace Go.Proofs.Ytgeelaafmnedmaa
section
/-- the other machine's instruction, and whether it goes on -/
def rdoK (op arg : Int) (r : Rac) : Rac :=
  if op = 1 then rpushM (incR r) arg
  else if op = 2 then rload (incR r) arg
  else if op = 3 then rstore (incR r) arg
  else if op = 4 then rtwo f4 (incR r)
  else if op = 5 then rtwo f5 (incR r)
  else if op = 6 then rtwo f6 (incR r)
  else if op = 7 then rtwo f7 (incR r)
  else if op = 8 then rtwo f8 (incR r)
  else if op = 9 then rtwo f9 (incR r)
  else if op = 10 then rtwo f10 (incR r)
  else if op = 11 then rtwo f11 (incR r)
  else if op = 12 then rnot (incR r)
  else if op = 13 then rdup (incR r)
  else if op = 14 then rswap (incR r)
  else if op = 15 then rpopM (incR r)
  else if op = 16 then rinput (incR r) arg
  else if op = 17 then rpushM (incR r) r.st.frame
  else if op = 18 then rjump (incR r) arg
  else if op = 19 then rzero (incR r) arg
  else if op = 20 then rwin (incR r) arg
  else if op = 21 then rrand (incR r)
  else incR r
def rdoM (op arg : Int) (r : Rac) : Rac := if r.sk.length < takesP op then badR r else rdoK op arg r
def rdoB (op arg n : Int) (r : Rac) : Bool := if r.sk.length < takesP op ∨ op = 20 ∨ op = 22 then false else goB (rdoM op arg r) n
def rrunM (code : List (Int × Int)) : Nat → Rac → Rac
  | 0, r => if r.pc < code.length then badR r else r
  | f + 1, r => if r.pc < code.length then
      (if rdoB (gi code r.pc.toNat).1 (gi code r.pc.toNat).2 code.length r = true then rrunM code f (rdoM (gi code r.pc.toNat).1 (gi code r.pc.toNat).2 r) else rdoM (gi code r.pc.toNat).1 (gi code r.pc.toNat).2 r) else r
/-- the two machines stand alike -/
structure Rl (m : Mac) (r : Rac) : Prop where
  st : r.st = m.st
  i0 : r.i0 = m.i0
  i1 : r.i1 = m.i1
  sk : r.sk = m.sk
  pc : r.pc = m.pc
  mb : m.bad = false
  rb : r.bad = false
  en : m.en = false
  won : r.won = -1
theorem Rl.inc {m : Mac} {r : Rac} (h : Rl m r) : Rl (incM m) (incR r) := ⟨h.st, h.i0, h.i1, h.sk, by show r.pc + 1 = m.pc + 1; rw [h.pc], h.mb, h.rb, h.en, h.won⟩
theorem Rl.popV {m : Mac} {r : Rac} (h : Rl m r) : rpopV r = popV m := by unfold rpopV Proofs.Ytgeelaafmnedmaa.popV; rw [h.sk]
theorem Rl.pop {m : Mac} {r : Rac} (h : Rl m r) (hl : m.sk.length ≠ 0) : Rl (popM m) (rpopM r) := ⟨h.st, h.i0, h.i1, by show r.sk.take _ = m.sk.take _; rw [h.sk], h.pc, by simp [popM, h.mb, hl], by simp [rpopM, h.rb, h.sk, hl], h.en, h.won⟩
/-- numbers laid -/
def Out (m : Mac) (r : Rac) : Prop := (m.bad = true ∧ r.bad = true) ∨ Rl m r
theorem Rl.push {m : Mac} {r : Rac} (h : Rl m r) (x : Int) : Out (pushM m [x]) (rpushM r x) := by
  unfold pushM rpushM
  by_cases hl : 32 ≤ r.sk.length
  · rw [if_pos hl]
    refine .inl ⟨?_, rfl⟩
    rw [h.sk] at hl
    have : decide (32 < m.sk.length + [x].length) = true := by simp; omega
    simp only [this, Bool.or_true]
  rw [if_neg hl]
  rw [h.sk] at hl
  have : decide (32 < m.sk.length + [x].length) = false := by simp; omega
  exact .inr ⟨h.st, h.i0, h.i1, by show r.sk ++ [x] = m.sk ++ [x]; rw [h.sk], h.pc, by simp only [this, h.mb, Bool.or_false], h.rb, h.en, h.won⟩
theorem Rl.push2 {m : Mac} {r : Rac} (h : Rl m r) (x y : Int) : Out (pushM m [x, y]) (rpushM (rpushM r x) y) := by
  by_cases hl : 32 ≤ r.sk.length
  · have e : rpushM r x = ⟨r.st, r.i0, r.i1, r.sk, r.pc, r.won, true⟩ := by unfold rpushM; rw [if_pos hl]
    refine .inl ⟨?_, ?_⟩
    · rw [h.sk] at hl
      have : decide (32 < m.sk.length + [x, y].length) = true := by simp; omega
      unfold pushM
      simp only [this, Bool.or_true]
    rw [e]; unfold rpushM; split <;> rfl
  have e : rpushM r x = ⟨r.st, r.i0, r.i1, r.sk ++ [x], r.pc, r.won, r.bad⟩ := by unfold rpushM; rw [if_neg hl]
  rw [e]
  unfold rpushM pushM
  rw [h.sk] at hl
  by_cases h2 : 32 ≤ (r.sk ++ [x]).length
  · rw [if_pos h2]
    refine .inl ⟨?_, rfl⟩
    have : decide (32 < m.sk.length + [x, y].length) = true := by
      rw [List.length_append, h.sk] at h2; simp at h2 ⊢; omega
    simp only [this, Bool.or_true]
  rw [if_neg h2]
  have : decide (32 < m.sk.length + [x, y].length) = false := by
    rw [List.length_append, h.sk] at h2; simp at h2 ⊢; omega
  exact .inr ⟨h.st, h.i0, h.i1, by show r.sk ++ [x] ++ [y] = m.sk ++ [x, y]; rw [h.sk]; simp, h.pc, by simp only [this, h.mb, Bool.or_false], h.rb, h.en, h.won⟩
theorem Rl.two {m : Mac} {r : Rac} (h : Rl m r) (hl : 2 ≤ m.sk.length) (f : Int → Int → Int) : Out (two10 f m) (rtwo f r) := by
  have h1 := h.pop (by omega)
  have h2 := h1.pop (by simp [popM]; omega)
  unfold two10 rtwo
  rw [h.popV, h1.popV]
  exact h2.push _
theorem bad_push {m : Mac} (l : List Int) (h : m.bad = true) : (pushM m l).bad = true := by simp [pushM, h]
theorem bad_pop {m : Mac} (h : m.bad = true ∨ m.sk.length = 0) : (popM m).bad = true := by
  rcases h with h | h <;> simp [popM, h]
theorem bad_two {m : Mac} (f : Int → Int → Int) (h : m.sk.length < 2) : (two10 f m).bad = true := bad_push _ (bad_pop (.inr (by simp [popM]; omega)))
/-- too few numbers -/
theorem few_bad {op arg : Int} {m : Mac} (h : 1 ≤ op ∧ op ≤ 22) (hl : m.sk.length < takesP op) : (doM op arg m).bad = true := by
  rcases op_cases h with rfl | rfl | rfl | rfl | rfl | rfl | rfl | rfl | rfl | rfl | rfl | rfl | rfl | rfl | rfl | rfl | rfl | rfl | rfl | rfl | rfl | rfl
  · replace hl : m.sk.length < 0 := hl
    omega
  · replace hl : m.sk.length < 0 := hl
    omega
  · replace hl : m.sk.length < 1 := hl
    exact bad_pop (.inr (by omega))
  · replace hl : m.sk.length < 2 := hl
    exact bad_two _ hl
  · replace hl : m.sk.length < 2 := hl
    exact bad_two _ hl
  · replace hl : m.sk.length < 2 := hl
    exact bad_two _ hl
  · replace hl : m.sk.length < 2 := hl
    exact bad_two _ hl
  · replace hl : m.sk.length < 2 := hl
    exact bad_two _ hl
  · replace hl : m.sk.length < 2 := hl
    exact bad_two _ hl
  · replace hl : m.sk.length < 2 := hl
    exact bad_two _ hl
  · replace hl : m.sk.length < 2 := hl
    exact bad_two _ hl
  · replace hl : m.sk.length < 1 := hl
    exact bad_push _ (bad_pop (.inr (by omega)))
  · replace hl : m.sk.length < 1 := hl
    exact bad_push _ (bad_pop (.inr (by omega)))
  · replace hl : m.sk.length < 2 := hl
    exact bad_push _ (bad_pop (.inr (by have : (popM m).sk.length = min (m.sk.length - 1) m.sk.length := List.length_take; omega)))
  · replace hl : m.sk.length < 1 := hl
    exact bad_pop (.inr (by omega))
  · replace hl : m.sk.length < 0 := hl
    omega
  · replace hl : m.sk.length < 0 := hl
    omega
  · replace hl : m.sk.length < 0 := hl
    omega
  · replace hl : m.sk.length < 1 := hl
    rw [doM_19]
    unfold zero10
    have hb : (popM m).bad = true := bad_pop (.inr (by omega))
    split <;> exact hb
  · replace hl : m.sk.length < 0 := hl
    omega
  · replace hl : m.sk.length < 0 := hl
    omega
  replace hl : m.sk.length < 0 := hl
  omega
/-- one instruction, in both -/
theorem do_both {op arg n : Int} {m : Mac} {r : Rac} (h : Rl m r) (hm : mayP op arg n = true) :
    ((doM op arg (incM m)).bad = true ∧ (rdoM op arg r).bad = true ∧ rdoB op arg n r = false) ∨
    (Rl (doM op arg (incM m)) (rdoM op arg r) ∧ rdoB op arg n r = decide ((doM op arg (incM m)).pc < n) ∧ (rdoM op arg r).bad = false) ∨
    (op = 20 ∧ (doM op arg (incM m)).bad = false ∧ (doM op arg (incM m)).en = true ∧ (doM op arg (incM m)).st = (m.st.wOver true).wWin arg ∧ (rdoM op arg r).st = m.st ∧ (rdoM op arg r).won = arg ∧ (rdoM op arg r).bad = false ∧ rdoB op arg n r = false) ∨
    (op = 22 ∧ (doM op arg (incM m)).bad = false ∧ (doM op arg (incM m)).en = true ∧ (doM op arg (incM m)).st = m.st ∧ (rdoM op arg r).st = m.st ∧ (rdoM op arg r).won = -1 ∧ (rdoM op arg r).bad = false ∧ rdoB op arg n r = false) := by
  obtain ⟨ho, _⟩ := mayP_arg hm
  have hi := h.inc
  have hsk : (incM m).sk = m.sk := rfl
  by_cases hl : r.sk.length < takesP op
  · refine .inl ⟨few_bad ho (by rw [hsk, ← h.sk]; exact hl), ?_, ?_⟩
    · unfold rdoM; rw [if_pos hl]; rfl
    unfold rdoB; rw [if_pos (.inl hl)]
  have hl' : ¬ (incM m).sk.length < takesP op := by rw [hsk, ← h.sk]; exact hl
  have key : ∀ (hop : ¬ (op = 20 ∨ op = 22)) (m' : Mac) (r' : Rac), doM op arg (incM m) = m' → rdoM op arg r = r' → Out m' r' → ((doM op arg (incM m)).bad = true ∧ (rdoM op arg r).bad = true ∧ rdoB op arg n r = false) ∨
      (Rl (doM op arg (incM m)) (rdoM op arg r) ∧ rdoB op arg n r = decide ((doM op arg (incM m)).pc < n) ∧ (rdoM op arg r).bad = false) := by
    rintro hop m' r' e1 e2 ho
    have eB : rdoB op arg n r = goB r' n := by unfold rdoB; rw [if_neg (by rintro (h | h); exact hl h; exact hop h), e2]
    rw [e1, e2, eB]
    rcases ho with ⟨a, b⟩ | a
    · exact .inl ⟨a, b, by unfold goB; rw [b]; rfl⟩
    exact .inr ⟨a, by unfold goB; rw [a.rb, a.pc]; simp, a.rb⟩
  have nd : ∀ (m' : Mac) (r' : Rac), ¬ (op = 20 ∨ op = 22) → doM op arg (incM m) = m' → rdoM op arg r = r' → Out m' r' → _ := fun m' r' hop e1 e2 ho => (key hop m' r' e1 e2 ho).imp id (fun h => Or.inl (b := (op = 20 ∧ (doM op arg (incM m)).bad = false ∧ (doM op arg (incM m)).en = true ∧ (doM op arg (incM m)).st = (m.st.wOver true).wWin arg ∧ (rdoM op arg r).st = m.st ∧ (rdoM op arg r).won = arg ∧ (rdoM op arg r).bad = false ∧ rdoB op arg n r = false) ∨
    (op = 22 ∧ (doM op arg (incM m)).bad = false ∧ (doM op arg (incM m)).en = true ∧ (doM op arg (incM m)).st = m.st ∧ (rdoM op arg r).st = m.st ∧ (rdoM op arg r).won = -1 ∧ (rdoM op arg r).bad = false ∧ rdoB op arg n r = false)) h)
  have hrl : ¬ r.sk.length < takesP op := hl
  clear key
  rcases op_cases ho with rfl | rfl | rfl | rfl | rfl | rfl | rfl | rfl | rfl | rfl | rfl | rfl | rfl | rfl | rfl | rfl | rfl | rfl | rfl | rfl | rfl | rfl
  · have ek : rdoM 1 arg r = rdoK 1 arg r := if_neg hrl
    replace hl' : ¬ (incM m).sk.length < 0 := hl'
    exact nd _ _ (by omega) rfl ek (hi.push arg)
  · have ek : rdoM 2 arg r = rdoK 2 arg r := if_neg hrl
    replace hl' : ¬ (incM m).sk.length < 0 := hl'
    exact nd _ _ (by omega) rfl ek (by
      show Out (load10 (incM m) arg) (rload (incR r) arg)
      unfold rload load10
      have e : (incR r).st = (incM m).st := hi.st
      rw [e]
      exact hi.push _)
  · have ek : rdoM 3 arg r = rdoK 3 arg r := if_neg hrl
    replace hl' : ¬ (incM m).sk.length < 1 := hl'
    have h1 := hi.pop (by omega)
    exact nd _ _ (by omega) rfl ek (.inr (by
      refine ⟨?_, h1.i0, h1.i1, h1.sk, h1.pc, h1.mb, h1.rb, h1.en, h1.won⟩
      show (incR r).st.wCells _ _ = (incM m).st.wCells _ _
      rw [hi.st, hi.popV]))
  · have ek : rdoM 4 arg r = rdoK 4 arg r := if_neg hrl
    replace hl' : ¬ (incM m).sk.length < 2 := hl'
    exact nd _ _ (by omega) rfl ek (hi.two (by omega) _)
  · have ek : rdoM 5 arg r = rdoK 5 arg r := if_neg hrl
    replace hl' : ¬ (incM m).sk.length < 2 := hl'
    exact nd _ _ (by omega) rfl ek (hi.two (by omega) _)
  · have ek : rdoM 6 arg r = rdoK 6 arg r := if_neg hrl
    replace hl' : ¬ (incM m).sk.length < 2 := hl'
    exact nd _ _ (by omega) rfl ek (hi.two (by omega) _)
  · have ek : rdoM 7 arg r = rdoK 7 arg r := if_neg hrl
    replace hl' : ¬ (incM m).sk.length < 2 := hl'
    exact nd _ _ (by omega) rfl ek (hi.two (by omega) _)
  · have ek : rdoM 8 arg r = rdoK 8 arg r := if_neg hrl
    replace hl' : ¬ (incM m).sk.length < 2 := hl'
    exact nd _ _ (by omega) rfl ek (hi.two (by omega) _)
  · have ek : rdoM 9 arg r = rdoK 9 arg r := if_neg hrl
    replace hl' : ¬ (incM m).sk.length < 2 := hl'
    exact nd _ _ (by omega) rfl ek (hi.two (by omega) _)
  · have ek : rdoM 10 arg r = rdoK 10 arg r := if_neg hrl
    replace hl' : ¬ (incM m).sk.length < 2 := hl'
    exact nd _ _ (by omega) rfl ek (hi.two (by omega) _)
  · have ek : rdoM 11 arg r = rdoK 11 arg r := if_neg hrl
    replace hl' : ¬ (incM m).sk.length < 2 := hl'
    exact nd _ _ (by omega) rfl ek (hi.two (by omega) _)
  · have ek : rdoM 12 arg r = rdoK 12 arg r := if_neg hrl
    replace hl' : ¬ (incM m).sk.length < 1 := hl'
    have h1 := hi.pop (by omega)
    exact nd _ _ (by omega) rfl ek (by
      show Out (not10 (incM m)) (rnot (incR r))
      unfold not10 rnot
      rw [hi.popV]
      exact h1.push _)
  · have ek : rdoM 13 arg r = rdoK 13 arg r := if_neg hrl
    replace hl' : ¬ (incM m).sk.length < 1 := hl'
    have h1 := hi.pop (by omega)
    exact nd _ _ (by omega) rfl ek (by
      show Out (dup10 (incM m)) (rdup (incR r))
      unfold dup10 rdup
      rw [hi.popV]
      exact h1.push2 _ _)
  · have ek : rdoM 14 arg r = rdoK 14 arg r := if_neg hrl
    replace hl' : ¬ (incM m).sk.length < 2 := hl'
    have h1 := hi.pop (by omega)
    have h2 := h1.pop (by have : (popM (incM m)).sk.length = min ((incM m).sk.length - 1) (incM m).sk.length := List.length_take; omega)
    exact nd _ _ (by omega) rfl ek (by
      show Out (swap10 (incM m)) (rswap (incR r))
      unfold swap10 rswap
      rw [hi.popV, h1.popV]
      exact h2.push2 _ _)
  · have ek : rdoM 15 arg r = rdoK 15 arg r := if_neg hrl
    replace hl' : ¬ (incM m).sk.length < 1 := hl'
    exact nd _ _ (by omega) rfl ek (.inr (hi.pop (by omega)))
  · have ek : rdoM 16 arg r = rdoK 16 arg r := if_neg hrl
    replace hl' : ¬ (incM m).sk.length < 0 := hl'
    exact nd _ _ (by omega) rfl ek (by
      show Out (input10 (incM m) arg) (rinput (incR r) arg)
      unfold input10 rinput
      rw [hi.i0, hi.i1]
      exact hi.push _)
  · have ek : rdoM 17 arg r = rdoK 17 arg r := if_neg hrl
    replace hl' : ¬ (incM m).sk.length < 0 := hl'
    exact nd _ _ (by omega) rfl ek (by
      show Out (frame10 (incM m)) (rpushM (incR r) r.st.frame)
      unfold frame10
      rw [h.st]
      exact hi.push _)
  · have ek : rdoM 18 arg r = rdoK 18 arg r := if_neg hrl
    replace hl' : ¬ (incM m).sk.length < 0 := hl'
    exact nd _ _ (by omega) rfl ek (.inr ⟨hi.st, hi.i0, hi.i1, hi.sk, rfl, hi.mb, hi.rb, hi.en, hi.won⟩)
  · have ek : rdoM 19 arg r = rdoK 19 arg r := if_neg hrl
    replace hl' : ¬ (incM m).sk.length < 1 := hl'
    have h1 := hi.pop (by omega)
    exact nd _ _ (by omega) rfl ek (.inr (by
      show Rl (zero10 (incM m) arg) (rzero (incR r) arg)
      unfold zero10 rzero
      rw [hi.popV]
      split
      · exact ⟨h1.st, h1.i0, h1.i1, h1.sk, rfl, h1.mb, h1.rb, h1.en, h1.won⟩
      exact h1))
  · have ek : rdoM 20 arg r = rdoK 20 arg r := if_neg hrl
    replace hl' : ¬ (incM m).sk.length < 0 := hl'
    have e2 : rdoM 20 arg r = rwin (incR r) arg := ek
    refine .inr (.inr (.inl ⟨rfl, hi.mb, rfl, rfl, ?_, ?_, ?_, ?_⟩))
    · rw [e2]; exact h.st
    · rw [e2]; rfl
    · rw [e2]; exact h.rb
    unfold rdoB; rw [if_pos (.inr (.inl rfl))]
  · have ek : rdoM 21 arg r = rdoK 21 arg r := if_neg hrl
    replace hl' : ¬ (incM m).sk.length < 0 := hl'
    exact nd _ _ (by omega) rfl ek (by
      show Out (rand10 (incM m)) (rrand (incR r))
      have e : rrand (incR r) = rpushM ⟨m.st.wSeed (mixS m.st.seed), r.i0, r.i1, r.sk, r.pc + 1, r.won, r.bad⟩ (rndV (mixS m.st.seed)) := by
        show rpushM ⟨r.st.wSeed (mixS r.st.seed), r.i0, r.i1, r.sk, r.pc + 1, r.won, r.bad⟩ (rndV (mixS r.st.seed)) = _
        rw [h.st]
      rw [e]
      exact Rl.push (m := ⟨m.st.wSeed (mixS m.st.seed), m.i0, m.i1, m.sk, m.pc + 1, m.en, m.bad⟩) (r := ⟨m.st.wSeed (mixS m.st.seed), r.i0, r.i1, r.sk, r.pc + 1, r.won, r.bad⟩) ⟨rfl, hi.i0, hi.i1, hi.sk, hi.pc, hi.mb, hi.rb, hi.en, hi.won⟩ _)
  have ek : rdoM 22 arg r = rdoK 22 arg r := if_neg hrl
  replace hl' : ¬ (incM m).sk.length < 0 := hl'
  have e2 : rdoM 22 arg r = incR r := ek
  refine .inr (.inr (.inr ⟨rfl, hi.mb, rfl, rfl, ?_, ?_, ?_, ?_⟩))
  · rw [e2]; exact h.st
  · rw [e2]; exact h.won
  · rw [e2]; exact h.rb
  unfold rdoB; rw [if_pos (.inr (.inr rfl))]
/-! ### the ends -/
def winS (s : Sta) : Int := if s.cells.getD 1 0 < s.cells.getD 0 0 then 0 else if s.cells.getD 0 0 < s.cells.getD 1 0 then 1 else 2
def endS (cap : Int) (s : Sta) : Sta := if cap ≤ s.frame + 1 ∧ s.over = false then ((s.wFrame (s.frame + 1)).wOver true).wWin (winS s) else s.wFrame (s.frame + 1)
@[reducible] def mac0 (s : Sta) (i0 i1 : UInt16) : Mac := ⟨s, i0, i1, [], 0, false, false⟩
def stepM (code : List (Int × Int)) (cap : Int) (fuel : Nat) (s : Sta) (i0 i1 : UInt16) : Sta := endS cap (if (runM code fuel (mac0 s i0 i1)).1 = 0 then (runM code fuel (mac0 s i0 i1)).2.st else s)
@[reducible] def rac0 (s : Sta) (i0 i1 : UInt16) : Rac := ⟨s, i0, i1, [], 0, -1, false⟩
/-- what a frame that failed leaves -/
def undoR (s : Sta) (r : Rac) : Rac := if r.bad = true then ⟨⟨r.st.frame, s.cells, s.seed, r.st.over, r.st.win, s.len⟩, r.i0, r.i1, r.sk, r.pc, -1, r.bad⟩ else r
def refE (cap : Int) (r : Rac) : Sta := if 0 ≤ r.won then ((r.st.wFrame (r.st.frame + 1)).wOver true).wWin r.won else if r.st.frame + 1 = cap then
    (if r.st.cells.getD 0 0 = r.st.cells.getD 1 0 then ((r.st.wFrame (r.st.frame + 1)).wOver true).wWin 2 else if r.st.cells.getD 0 0 < r.st.cells.getD 1 0 then ((r.st.wFrame (r.st.frame + 1)).wOver true).wWin 1 else (r.st.wFrame (r.st.frame + 1)).wOver true) else r.st.wFrame (r.st.frame + 1)
def rstepM (code : List (Int × Int)) (cap : Int) (fuel : Nat) (s : Sta) (i0 i1 : UInt16) : Sta := refE cap (undoR s (rrunM code fuel (rac0 s i0 i1)))
/-- what the other machine never touches -/
structure Kp (s : Sta) (r : Rac) : Prop where
  frame : r.st.frame = s.frame
  over : r.st.over = s.over
  win : r.st.win = s.win
theorem Kp.rpush {s : Sta} {r : Rac} (h : Kp s r) (x : Int) : Kp s (rpushM r x) := by unfold rpushM; split <;> exact ⟨h.frame, h.over, h.win⟩
theorem Kp.do {s : Sta} {r : Rac} (h : Kp s r) (op arg : Int) : Kp s (rdoM op arg r) := by
  have hp : Kp s (rpopM (incR r)) := ⟨h.frame, h.over, h.win⟩
  have hp2 : Kp s (rpopM (rpopM (incR r))) := ⟨h.frame, h.over, h.win⟩
  have hi : Kp s (incR r) := ⟨h.frame, h.over, h.win⟩
  unfold rdoM
  split
  · exact ⟨h.frame, h.over, h.win⟩
  by_cases ho : 1 ≤ op ∧ op ≤ 22
  · rcases op_cases ho with rfl | rfl | rfl | rfl | rfl | rfl | rfl | rfl | rfl | rfl | rfl | rfl | rfl | rfl | rfl | rfl | rfl | rfl | rfl | rfl | rfl | rfl
    · exact hi.rpush _
    · exact hi.rpush _
    · exact ⟨h.frame, h.over, h.win⟩
    · exact hp2.rpush _
    · exact hp2.rpush _
    · exact hp2.rpush _
    · exact hp2.rpush _
    · exact hp2.rpush _
    · exact hp2.rpush _
    · exact hp2.rpush _
    · exact hp2.rpush _
    · exact hp.rpush _
    · exact (hp.rpush _).rpush _
    · exact (hp2.rpush _).rpush _
    · exact hp
    · exact hi.rpush _
    · exact hi.rpush _
    · exact ⟨h.frame, h.over, h.win⟩
    · show Kp s (rzero (incR r) arg)
      unfold rzero
      split <;> exact ⟨h.frame, h.over, h.win⟩
    · exact ⟨h.frame, h.over, h.win⟩
    · exact Kp.rpush (r := ⟨r.st.wSeed (mixS r.st.seed), r.i0, r.i1, r.sk, r.pc + 1, r.won, r.bad⟩) ⟨h.frame, h.over, h.win⟩ _
    exact hi
  have e : rdoK op arg r = incR r := by
    unfold rdoK
    iterate 21 rw [if_neg (by omega)]
  rw [e]; exact hi
theorem badE {s : Sta} {cap : Int} {r : Rac} (hk : Kp s r) (hb : r.bad = true) (hw : s.win = 0) (ho : s.over = false) (hc : s.frame < cap) : refE cap (undoR s r) = endS cap s := by
  have e : undoR s r = ⟨s, r.i0, r.i1, r.sk, r.pc, -1, r.bad⟩ := by
    unfold undoR
    rw [if_pos hb]
    congr 1
    exact Sta.ext' hk.frame rfl rfl hk.over hk.win
  rw [e]
  unfold refE endS winS
  rw [if_neg (show ¬ (0 : Int) ≤ -1 by omega)]
  simp only
  by_cases h1 : s.frame + 1 = cap
  · have hA : cap ≤ s.frame + 1 ∧ s.over = false := ⟨by omega, ho⟩
    rw [if_pos h1, if_pos hA]
    by_cases h2 : s.cells.getD 0 0 = s.cells.getD 1 0
    · rw [if_pos h2, if_neg (by omega), if_neg (by omega)]
    rw [if_neg h2]
    by_cases h3 : s.cells.getD 0 0 < s.cells.getD 1 0
    · rw [if_pos h3, if_neg (by omega), if_pos h3]
    rw [if_neg h3, if_pos (by omega)]
    exact Sta.ext' rfl rfl rfl rfl hw
  rw [if_neg h1, if_neg (by omega)]
theorem okE {s : Sta} {cap : Int} {r : Rac} {m : Mac} (hr : r.bad = false) (hs : r.st = m.st) (hwn : r.won = -1) (hf : m.st.frame < cap) (hw : m.st.win = 0) (ho : m.st.over = false) : refE cap (undoR s r) = endS cap m.st := by
  have e : undoR s r = r := by unfold undoR; rw [if_neg (by rw [hr]; simp)]
  have := badE (s := m.st) (cap := cap) (r := ⟨m.st, r.i0, r.i1, r.sk, r.pc, -1, true⟩) ⟨rfl, rfl, rfl⟩ rfl hw ho hf
  rw [e, ← this]
  unfold undoR
  rw [if_pos rfl]
  unfold refE
  simp only [hs, hwn]
theorem doM_pc0 {n op arg : Int} {m : Mac} (h0 : 0 ≤ m.pc) (hm : mayP op arg n = true) : 0 ≤ (doM op arg m).pc := by
  obtain ⟨ho, _, _, _, h18, _⟩ := mayP_arg hm
  rcases op_cases ho with rfl | rfl | rfl | rfl | rfl | rfl | rfl | rfl | rfl | rfl | rfl | rfl | rfl | rfl | rfl | rfl | rfl | rfl | rfl | rfl | rfl | rfl
  all_goals first | exact h0 | exact (h18 (.inl rfl)).1 | skip
  rw [doM_19]
  unfold zero10
  split
  · exact (h18 (.inr rfl)).1
  exact h0
theorem run_eq {code : List (Int × Int)} {cap : Int} {s : Sta} (hc : (chkP code).2 = 0) (hso : s.over = false) (hsw : s.win = 0) (hsf : s.frame < cap) : ∀ (f : Nat) (m : Mac) (r : Rac), Rl m r → Kp s r → 0 ≤ m.pc →
    refE cap (undoR s (rrunM code f r)) = endS cap (if (runM code f m).1 = 0 then (runM code f m).2.st else s) := by
  have stop : ∀ (m : Mac) (r : Rac), Rl m r → Kp s r → refE cap (undoR s r) = endS cap m.st := by
    intro m r h hk
    exact okE h.rb h.st h.won (by rw [← h.st, hk.frame]; exact hsf) (by rw [← h.st, hk.win]; exact hsw) (by rw [← h.st, hk.over]; exact hso)
  intro f
  induction f with
  | zero =>
    intro m r h hk h0
    have hpc := h.pc
    by_cases hp : m.pc < code.length
    · have e1 : runM code 0 m = (10, m) := if_pos ⟨hp, h.en⟩
      have e2 : rrunM code 0 r = badR r := if_pos (by rw [hpc]; exact hp)
      rw [e1, e2, if_neg (show ¬ ((10, m) : Int × Mac).1 = 0 by simp)]
      exact badE ⟨hk.frame, hk.over, hk.win⟩ rfl hsw hso hsf
    have e1 : runM code 0 m = (0, m) := if_neg (fun h => hp h.1)
    have e2 : rrunM code 0 r = r := if_neg (by rw [hpc]; exact hp)
    rw [e1, e2, if_pos rfl]
    exact stop m r h hk
  | succ f ih =>
    intro m r h hk h0
    have hpc := h.pc
    by_cases hp : m.pc < code.length
    · have e1 : runM code (f + 1) m = (if (doM (gi code m.pc.toNat).1 (gi code m.pc.toNat).2 (incM m)).bad = true then (11, doM (gi code m.pc.toNat).1 (gi code m.pc.toNat).2 (incM m))
          else runM code f (doM (gi code m.pc.toNat).1 (gi code m.pc.toNat).2 (incM m))) := if_pos ⟨hp, h.en⟩
      have e2 : rrunM code (f + 1) r = (if rdoB (gi code m.pc.toNat).1 (gi code m.pc.toNat).2 code.length r = true then rrunM code f (rdoM (gi code m.pc.toNat).1 (gi code m.pc.toNat).2 r) else rdoM (gi code m.pc.toNat).1 (gi code m.pc.toNat).2 r) := by
        rw [← hpc]
        exact if_pos (by rw [hpc]; exact hp)
      rw [e1, e2]
      clear e1 e2
      have hmay := chk_all hc (i := m.pc.toNat) (by omega)
      generalize (gi code m.pc.toNat).1 = op at hmay ⊢
      generalize (gi code m.pc.toNat).2 = arg at hmay ⊢
      have hk' := hk.do op arg
      rcases do_both h hmay with ⟨a, b, c⟩ | ⟨a, b, c⟩ | ⟨ho, hb, he, hst, a, b, c, d⟩ | ⟨ho, hb, he, hst, a, b, c, d⟩
      · have hc2 : ¬ rdoB op arg code.length r = true := by rw [c]; simp
        rw [if_neg hc2, if_pos a, if_neg (show ¬ ((11, doM op arg (incM m)) : Int × Mac).1 = 0 by simp)]
        exact badE hk' b hsw hso hsf
      · rw [if_neg (show ¬ (doM op arg (incM m)).bad = true by rw [a.mb]; simp)]
        by_cases hq : (doM op arg (incM m)).pc < code.length
        · have hb2 : rdoB op arg code.length r = true := by rw [b]; exact decide_eq_true hq
          rw [if_pos hb2]
          exact ih _ _ a hk' (doM_pc0 (by show 0 ≤ m.pc + 1; omega) hmay)
        have hb2 : ¬ rdoB op arg code.length r = true := by rw [b]; simp; omega
        rw [if_neg hb2, stop _ _ a hk']
        have e : runM code f (doM op arg (incM m)) = (0, doM op arg (incM m)) := by
          cases f <;> exact if_neg (fun h => hq h.1)
        rw [e, if_pos rfl]
      · have hd2 : ¬ rdoB op arg code.length r = true := by rw [d]; simp
        have hb2 : ¬ (doM op arg (incM m)).bad = true := by rw [hb]; simp
        rw [if_neg hd2, if_neg hb2]
        have e : runM code f (doM op arg (incM m)) = (0, doM op arg (incM m)) := by
          cases f <;> exact if_neg (fun h => by rw [he] at h; cases h.2)
        rw [e, if_pos rfl, hst]
        have e2 : undoR s (rdoM op arg r) = rdoM op arg r := by unfold undoR; rw [if_neg (by rw [c]; simp)]
        rw [e2]
        obtain ⟨_, _, _, _, _, h20⟩ := mayP_arg hmay
        unfold refE endS
        rw [b, if_pos (h20 ho).1, if_neg (by rintro ⟨_, h⟩; cases h), a]
        rfl
      have hd2 : ¬ rdoB op arg code.length r = true := by rw [d]; simp
      have hb2 : ¬ (doM op arg (incM m)).bad = true := by rw [hb]; simp
      rw [if_neg hd2, if_neg hb2]
      have e : runM code f (doM op arg (incM m)) = (0, doM op arg (incM m)) := by
        cases f <;> exact if_neg (fun h => by rw [he] at h; cases h.2)
      rw [e, if_pos rfl]
      exact okE c (by rw [a, hst]) b (by rw [hst, ← h.st, hk.frame]; exact hsf) (by rw [hst, ← h.st, hk.win]; exact hsw) (by rw [hst, ← h.st, hk.over]; exact hso)
    have e1 : runM code (f + 1) m = (0, m) := if_neg (fun h => hp h.1)
    have e2 : rrunM code (f + 1) r = r := if_neg (by rw [hpc]; exact hp)
    rw [e1, e2, if_pos rfl]
    exact stop m r h hk
theorem step_eq {code : List (Int × Int)} {cap : Int} {fuel : Nat} {s : Sta} {i0 i1 : UInt16} (hc : (chkP code).2 = 0) (hso : s.over = false) (hsw : s.win = 0) (hsf : s.frame < cap) : rstepM code cap fuel s i0 i1 = stepM code cap fuel s i0 i1 :=
  run_eq hc hso hsw hsf fuel (mac0 s i0 i1) (rac0 s i0 i1) ⟨rfl, rfl, rfl, rfl, rfl, rfl, rfl, rfl, rfl⟩ ⟨rfl, rfl, rfl⟩ (by show (0 : Int) ≤ 0; omega)
end
section
section
variable {s : Sta} {K : C → Prop}
@[go_sem ↓ 1200] theorem sd_c0 : (∃ c, ((sd s).map D.toC)[1]? = some c ∧ K c) = K (.val (.int .i32 (s.cells.getD 0 0))) := ex_some (get_cells (k := 0) (by omega))
@[go_sem ↓ 1200] theorem sd_c1 : (∃ c, ((sd s).map D.toC)[2]? = some c ∧ K c) = K (.val (.int .i32 (s.cells.getD 1 0))) := ex_some (get_cells (k := 1) (by omega))
end
def stepP (code : List (Int × Int)) (cap fuel : Int) (s : Sta) (i0 i1 : UInt16) : Sta × Int :=
  if gameP code cap fuel ≠ 0 then (stz 0 0, gameP code cap fuel)
  else if isP s = false ∨ U32 s.seed = 0 then (stz 0 0, 1)
  else if s.over = true ∨ cap ≤ s.frame then (stz 0 0, 12)
  else (stepM code cap fuel.toNat s i0 i1, 0)
theorem isP_spec {s : Sta} (h : isP s = true) : 0 ≤ s.frame ∧ s.frame ≤ 600 ∧ 0 ≤ s.win ∧ s.win ≤ 2 ∧ (s.over = true ∨ s.win = 0) := by
  unfold isP at h
  simp only [Bool.and_eq_true, decide_eq_true_eq, Bool.or_eq_true] at h
  obtain ⟨⟨⟨⟨h1, h2⟩, h3⟩, h4⟩, h5⟩ := h
  exact ⟨h1, h2, h3, h4, h5⟩
theorem gameP_spec {code : List (Int × Int)} {cap fuel : Int} (h : gameP code cap fuel = 0) : (chkP code).2 = 0 ∧ 1 ≤ cap ∧ cap ≤ 600 ∧ 1 ≤ fuel ∧ fuel ≤ 2000 := by
  unfold gameP at h
  split at h
  · rename_i h1; exact absurd h h1
  rename_i h1
  split at h
  · cases h
  rename_i h2
  exact ⟨by simpa using h1, by omega, by omega, by omega, by omega⟩
theorem runM_B {code : List (Int × Int)} (hc : (chkP code).2 = 0) : ∀ (f : Nat) (m : Mac), okL m → 0 ≤ m.pc → okL (runM code f m).2
  | 0, m, h, _ => by unfold runM; split <;> exact h
  | f + 1, m, h, h0 => by
    unfold runM
    split
    · rename_i hp
      have hmay := chk_all hc (i := m.pc.toNat) (by omega)
      have h1 : okL (incM m) := ⟨h.sk, h.cells, h.fr0, h.fr1⟩
      have h2 := doM_low h1 hmay
      split
      · exact h2
      exact runM_B hc f _ h2 (doM_pc0 (by show 0 ≤ m.pc + 1; omega) hmay)
    exact h
theorem endS_cells (cap : Int) (s : Sta) : (endS cap s).cells = s.cells := by unfold endS; split <;> rfl
theorem step_B32 (code : List (Int × Int)) (cap fuel : Int) (s : Sta) (i0 i1 : UInt16) (h : ∀ x ∈ s.cells, B32 x) : ∀ x ∈ (stepP code cap fuel s i0 i1).1.cells, B32 x := by
  have hz : ∀ x ∈ (stz 0 0).cells, B32 x := fun x hx => by
    have : x = 0 := List.eq_of_mem_replicate hx
    rw [this]; exact B32_0
  unfold stepP
  split
  · exact hz
  rename_i hg
  split
  · exact hz
  rename_i hi
  split
  · exact hz
  have hg' : gameP code cap fuel = 0 := by simpa using hg
  have hi' : isP s = true := by cases hh : isP s <;> simp_all
  obtain ⟨f0, f1, _⟩ := isP_spec hi'
  show ∀ x ∈ (stepM code cap fuel.toNat s i0 i1).cells, B32 x
  unfold stepM
  rw [endS_cells]
  split
  · exact (runM_B (gameP_spec hg').1 _ _ ⟨fun x hx => (by cases hx), h, f0, f1⟩ (by show (0 : Int) ≤ 0; omega)).cells
  exact h
set_option maxRecDepth 20000 in
set_option maxHeartbeats 16000000 in
theorem step_h (code : List (Int × Int)) (cap fuel : Int) (s : Sta) (i0 i1 : UInt16) (hcl : code.length ≤ 9223372036854775807) (hB : ∀ x ∈ s.cells, B32 x) :
    Holds Try.prog 57 [.game code cap fuel, .agg ((sd s).map D.toC), .agg [.val (.int .u16 (U16 i0)), .val (.int .u16 (U16 i1))]] [] (fun r h' => r = .tup [.agg ((sd (stepP code cap fuel s i0 i1).1).map D.toC), .int .i64 (stepP code cap fuel s i0 i1).2] ∧ h' = []) := by
  have hgc := gcheck_h code cap fuel hcl
  have his := isState_h s
  refine holds_of_awp Try.func57 rfl (by decide +kernel) mixed Try.ntmps57 Try.results57 ?_
  refine zE ?_
  refine zs ?_;try exact trivial
  refine a_call [] (hgc) ok0 ?_ ?_ ?_
  · refine zs ?_;try exact trivial
  · refine zs ?_;try exact trivial
  rintro _ _ ⟨rfl, rfl⟩
  by_cases hg : gameP code cap fuel = 0
  · obtain ⟨g1, g2, g3, g4, g5⟩ := gameP_spec hg
    have hlen := game_len hg
    rw [hg]
    refine zc ?_;try exact trivial
    refine a_call [] (his) ok0 ?_ ?_ ?_
    · refine zs ?_;try exact trivial
    · refine zs ?_;try exact trivial
    rintro _ _ ⟨rfl, rfl⟩
    cases hi : isP s
    · have e : stepP code cap fuel s i0 i1 = (stz 0 0, 1) := by unfold stepP; rw [if_neg (by rw [hg]; simp), if_pos (.inl hi)]
      rw [e]
      refine zc ?_;try exact trivial
      all_goals exact leCs_refl _
    obtain ⟨s1, s2, s3, s4, s5⟩ := isP_spec hi
    refine zc ?_;try exact trivial
    cases hz : decide (U32 s.seed = 0)
    · have hz' := of_decide_eq_false hz
      simp (maxSteps:=2000000) (disch:=omega) only [go_sem,Nat.reduceAdd,Nat.reduceSub,Nat.reduceMul,Nat.reduceBEq,Nat.reduceEqDiff,Nat.reduceLT,Nat.reduceLeDiff,Nat.reduceDiv,reduceIte,reduceCtorEq, hz]
      cases ho : s.over
      · simp (maxSteps:=2000000) (disch:=omega) only [go_sem,Nat.reduceAdd,Nat.reduceSub,Nat.reduceMul,Nat.reduceBEq,Nat.reduceEqDiff,Nat.reduceLT,Nat.reduceLeDiff,Nat.reduceDiv,reduceIte,reduceCtorEq, ho]
        cases hf : decide (cap ≤ s.frame)
        · have hf' := of_decide_eq_false hf
          have hw : s.win = 0 := by rcases s5 with h | h; rw [ho] at h; cases h; exact h
          have e : stepP code cap fuel s i0 i1 = (stepM code cap fuel.toNat s i0 i1, 0) := by unfold stepP; rw [if_neg (by rw [hg]; simp), if_neg (by rintro (h | h); rw [hi] at h; cases h; exact hz' h), if_neg (by rintro (h | h); rw [ho] at h; cases h; exact hf' h)]
          rw [e]
          have hrun := run_h10 code cap fuel.toNat (mac0 s i0 i1) g1 (by omega) ⟨by show (0 : Int) ≤ 0; omega, by show (0 : Int) ≤ _; omega, by show 0 ≤ 32; omega, fun x hx => (by cases hx), hB, s1, s2⟩ rfl (by omega)
          rw [show ((fuel.toNat : Nat) : Int) = fuel by omega] at hrun
          have hlow := runM_B g1 fuel.toNat (mac0 s i0 i1) ⟨fun x hx => (by cases hx), hB, s1, s2⟩ (by show (0 : Int) ≤ 0; omega)
          have eM : stepM code cap fuel.toNat s i0 i1 = endS cap (if (runM code fuel.toNat (mac0 s i0 i1)).1 = 0 then (runM code fuel.toNat (mac0 s i0 i1)).2.st else s) := rfl
          rw [eM]
          clear e eM
          generalize runM code fuel.toNat (mac0 s i0 i1) = x at hrun hlow ⊢
          obtain ⟨E, M⟩ := x
          simp only at hrun hlow ⊢
          have mf0 := hlow.fr0
          have mf1 := hlow.fr1
          simp (maxSteps:=2000000) (disch:=omega) only [go_sem,Nat.reduceAdd,Nat.reduceSub,Nat.reduceMul,Nat.reduceBEq,Nat.reduceEqDiff,Nat.reduceLT,Nat.reduceLeDiff,Nat.reduceDiv,reduceIte,reduceCtorEq, hf]
          refine a_call [.loc [40]] hrun (ok1 rfl) ?_ ?_ ?_
          · refine zs ?_;try exact trivial
          · refine zs ?_;try exact trivial
            exact mc_le ⟨rfl, rfl, rfl, by simp [leC], rfl, rfl, rfl⟩
          rintro _ _ ⟨rfl, rfl⟩
          refine zc ?_;try exact trivial
          clear hrun hgc his hB g1 hlow
          refine c_dec (fun hE => ?_) (fun hE => ?_)
          · rw [if_neg (show ¬ E = 0 from hE)]
            refine zc ?_;try exact trivial
            have hover : (s).over = false ∨ (s).over = true := by cases (s).over <;> simp
            cases hk : decide (cap ≤ (s).frame + 1)
            · have e2 : endS cap (s) = (s).wFrame ((s).frame + 1) := by unfold endS; rw [if_neg (fun h => (of_decide_eq_false hk) h.1)]
              rw [e2]
              simp (maxSteps:=2000000) (disch:=omega) only [go_sem,Nat.reduceAdd,Nat.reduceSub,Nat.reduceMul,Nat.reduceBEq,Nat.reduceEqDiff,Nat.reduceLT,Nat.reduceLeDiff,Nat.reduceDiv,reduceIte,reduceCtorEq, hk]
              all_goals exact leCs_refl _
            cases hq : (!(s).over)
            · have e2 : endS cap (s) = (s).wFrame ((s).frame + 1) := by unfold endS; rw [if_neg (fun h => by rw [h.2] at hq; cases hq)]
              rw [e2]
              simp (maxSteps:=2000000) (disch:=omega) only [go_sem,Nat.reduceAdd,Nat.reduceSub,Nat.reduceMul,Nat.reduceBEq,Nat.reduceEqDiff,Nat.reduceLT,Nat.reduceLeDiff,Nat.reduceDiv,reduceIte,reduceCtorEq, hk, hq]
              all_goals exact leCs_refl _
            have hq' : (s).over = false := by cases hh : (s).over <;> simp_all
            have e2 : endS cap (s) = (((s).wFrame ((s).frame + 1)).wOver true).wWin (winS (s)) := by unfold endS; rw [if_pos ⟨of_decide_eq_true hk, hq'⟩]
            rw [e2]
            simp (maxSteps:=2000000) (disch:=omega) only [go_sem,Nat.reduceAdd,Nat.reduceSub,Nat.reduceMul,Nat.reduceBEq,Nat.reduceEqDiff,Nat.reduceLT,Nat.reduceLeDiff,Nat.reduceDiv,reduceIte,reduceCtorEq, hk, hq]
            refine c_dec (fun w1 => ?_) (fun w1 => ?_)
            · have e3 : winS (s) = 0 := by unfold winS; rw [if_pos w1]
              rw [e3]
              refine zc ?_;try exact trivial
              all_goals exact leCs_refl _
            refine zc ?_;try exact trivial
            refine c_dec (fun w2 => ?_) (fun w2 => ?_)
            · have e3 : winS (s) = 1 := by unfold winS; rw [if_neg w1, if_pos w2]
              rw [e3]
              refine zc ?_;try exact trivial
              all_goals exact leCs_refl _
            have e3 : winS (s) = 2 := by unfold winS; rw [if_neg w1, if_neg w2]
            rw [e3]
            refine zc ?_;try exact trivial
            all_goals exact leCs_refl _
          rw [if_pos (show E = 0 by omega)]
          refine zc ?_;try exact trivial
          have hover : (M.st).over = false ∨ (M.st).over = true := by cases (M.st).over <;> simp
          cases hk : decide (cap ≤ (M.st).frame + 1)
          · have e2 : endS cap (M.st) = (M.st).wFrame ((M.st).frame + 1) := by unfold endS; rw [if_neg (fun h => (of_decide_eq_false hk) h.1)]
            rw [e2]
            simp (maxSteps:=2000000) (disch:=omega) only [go_sem,Nat.reduceAdd,Nat.reduceSub,Nat.reduceMul,Nat.reduceBEq,Nat.reduceEqDiff,Nat.reduceLT,Nat.reduceLeDiff,Nat.reduceDiv,reduceIte,reduceCtorEq, hk]
            all_goals exact leCs_refl _
          cases hq : (!(M.st).over)
          · have e2 : endS cap (M.st) = (M.st).wFrame ((M.st).frame + 1) := by unfold endS; rw [if_neg (fun h => by rw [h.2] at hq; cases hq)]
            rw [e2]
            simp (maxSteps:=2000000) (disch:=omega) only [go_sem,Nat.reduceAdd,Nat.reduceSub,Nat.reduceMul,Nat.reduceBEq,Nat.reduceEqDiff,Nat.reduceLT,Nat.reduceLeDiff,Nat.reduceDiv,reduceIte,reduceCtorEq, hk, hq]
            all_goals exact leCs_refl _
          have hq' : (M.st).over = false := by cases hh : (M.st).over <;> simp_all
          have e2 : endS cap (M.st) = (((M.st).wFrame ((M.st).frame + 1)).wOver true).wWin (winS (M.st)) := by unfold endS; rw [if_pos ⟨of_decide_eq_true hk, hq'⟩]
          rw [e2]
          simp (maxSteps:=2000000) (disch:=omega) only [go_sem,Nat.reduceAdd,Nat.reduceSub,Nat.reduceMul,Nat.reduceBEq,Nat.reduceEqDiff,Nat.reduceLT,Nat.reduceLeDiff,Nat.reduceDiv,reduceIte,reduceCtorEq, hk, hq]
          refine c_dec (fun w1 => ?_) (fun w1 => ?_)
          · have e3 : winS (M.st) = 0 := by unfold winS; rw [if_pos w1]
            rw [e3]
            refine zc ?_;try exact trivial
            all_goals exact leCs_refl _
          refine zc ?_;try exact trivial
          refine c_dec (fun w2 => ?_) (fun w2 => ?_)
          · have e3 : winS (M.st) = 1 := by unfold winS; rw [if_neg w1, if_pos w2]
            rw [e3]
            refine zc ?_;try exact trivial
            all_goals exact leCs_refl _
          have e3 : winS (M.st) = 2 := by unfold winS; rw [if_neg w1, if_neg w2]
          rw [e3]
          refine zc ?_;try exact trivial
          all_goals exact leCs_refl _
        have e : stepP code cap fuel s i0 i1 = (stz 0 0, 12) := by unfold stepP; rw [if_neg (by rw [hg]; simp), if_neg (by rintro (h | h); rw [hi] at h; cases h; exact hz' h), if_pos (.inr (of_decide_eq_true hf))]
        rw [e]
        simp (maxSteps:=2000000) (disch:=omega) only [go_sem,Nat.reduceAdd,Nat.reduceSub,Nat.reduceMul,Nat.reduceBEq,Nat.reduceEqDiff,Nat.reduceLT,Nat.reduceLeDiff,Nat.reduceDiv,reduceIte,reduceCtorEq, hf]
        all_goals exact leCs_refl _
      have e : stepP code cap fuel s i0 i1 = (stz 0 0, 12) := by unfold stepP; rw [if_neg (by rw [hg]; simp), if_neg (by rintro (h | h); rw [hi] at h; cases h; exact hz' h), if_pos (.inl ho)]
      rw [e]
      simp (maxSteps:=2000000) (disch:=omega) only [go_sem,Nat.reduceAdd,Nat.reduceSub,Nat.reduceMul,Nat.reduceBEq,Nat.reduceEqDiff,Nat.reduceLT,Nat.reduceLeDiff,Nat.reduceDiv,reduceIte,reduceCtorEq, ho]
      all_goals exact leCs_refl _
    have e : stepP code cap fuel s i0 i1 = (stz 0 0, 1) := by unfold stepP; rw [if_neg (by rw [hg]; simp), if_pos (.inr (of_decide_eq_true hz))]
    rw [e]
    simp (maxSteps:=2000000) (disch:=omega) only [go_sem,Nat.reduceAdd,Nat.reduceSub,Nat.reduceMul,Nat.reduceBEq,Nat.reduceEqDiff,Nat.reduceLT,Nat.reduceLeDiff,Nat.reduceDiv,reduceIte,reduceCtorEq, hz]
    all_goals exact leCs_refl _
  have e : stepP code cap fuel s i0 i1 = (stz 0 0, gameP code cap fuel) := by unfold stepP; rw [if_pos hg]
  rw [e]
  have dn : decide (gameP code cap fuel ≠ 0) = true := decide_eq_true hg
  simp (maxSteps:=2000000) (disch:=omega) only [go_sem,Nat.reduceAdd,Nat.reduceSub,Nat.reduceMul,Nat.reduceBEq,Nat.reduceEqDiff,Nat.reduceLT,Nat.reduceLeDiff,Nat.reduceDiv,reduceIte,reduceCtorEq, dn]
  all_goals exact leCs_refl _
end
section
@[go_sem 1200] theorem prs_app {l : List (UInt16 × UInt16)} {a b : UInt16} : prs l ++ [.val (.int .u16 (U16 a)), .val (.int .u16 (U16 b))] = prs (l ++ [(a, b)]) := by
  simp [prs, prD, fU]
/-- the frames of which both did something -/
def cuP (code : List (Int × Int)) (cap fuel : Int) (a b : List UInt16) : Nat → List (UInt16 × UInt16) → Sta → List (UInt16 × UInt16) × Sta
  | 0, ps, st => (ps, st)
  | f + 1, ps, st => if st.over = false ∧ ps.length < min a.length b.length then
      cuP code cap fuel a b f (ps ++ [(a.getD ps.length 0, b.getD ps.length 0)]) (stepP code cap fuel st (a.getD ps.length 0) (b.getD ps.length 0)).1 else (ps, st)
def goP (c : Ct) : Ct := { c with pairs := (cuP c.code c.cap c.fuel c.in0 c.in1 (min c.in0.length c.in1.length - c.pairs.length) c.pairs c.st).1, st := (cuP c.code c.cap c.fuel c.in0 c.in1 (min c.in0.length c.in1.length - c.pairs.length) c.pairs c.st).2 }
def inputP (c : Ct) (e : Ev) : Ct := goP (inputP0 c e)
set_option maxRecDepth 20000 in
set_option maxHeartbeats 16000000 in
theorem input_h (c : Ct) (e : Ev) (h0 : c.in0.length ≤ 1000000) (h1 : c.in1.length ≤ 1000000) (hpl : c.pairs.length ≤ 1000000) (hs : 0 ≤ seatP c e.player) (hg : gameP c.code c.cap c.fuel = 0) (hB : ∀ x ∈ c.st.cells, B32 x) :
    Holds Try.prog 37 [.ptr (.arg 0) 0, .ev e] [(.arg 0, ctB (.arg 0) c)] (fun r h' => r = .tup [] ∧ h' = [(.arg 0, ctB (.arg 0) (inputP c e))]) := by
  have hcl := game_len hg
  refine holds_of_awp Try.func37 rfl (by decide +kernel) mixed Try.ntmps37 Try.results37 ?_
  refine zE ?_
  refine zs ?_;try exact trivial
  refine a_call [.arg 0] (seat_h c e.player) (ok1 rfl) ?_ ?_ ?_
  · refine zs ?_;try exact trivial
  · refine zs ?_;try exact trivial
  rintro _ _ ⟨rfl, rfl⟩
  rcases seat_cases c e.player hs with q | q
  · have ei : inputP0 c e = { c with in0 := c.in0 ++ [e.inp] } := by unfold inputP0; rw [if_pos q]
    have hF : inputP c e = goP { c with in0 := c.in0 ++ [e.inp] } := by unfold inputP; rw [ei]
    rw [hF]
    clear hF ei
    obtain ⟨code, cap, fuel, p0, p1, seed, l0, l1, over, winner, why, opn, in0, in1, pairs, st, events⟩ := c
    simp only at h0 h1 hpl hg hB hcl
    rw [q]
    obtain ⟨a, ha⟩ : ∃ a, a = in0 ++ [e.inp] := ⟨_, rfl⟩
    obtain ⟨b, hb⟩ : ∃ b, b = in1 := ⟨_, rfl⟩
    have la : a.length ≤ 1000001 := by rw [ha]; simp; omega
    have lb : b.length ≤ 1000001 := by rw [hb]; omega
    obtain ⟨ps', st', hcu⟩ : ∃ ps' st', cuP code cap fuel a b (min a.length b.length - pairs.length) pairs st = (ps', st') := ⟨_, _, rfl⟩
    have hgo : goP ⟨code, cap, fuel, p0, p1, seed, l0, l1, over, winner, why, opn, in0 ++ [e.inp], in1, pairs, st, events⟩ = ⟨code, cap, fuel, p0, p1, seed, l0, l1, over, winner, why, opn, a, b, ps', st', events⟩ := by
      unfold goP
      simp only [← ha, ← hb, hcu]
    rw [hgo]
    refine zc ?_;try exact trivial
    refine a_drawC (⟨[V.cell (.ptr (.arg 0) 0), .undef, .undef, V.cell (.ptr (.loc [3]) 0), V.int .i64 0, U, U, U, U, U, U, U, U, U, U, U, U, U, U, U, U, U, U, U, U, U, U, U, U, U, U, U, U, U, U, U, U, U, U, U, U, U, U, U, U, U, U, U, U, U, U, U, U, U, U, U, U, U, U, U, U, U, U, U, U, U, U, U, U, U, U, U, U, U, U, U, U, U, U, U, U, U, U, U, U, U, U, U, U, U, U, U, U, U, U, U, U, U, U, U, U, U, U, U, U, U, U, U, U, U, .undef], [(.loc [3], evC e), (.arg 0, ctC (.lst .no none 2 (ins code)) cap fuel p0 p1 seed l0 l1 (in0.length : Int) (in1.length : Int) over winner why opn (.lst (.tag (.cell (.arg 0) 14)) none 1 (ls fU (a))) (.lst (.tag (.cell (.arg 0) 15)) none 1 (ls fU (b))) (.lst (.tag (.cell (.arg 0) 16)) none 2 (prs (pairs))) (st) (.lst (.tag (.cell (.arg 0) 37)) none 6 (evs events)))]⟩) (.take 0 (.take 1 (.take 2 (.take 3 (.take 4 (.take 5 (.take 6 (.take 8 (.take 12 (.take 13 (.both [(7, .both [(9, .both [(10, .both [(11, .take 14 (.both [(15, .done)]))])])]), (9, .both [(7, .both [(10, .both [(11, .take 14 (.both [(15, .done)]))])]), (10, .both [(7, .both [(11, .take 14 (.both [(15, .done)]))])])])]))))))))))) (by kernel_rfl) (by kernel_rfl) ?_ ?_
    · refine zc ?_;try exact trivial
      all_goals (try rw [ha]); all_goals (try rw [hb]); all_goals (try (refine zc ?_; try exact trivial)); all_goals (try omega)
    refine zc ?_;try exact trivial
    refine a_drawC (⟨[V.cell (.ptr (.arg 0) 0), .undef, .undef, V.cell (.ptr (.loc [3]) 0), V.int .i64 0, U, U, U, U, U, U, U, U, U, U, U, U, U, U, U, U, U, U, U, U, U, U, U, U, U, U, U, U, U, U, U, U, U, U, U, U, U, U, U, U, U, U, U, U, U, U, U, U, U, U, U, U, U, U, U, U, U, U, U, U, U, U, U, U, U, U, U, U, U, U, U, U, U, U, U, U, U, U, U, U, U, U, U, U, U, U, U, U, U, U, U, U, U, U, U, U, U, U, U, U, U, U, U, U, U, .undef], [(.loc [3], evC e), (.arg 0, ctC (.lst .no none 2 (ins code)) cap fuel p0 p1 seed l0 l1 (a.length : Int) (b.length : Int) over winner why opn (.lst (.tag (.cell (.arg 0) 14)) none 1 (ls fU (a))) (.lst (.tag (.cell (.arg 0) 15)) none 1 (ls fU (b))) (.lst (.tag (.cell (.arg 0) 16)) none 2 (prs (pairs))) (st) (.lst (.tag (.cell (.arg 0) 37)) none 6 (evs events)))]⟩) (.take 0 (.take 1 (.take 2 (.take 3 (.take 4 (.take 5 (.take 8 (.take 9 (.take 10 (.both [(6, .take 7 (.take 11 (.both [(12, .done)])))])))))))))) (by kernel_rfl) (by kernel_rfl) ?_ ?_
    · refine zc ?_;try exact trivial
      all_goals (try rw [ha]); all_goals (try rw [hb]); all_goals (try (refine zc ?_; try exact trivial)); all_goals (try omega)
    refine zc ?_;try exact trivial
    refine a_loopk (fun x : List (UInt16 × UInt16) × Sta => ⟨[V.cell (.ptr (.arg 0) 0), .undef, .undef, V.cell (.ptr (.loc [3]) 0), V.int .i64 0, V.int .i64 (x.1.length : Int), U, U, U, U, U, U, U, U, U, U, U, U, U, U, U, U, U, U, U, U, U, U, U, U, U, U, U, U, U, U, U, U, U, U, U, U, U, U, U, U, U, U, U, U, U, U, U, U, U, U, U, U, U, U, U, U, U, U, U, U, U, U, U, U, U, U, U, U, U, U, U, U, U, U, U, U, U, U, U, U, U, U, U, U, U, U, U, U, U, U, U, U, U, U, U, U, U, U, U, U, U, U, U, U, .undef], [(.loc [3], evC e), (.arg 0, ctC (.lst .no none 2 (ins code)) cap fuel p0 p1 seed l0 l1 (a.length : Int) (b.length : Int) over winner why opn (.lst (.tag (.cell (.arg 0) 14)) none 1 (ls fU (a))) (.lst (.tag (.cell (.arg 0) 15)) none 1 (ls fU (b))) (.lst (.tag (.cell (.arg 0) 16)) none 2 (prs (x.1))) (x.2) (.lst (.tag (.cell (.arg 0) 37)) none 6 (evs events)))]⟩) (fun x => x.1.length ≤ 1000001 ∧ (∀ y ∈ x.2.cells, B32 y) ∧ cuP code cap fuel a b (min a.length b.length - x.1.length) x.1 x.2 = (ps', st')) (fun x => min a.length b.length - x.1.length) (pairs, st) ⟨by show pairs.length ≤ 1000001; omega, hB, hcu⟩ ?_ ?_
    · try (refine zs ?_; try exact trivial)
    rintro ⟨ps, sx⟩ ⟨hp1, hp2, hp3⟩
    simp only at hp1 hp2 hp3 ⊢
    refine zs ?_;try exact trivial
    refine a_quiet (by kernel_rfl) (by kernel_rfl) (by kernel_rfl) ?_
    cases so : (!sx.over)
    · have so' : sx.over = true := by cases hh : sx.over <;> simp_all
      have e0 : cuP code cap fuel a b (min a.length b.length - ps.length) ps sx = (ps, sx) := by
        cases hm : min a.length b.length - ps.length with
        | zero => rfl
        | succ n => unfold cuP; rw [if_neg (by rw [so']; simp)]
      rw [e0] at hp3
      cases hp3
      simp (maxSteps:=2000000) (disch:=omega) only [go_sem,Nat.reduceAdd,Nat.reduceSub,Nat.reduceMul,Nat.reduceBEq,Nat.reduceEqDiff,Nat.reduceLT,Nat.reduceLeDiff,Nat.reduceDiv,reduceIte,reduceCtorEq, so]
      all_goals exact ct_le ⟨leC_refl _, rfl, rfl, rfl, rfl, rfl, rfl, rfl, rfl, rfl, rfl, rfl, rfl, rfl, leC_refl _, leC_refl _, leC_refl _, rfl, leC_refl _⟩
    simp (maxSteps:=2000000) (disch:=omega) only [go_sem,Nat.reduceAdd,Nat.reduceSub,Nat.reduceMul,Nat.reduceBEq,Nat.reduceEqDiff,Nat.reduceLT,Nat.reduceLeDiff,Nat.reduceDiv,reduceIte,reduceCtorEq, so]
    have so' : sx.over = false := by cases hh : sx.over <;> simp_all
    refine c_dec (fun g => ?_) (fun g => ?_)
    · have hlt : ps.length < min a.length b.length := by omega
      have hpa : ps.length < a.length := by omega
      have hpb : ps.length < b.length := by omega
      obtain ⟨m, hm⟩ : ∃ m, min a.length b.length - ps.length = m + 1 := ⟨min a.length b.length - ps.length - 1, by omega⟩
      rw [hm] at hp3
      unfold cuP at hp3
      rw [if_pos ⟨so', hlt⟩] at hp3
      refine zc ?_;try exact trivial
      refine a_drawC (⟨[V.cell (.ptr (.arg 0) 0), .undef, .undef, V.cell (.ptr (.loc [3]) 0), V.int .i64 0, V.int .i64 (ps.length : Int), V.cell (.ptr (.loc [6]) 0), U, U, U, U, U, U, U, U, U, U, U, U, U, U, U, U, U, U, U, U, U, U, U, U, U, U, U, U, U, U, U, U, U, U, U, U, U, U, U, U, U, U, U, U, U, U, U, U, U, U, U, U, U, U, U, U, U, U, U, U, U, U, U, U, U, U, U, U, U, U, U, U, U, U, U, U, U, U, U, U, U, U, U, U, U, U, U, U, U, U, U, U, U, U, U, U, U, U, U, U, U, U, U, .undef], [(.loc [6], [.val (.int .u16 (U16 (a.getD ps.length 0))), .val (.int .u16 (U16 (b.getD ps.length 0)))]), (.loc [3], evC e), (.arg 0, ctC (.lst .no none 2 (ins code)) cap fuel p0 p1 seed l0 l1 (a.length : Int) (b.length : Int) over winner why opn (.lst (.tag (.cell (.arg 0) 14)) none 1 (ls fU (a))) (.lst (.tag (.cell (.arg 0) 15)) none 1 (ls fU (b))) (.lst (.tag (.cell (.arg 0) 16)) none 2 (prs (ps))) (sx) (.lst (.tag (.cell (.arg 0) 37)) none 6 (evs events)))]⟩) (.take 0 (.take 1 (.take 2 (.take 3 (.take 5 (.take 8 (.take 9 (.take 10 (.take 11 (.take 13 (.both [(4, .take 6 (.both [(7, .both [(12, .take 14 (.both [(15, .both [(16, .both [(17, .both [(18, .done)])]), (17, .both [(16, .both [(18, .done)])])]), (17, .both [(15, .both [(16, .both [(18, .done)])])])])), (17, .both [(12, .take 14 (.both [(15, .both [(16, .both [(18, .done)])])]))])]), (12, .take 14 (.both [(7, .both [(15, .both [(16, .both [(17, .both [(18, .done)])]), (17, .both [(16, .both [(18, .done)])])]), (17, .both [(15, .both [(16, .both [(18, .done)])])])]), (15, .both [(7, .both [(16, .both [(17, .both [(18, .done)])]), (17, .both [(16, .both [(18, .done)])])]), (17, .both [(7, .both [(16, .both [(18, .done)])])])]), (17, .both [(7, .both [(15, .both [(16, .both [(18, .done)])])]), (15, .both [(7, .both [(16, .both [(18, .done)])])])])])), (17, .both [(7, .both [(12, .take 14 (.both [(15, .both [(16, .both [(18, .done)])])]))]), (12, .take 14 (.both [(7, .both [(15, .both [(16, .both [(18, .done)])])]), (15, .both [(7, .both [(16, .both [(18, .done)])])])]))])])), (12, .take 14 (.both [(4, .take 6 (.both [(7, .both [(15, .both [(16, .both [(17, .both [(18, .done)])]), (17, .both [(16, .both [(18, .done)])])]), (17, .both [(15, .both [(16, .both [(18, .done)])])])]), (15, .both [(7, .both [(16, .both [(17, .both [(18, .done)])]), (17, .both [(16, .both [(18, .done)])])]), (17, .both [(7, .both [(16, .both [(18, .done)])])])]), (17, .both [(7, .both [(15, .both [(16, .both [(18, .done)])])]), (15, .both [(7, .both [(16, .both [(18, .done)])])])])])), (15, .both [(4, .take 6 (.both [(7, .both [(16, .both [(17, .both [(18, .done)])]), (17, .both [(16, .both [(18, .done)])])]), (17, .both [(7, .both [(16, .both [(18, .done)])])])])), (17, .both [(4, .take 6 (.both [(7, .both [(16, .both [(18, .done)])])]))])]), (17, .both [(4, .take 6 (.both [(7, .both [(15, .both [(16, .both [(18, .done)])])]), (15, .both [(7, .both [(16, .both [(18, .done)])])])])), (15, .both [(4, .take 6 (.both [(7, .both [(16, .both [(18, .done)])])]))])])])), (17, .both [(4, .take 6 (.both [(7, .both [(12, .take 14 (.both [(15, .both [(16, .both [(18, .done)])])]))]), (12, .take 14 (.both [(7, .both [(15, .both [(16, .both [(18, .done)])])]), (15, .both [(7, .both [(16, .both [(18, .done)])])])]))])), (12, .take 14 (.both [(4, .take 6 (.both [(7, .both [(15, .both [(16, .both [(18, .done)])])]), (15, .both [(7, .both [(16, .both [(18, .done)])])])])), (15, .both [(4, .take 6 (.both [(7, .both [(16, .both [(18, .done)])])]))])]))])]))))))))))) (by kernel_rfl) (by kernel_rfl) ?_ ?_
      · refine zc ?_;try exact trivial
      refine zc ?_;try exact trivial
      refine a_drawC (⟨[V.cell (.ptr (.arg 0) 0), .undef, .undef, V.cell (.ptr (.loc [3]) 0), V.int .i64 0, V.int .i64 (ps.length : Int), V.cell (.ptr (.loc [6]) 0), U, U, U, U, U, U, U, U, U, U, U, U, U, U, U, U, U, U, U, U, U, U, U, U, U, U, U, U, U, U, U, U, U, U, U, U, U, U, U, U, U, U, U, U, U, U, U, U, U, U, U, U, U, U, U, U, U, U, U, U, U, U, U, U, U, U, U, U, U, U, U, U, U, U, U, U, U, U, U, U, U, U, U, U, U, U, U, U, U, U, U, U, U, U, U, U, U, U, U, U, U, U, U, .undef], [(.loc [6], [.val (.int .u16 (U16 (a.getD ps.length 0))), .val (.int .u16 (U16 (b.getD ps.length 0)))]), (.loc [3], evC e), (.arg 0, ctC (.lst .no none 2 (ins code)) cap fuel p0 p1 seed l0 l1 (a.length : Int) (b.length : Int) over winner why opn (.lst (.tag (.cell (.arg 0) 14)) none 1 (ls fU (a))) (.lst (.tag (.cell (.arg 0) 15)) none 1 (ls fU (b))) (.lst (.tag (.cell (.arg 0) 16)) none 2 (prs (ps ++ [(a.getD ps.length 0, b.getD ps.length 0)]))) (sx) (.lst (.tag (.cell (.arg 0) 37)) none 6 (evs events)))]⟩) (.take 0 (.take 1 (.take 2 (.take 3 (.both [(4, .both [(5, .both [(6, .both [(7, .take 8 (.take 9 (.both [(10, .done)])))])])]), (5, .both [(4, .both [(6, .both [(7, .take 8 (.take 9 (.both [(10, .done)])))])]), (6, .both [(4, .both [(7, .take 8 (.take 9 (.both [(10, .done)])))])])])]))))) (by kernel_rfl) (by kernel_rfl) ?_ ?_
      · refine zc ?_;try exact trivial
        all_goals omega
      refine zc ?_;try exact trivial
      refine a_drawC (⟨[V.cell (.ptr (.arg 0) 0), .undef, .undef, V.cell (.ptr (.loc [3]) 0), V.int .i64 0, V.int .i64 (ps.length : Int), V.cell (.ptr (.loc [6]) 0), U, U, U, U, U, U, U, U, U, U, U, U, U, U, U, U, U, U, U, U, U, U, U, U, U, U, U, U, U, U, U, U, U, U, U, U, U, U, U, U, U, U, U, U, U, U, U, U, U, U, U, U, U, U, U, U, U, U, U, U, U, U, U, U, U, U, U, U, U, U, U, U, U, U, U, U, U, U, U, U, U, U, U, U, U, U, U, U, U, U, U, U, U, U, U, U, U, U, U, U, U, U, U, .undef], [(.loc [6], [.val (.int .u16 (U16 (a.getD ps.length 0))), .val (.int .u16 (U16 (b.getD ps.length 0)))]), (.loc [3], evC e), (.arg 0, ctC (.lst .no none 2 (ins code)) cap fuel p0 p1 seed l0 l1 (a.length : Int) (b.length : Int) over winner why opn (.lst (.tag (.cell (.arg 0) 14)) none 1 (ls fU (a))) (.lst (.tag (.cell (.arg 0) 15)) none 1 (ls fU (b))) (.lst (.tag (.cell (.arg 0) 16)) none 2 (prs (ps ++ [(a.getD ps.length 0, b.getD ps.length 0)]))) ((stepP code cap fuel sx (a.getD ps.length 0) (b.getD ps.length 0)).1) (.lst (.tag (.cell (.arg 0) 37)) none 6 (evs events)))]⟩) (.take 0 (.take 1 (.take 2 (.take 3 (.take 5 (.take 6 (.take 7 (.both [(4, .both [(8, .both [(9, .both [(10, .take 11 (.take 12 (.take 13 (.take 14 (.take 15 (.both [(16, .done)]))))))])]), (9, .both [(8, .both [(10, .take 11 (.take 12 (.take 13 (.take 14 (.take 15 (.both [(16, .done)]))))))])])]), (8, .both [(4, .both [(9, .both [(10, .take 11 (.take 12 (.take 13 (.take 14 (.take 15 (.both [(16, .done)]))))))])]), (9, .both [(4, .both [(10, .take 11 (.take 12 (.take 13 (.take 14 (.take 15 (.both [(16, .done)]))))))])])]), (9, .both [(4, .both [(8, .both [(10, .take 11 (.take 12 (.take 13 (.take 14 (.take 15 (.both [(16, .done)]))))))])]), (8, .both [(4, .both [(10, .take 11 (.take 12 (.take 13 (.take 14 (.take 15 (.both [(16, .done)]))))))])])])])))))))) (by kernel_rfl) (by kernel_rfl) ?_ ?_
      · refine zc ?_;try exact trivial
        have hst := step_h code cap fuel sx (a.getD ps.length 0) (b.getD ps.length 0) (by omega) hp2
        refine a_call [] hst ok0 ?_ ?_ ?_
        · refine zs ?_;try exact trivial
        · refine zs ?_;try exact trivial
        rintro _ _ ⟨rfl, rfl⟩
        refine zc ?_;try exact trivial
        all_goals exact leCs_refl _
      refine zc ?_;try exact trivial
      refine ⟨(ps ++ [(a.getD ps.length 0, b.getD ps.length 0)], (stepP code cap fuel sx (a.getD ps.length 0) (b.getD ps.length 0)).1), ?_, ⟨?_, ?_, ?_⟩, ?_⟩
      · simp; omega
      · simp; omega
      · exact step_B32 _ _ _ _ _ _ hp2
      · simp only [List.length_append, List.length_cons, List.length_nil]
        rw [show min a.length b.length - (ps.length + (0 + 1)) = m by omega]
        exact hp3
      try (refine zs ?_; try exact trivial)
    have e0 : cuP code cap fuel a b (min a.length b.length - ps.length) ps sx = (ps, sx) := by
      rw [show min a.length b.length - ps.length = 0 by omega]; rfl
    rw [e0] at hp3
    cases hp3
    refine zs ?_;try exact trivial
    all_goals exact ct_le ⟨leC_refl _, rfl, rfl, rfl, rfl, rfl, rfl, rfl, rfl, rfl, rfl, rfl, rfl, rfl, leC_refl _, leC_refl _, leC_refl _, rfl, leC_refl _⟩
  have ei : inputP0 c e = { c with in1 := c.in1 ++ [e.inp] } := by unfold inputP0; rw [if_neg (show ¬ seatP c e.player = 0 by omega)]
  have hF : inputP c e = goP { c with in1 := c.in1 ++ [e.inp] } := by unfold inputP; rw [ei]
  rw [hF]
  clear hF ei
  obtain ⟨code, cap, fuel, p0, p1, seed, l0, l1, over, winner, why, opn, in0, in1, pairs, st, events⟩ := c
  simp only at h0 h1 hpl hg hB hcl
  rw [q]
  obtain ⟨a, ha⟩ : ∃ a, a = in0 := ⟨_, rfl⟩
  obtain ⟨b, hb⟩ : ∃ b, b = in1 ++ [e.inp] := ⟨_, rfl⟩
  have la : a.length ≤ 1000001 := by rw [ha]; omega
  have lb : b.length ≤ 1000001 := by rw [hb]; simp; omega
  obtain ⟨ps', st', hcu⟩ : ∃ ps' st', cuP code cap fuel a b (min a.length b.length - pairs.length) pairs st = (ps', st') := ⟨_, _, rfl⟩
  have hgo : goP ⟨code, cap, fuel, p0, p1, seed, l0, l1, over, winner, why, opn, in0, in1 ++ [e.inp], pairs, st, events⟩ = ⟨code, cap, fuel, p0, p1, seed, l0, l1, over, winner, why, opn, a, b, ps', st', events⟩ := by
    unfold goP
    simp only [← ha, ← hb, hcu]
  rw [hgo]
  refine zc ?_;try exact trivial
  refine a_drawC (⟨[V.cell (.ptr (.arg 0) 0), .undef, .undef, V.cell (.ptr (.loc [3]) 0), V.int .i64 1, U, U, U, U, U, U, U, U, U, U, U, U, U, U, U, U, U, U, U, U, U, U, U, U, U, U, U, U, U, U, U, U, U, U, U, U, U, U, U, U, U, U, U, U, U, U, U, U, U, U, U, U, U, U, U, U, U, U, U, U, U, U, U, U, U, U, U, U, U, U, U, U, U, U, U, U, U, U, U, U, U, U, U, U, U, U, U, U, U, U, U, U, U, U, U, U, U, U, U, U, U, U, U, U, U, .undef], [(.loc [3], evC e), (.arg 0, ctC (.lst .no none 2 (ins code)) cap fuel p0 p1 seed l0 l1 (in0.length : Int) (in1.length : Int) over winner why opn (.lst (.tag (.cell (.arg 0) 14)) none 1 (ls fU (a))) (.lst (.tag (.cell (.arg 0) 15)) none 1 (ls fU (b))) (.lst (.tag (.cell (.arg 0) 16)) none 2 (prs (pairs))) (st) (.lst (.tag (.cell (.arg 0) 37)) none 6 (evs events)))]⟩) (.take 0 (.take 1 (.take 2 (.take 3 (.take 4 (.take 5 (.take 6 (.take 8 (.take 12 (.take 13 (.both [(7, .both [(9, .both [(10, .both [(11, .take 14 (.both [(15, .done)]))])])]), (9, .both [(7, .both [(10, .both [(11, .take 14 (.both [(15, .done)]))])]), (10, .both [(7, .both [(11, .take 14 (.both [(15, .done)]))])])])]))))))))))) (by kernel_rfl) (by kernel_rfl) ?_ ?_
  · refine zc ?_;try exact trivial
    all_goals (try rw [ha]); all_goals (try rw [hb]); all_goals (try (refine zc ?_; try exact trivial)); all_goals (try omega)
  refine zc ?_;try exact trivial
  refine a_drawC (⟨[V.cell (.ptr (.arg 0) 0), .undef, .undef, V.cell (.ptr (.loc [3]) 0), V.int .i64 1, U, U, U, U, U, U, U, U, U, U, U, U, U, U, U, U, U, U, U, U, U, U, U, U, U, U, U, U, U, U, U, U, U, U, U, U, U, U, U, U, U, U, U, U, U, U, U, U, U, U, U, U, U, U, U, U, U, U, U, U, U, U, U, U, U, U, U, U, U, U, U, U, U, U, U, U, U, U, U, U, U, U, U, U, U, U, U, U, U, U, U, U, U, U, U, U, U, U, U, U, U, U, U, U, U, .undef], [(.loc [3], evC e), (.arg 0, ctC (.lst .no none 2 (ins code)) cap fuel p0 p1 seed l0 l1 (a.length : Int) (b.length : Int) over winner why opn (.lst (.tag (.cell (.arg 0) 14)) none 1 (ls fU (a))) (.lst (.tag (.cell (.arg 0) 15)) none 1 (ls fU (b))) (.lst (.tag (.cell (.arg 0) 16)) none 2 (prs (pairs))) (st) (.lst (.tag (.cell (.arg 0) 37)) none 6 (evs events)))]⟩) (.take 0 (.take 1 (.take 2 (.take 3 (.take 4 (.take 5 (.take 8 (.take 9 (.take 10 (.both [(6, .take 7 (.take 11 (.both [(12, .done)])))])))))))))) (by kernel_rfl) (by kernel_rfl) ?_ ?_
  · refine zc ?_;try exact trivial
    all_goals (try rw [ha]); all_goals (try rw [hb]); all_goals (try (refine zc ?_; try exact trivial)); all_goals (try omega)
  refine zc ?_;try exact trivial
  refine a_loopk (fun x : List (UInt16 × UInt16) × Sta => ⟨[V.cell (.ptr (.arg 0) 0), .undef, .undef, V.cell (.ptr (.loc [3]) 0), V.int .i64 1, V.int .i64 (x.1.length : Int), U, U, U, U, U, U, U, U, U, U, U, U, U, U, U, U, U, U, U, U, U, U, U, U, U, U, U, U, U, U, U, U, U, U, U, U, U, U, U, U, U, U, U, U, U, U, U, U, U, U, U, U, U, U, U, U, U, U, U, U, U, U, U, U, U, U, U, U, U, U, U, U, U, U, U, U, U, U, U, U, U, U, U, U, U, U, U, U, U, U, U, U, U, U, U, U, U, U, U, U, U, U, U, U, .undef], [(.loc [3], evC e), (.arg 0, ctC (.lst .no none 2 (ins code)) cap fuel p0 p1 seed l0 l1 (a.length : Int) (b.length : Int) over winner why opn (.lst (.tag (.cell (.arg 0) 14)) none 1 (ls fU (a))) (.lst (.tag (.cell (.arg 0) 15)) none 1 (ls fU (b))) (.lst (.tag (.cell (.arg 0) 16)) none 2 (prs (x.1))) (x.2) (.lst (.tag (.cell (.arg 0) 37)) none 6 (evs events)))]⟩) (fun x => x.1.length ≤ 1000001 ∧ (∀ y ∈ x.2.cells, B32 y) ∧ cuP code cap fuel a b (min a.length b.length - x.1.length) x.1 x.2 = (ps', st')) (fun x => min a.length b.length - x.1.length) (pairs, st) ⟨by show pairs.length ≤ 1000001; omega, hB, hcu⟩ ?_ ?_
  · try (refine zs ?_; try exact trivial)
  rintro ⟨ps, sx⟩ ⟨hp1, hp2, hp3⟩
  simp only at hp1 hp2 hp3 ⊢
  refine zs ?_;try exact trivial
  refine a_quiet (by kernel_rfl) (by kernel_rfl) (by kernel_rfl) ?_
  cases so : (!sx.over)
  · have so' : sx.over = true := by cases hh : sx.over <;> simp_all
    have e0 : cuP code cap fuel a b (min a.length b.length - ps.length) ps sx = (ps, sx) := by
      cases hm : min a.length b.length - ps.length with
      | zero => rfl
      | succ n => unfold cuP; rw [if_neg (by rw [so']; simp)]
    rw [e0] at hp3
    cases hp3
    simp (maxSteps:=2000000) (disch:=omega) only [go_sem,Nat.reduceAdd,Nat.reduceSub,Nat.reduceMul,Nat.reduceBEq,Nat.reduceEqDiff,Nat.reduceLT,Nat.reduceLeDiff,Nat.reduceDiv,reduceIte,reduceCtorEq, so]
    all_goals exact ct_le ⟨leC_refl _, rfl, rfl, rfl, rfl, rfl, rfl, rfl, rfl, rfl, rfl, rfl, rfl, rfl, leC_refl _, leC_refl _, leC_refl _, rfl, leC_refl _⟩
  simp (maxSteps:=2000000) (disch:=omega) only [go_sem,Nat.reduceAdd,Nat.reduceSub,Nat.reduceMul,Nat.reduceBEq,Nat.reduceEqDiff,Nat.reduceLT,Nat.reduceLeDiff,Nat.reduceDiv,reduceIte,reduceCtorEq, so]
  have so' : sx.over = false := by cases hh : sx.over <;> simp_all
  refine c_dec (fun g => ?_) (fun g => ?_)
  · have hlt : ps.length < min a.length b.length := by omega
    have hpa : ps.length < a.length := by omega
    have hpb : ps.length < b.length := by omega
    obtain ⟨m, hm⟩ : ∃ m, min a.length b.length - ps.length = m + 1 := ⟨min a.length b.length - ps.length - 1, by omega⟩
    rw [hm] at hp3
    unfold cuP at hp3
    rw [if_pos ⟨so', hlt⟩] at hp3
    refine zc ?_;try exact trivial
    refine a_drawC (⟨[V.cell (.ptr (.arg 0) 0), .undef, .undef, V.cell (.ptr (.loc [3]) 0), V.int .i64 1, V.int .i64 (ps.length : Int), V.cell (.ptr (.loc [6]) 0), U, U, U, U, U, U, U, U, U, U, U, U, U, U, U, U, U, U, U, U, U, U, U, U, U, U, U, U, U, U, U, U, U, U, U, U, U, U, U, U, U, U, U, U, U, U, U, U, U, U, U, U, U, U, U, U, U, U, U, U, U, U, U, U, U, U, U, U, U, U, U, U, U, U, U, U, U, U, U, U, U, U, U, U, U, U, U, U, U, U, U, U, U, U, U, U, U, U, U, U, U, U, U, .undef], [(.loc [6], [.val (.int .u16 (U16 (a.getD ps.length 0))), .val (.int .u16 (U16 (b.getD ps.length 0)))]), (.loc [3], evC e), (.arg 0, ctC (.lst .no none 2 (ins code)) cap fuel p0 p1 seed l0 l1 (a.length : Int) (b.length : Int) over winner why opn (.lst (.tag (.cell (.arg 0) 14)) none 1 (ls fU (a))) (.lst (.tag (.cell (.arg 0) 15)) none 1 (ls fU (b))) (.lst (.tag (.cell (.arg 0) 16)) none 2 (prs (ps))) (sx) (.lst (.tag (.cell (.arg 0) 37)) none 6 (evs events)))]⟩) (.take 0 (.take 1 (.take 2 (.take 3 (.take 5 (.take 8 (.take 9 (.take 10 (.take 11 (.take 13 (.both [(4, .take 6 (.both [(7, .both [(12, .take 14 (.both [(15, .both [(16, .both [(17, .both [(18, .done)])]), (17, .both [(16, .both [(18, .done)])])]), (17, .both [(15, .both [(16, .both [(18, .done)])])])])), (17, .both [(12, .take 14 (.both [(15, .both [(16, .both [(18, .done)])])]))])]), (12, .take 14 (.both [(7, .both [(15, .both [(16, .both [(17, .both [(18, .done)])]), (17, .both [(16, .both [(18, .done)])])]), (17, .both [(15, .both [(16, .both [(18, .done)])])])]), (15, .both [(7, .both [(16, .both [(17, .both [(18, .done)])]), (17, .both [(16, .both [(18, .done)])])]), (17, .both [(7, .both [(16, .both [(18, .done)])])])]), (17, .both [(7, .both [(15, .both [(16, .both [(18, .done)])])]), (15, .both [(7, .both [(16, .both [(18, .done)])])])])])), (17, .both [(7, .both [(12, .take 14 (.both [(15, .both [(16, .both [(18, .done)])])]))]), (12, .take 14 (.both [(7, .both [(15, .both [(16, .both [(18, .done)])])]), (15, .both [(7, .both [(16, .both [(18, .done)])])])]))])])), (12, .take 14 (.both [(4, .take 6 (.both [(7, .both [(15, .both [(16, .both [(17, .both [(18, .done)])]), (17, .both [(16, .both [(18, .done)])])]), (17, .both [(15, .both [(16, .both [(18, .done)])])])]), (15, .both [(7, .both [(16, .both [(17, .both [(18, .done)])]), (17, .both [(16, .both [(18, .done)])])]), (17, .both [(7, .both [(16, .both [(18, .done)])])])]), (17, .both [(7, .both [(15, .both [(16, .both [(18, .done)])])]), (15, .both [(7, .both [(16, .both [(18, .done)])])])])])), (15, .both [(4, .take 6 (.both [(7, .both [(16, .both [(17, .both [(18, .done)])]), (17, .both [(16, .both [(18, .done)])])]), (17, .both [(7, .both [(16, .both [(18, .done)])])])])), (17, .both [(4, .take 6 (.both [(7, .both [(16, .both [(18, .done)])])]))])]), (17, .both [(4, .take 6 (.both [(7, .both [(15, .both [(16, .both [(18, .done)])])]), (15, .both [(7, .both [(16, .both [(18, .done)])])])])), (15, .both [(4, .take 6 (.both [(7, .both [(16, .both [(18, .done)])])]))])])])), (17, .both [(4, .take 6 (.both [(7, .both [(12, .take 14 (.both [(15, .both [(16, .both [(18, .done)])])]))]), (12, .take 14 (.both [(7, .both [(15, .both [(16, .both [(18, .done)])])]), (15, .both [(7, .both [(16, .both [(18, .done)])])])]))])), (12, .take 14 (.both [(4, .take 6 (.both [(7, .both [(15, .both [(16, .both [(18, .done)])])]), (15, .both [(7, .both [(16, .both [(18, .done)])])])])), (15, .both [(4, .take 6 (.both [(7, .both [(16, .both [(18, .done)])])]))])]))])]))))))))))) (by kernel_rfl) (by kernel_rfl) ?_ ?_
    · refine zc ?_;try exact trivial
    refine zc ?_;try exact trivial
    refine a_drawC (⟨[V.cell (.ptr (.arg 0) 0), .undef, .undef, V.cell (.ptr (.loc [3]) 0), V.int .i64 1, V.int .i64 (ps.length : Int), V.cell (.ptr (.loc [6]) 0), U, U, U, U, U, U, U, U, U, U, U, U, U, U, U, U, U, U, U, U, U, U, U, U, U, U, U, U, U, U, U, U, U, U, U, U, U, U, U, U, U, U, U, U, U, U, U, U, U, U, U, U, U, U, U, U, U, U, U, U, U, U, U, U, U, U, U, U, U, U, U, U, U, U, U, U, U, U, U, U, U, U, U, U, U, U, U, U, U, U, U, U, U, U, U, U, U, U, U, U, U, U, U, .undef], [(.loc [6], [.val (.int .u16 (U16 (a.getD ps.length 0))), .val (.int .u16 (U16 (b.getD ps.length 0)))]), (.loc [3], evC e), (.arg 0, ctC (.lst .no none 2 (ins code)) cap fuel p0 p1 seed l0 l1 (a.length : Int) (b.length : Int) over winner why opn (.lst (.tag (.cell (.arg 0) 14)) none 1 (ls fU (a))) (.lst (.tag (.cell (.arg 0) 15)) none 1 (ls fU (b))) (.lst (.tag (.cell (.arg 0) 16)) none 2 (prs (ps ++ [(a.getD ps.length 0, b.getD ps.length 0)]))) (sx) (.lst (.tag (.cell (.arg 0) 37)) none 6 (evs events)))]⟩) (.take 0 (.take 1 (.take 2 (.take 3 (.both [(4, .both [(5, .both [(6, .both [(7, .take 8 (.take 9 (.both [(10, .done)])))])])]), (5, .both [(4, .both [(6, .both [(7, .take 8 (.take 9 (.both [(10, .done)])))])]), (6, .both [(4, .both [(7, .take 8 (.take 9 (.both [(10, .done)])))])])])]))))) (by kernel_rfl) (by kernel_rfl) ?_ ?_
    · refine zc ?_;try exact trivial
      all_goals omega
    refine zc ?_;try exact trivial
    refine a_drawC (⟨[V.cell (.ptr (.arg 0) 0), .undef, .undef, V.cell (.ptr (.loc [3]) 0), V.int .i64 1, V.int .i64 (ps.length : Int), V.cell (.ptr (.loc [6]) 0), U, U, U, U, U, U, U, U, U, U, U, U, U, U, U, U, U, U, U, U, U, U, U, U, U, U, U, U, U, U, U, U, U, U, U, U, U, U, U, U, U, U, U, U, U, U, U, U, U, U, U, U, U, U, U, U, U, U, U, U, U, U, U, U, U, U, U, U, U, U, U, U, U, U, U, U, U, U, U, U, U, U, U, U, U, U, U, U, U, U, U, U, U, U, U, U, U, U, U, U, U, U, U, .undef], [(.loc [6], [.val (.int .u16 (U16 (a.getD ps.length 0))), .val (.int .u16 (U16 (b.getD ps.length 0)))]), (.loc [3], evC e), (.arg 0, ctC (.lst .no none 2 (ins code)) cap fuel p0 p1 seed l0 l1 (a.length : Int) (b.length : Int) over winner why opn (.lst (.tag (.cell (.arg 0) 14)) none 1 (ls fU (a))) (.lst (.tag (.cell (.arg 0) 15)) none 1 (ls fU (b))) (.lst (.tag (.cell (.arg 0) 16)) none 2 (prs (ps ++ [(a.getD ps.length 0, b.getD ps.length 0)]))) ((stepP code cap fuel sx (a.getD ps.length 0) (b.getD ps.length 0)).1) (.lst (.tag (.cell (.arg 0) 37)) none 6 (evs events)))]⟩) (.take 0 (.take 1 (.take 2 (.take 3 (.take 5 (.take 6 (.take 7 (.both [(4, .both [(8, .both [(9, .both [(10, .take 11 (.take 12 (.take 13 (.take 14 (.take 15 (.both [(16, .done)]))))))])]), (9, .both [(8, .both [(10, .take 11 (.take 12 (.take 13 (.take 14 (.take 15 (.both [(16, .done)]))))))])])]), (8, .both [(4, .both [(9, .both [(10, .take 11 (.take 12 (.take 13 (.take 14 (.take 15 (.both [(16, .done)]))))))])]), (9, .both [(4, .both [(10, .take 11 (.take 12 (.take 13 (.take 14 (.take 15 (.both [(16, .done)]))))))])])]), (9, .both [(4, .both [(8, .both [(10, .take 11 (.take 12 (.take 13 (.take 14 (.take 15 (.both [(16, .done)]))))))])]), (8, .both [(4, .both [(10, .take 11 (.take 12 (.take 13 (.take 14 (.take 15 (.both [(16, .done)]))))))])])])])))))))) (by kernel_rfl) (by kernel_rfl) ?_ ?_
    · refine zc ?_;try exact trivial
      have hst := step_h code cap fuel sx (a.getD ps.length 0) (b.getD ps.length 0) (by omega) hp2
      refine a_call [] hst ok0 ?_ ?_ ?_
      · refine zs ?_;try exact trivial
      · refine zs ?_;try exact trivial
      rintro _ _ ⟨rfl, rfl⟩
      refine zc ?_;try exact trivial
      all_goals exact leCs_refl _
    refine zc ?_;try exact trivial
    refine ⟨(ps ++ [(a.getD ps.length 0, b.getD ps.length 0)], (stepP code cap fuel sx (a.getD ps.length 0) (b.getD ps.length 0)).1), ?_, ⟨?_, ?_, ?_⟩, ?_⟩
    · simp; omega
    · simp; omega
    · exact step_B32 _ _ _ _ _ _ hp2
    · simp only [List.length_append, List.length_cons, List.length_nil]
      rw [show min a.length b.length - (ps.length + (0 + 1)) = m by omega]
      exact hp3
    try (refine zs ?_; try exact trivial)
  have e0 : cuP code cap fuel a b (min a.length b.length - ps.length) ps sx = (ps, sx) := by
    rw [show min a.length b.length - ps.length = 0 by omega]; rfl
  rw [e0] at hp3
  cases hp3
  refine zs ?_;try exact trivial
  all_goals exact ct_le ⟨leC_refl _, rfl, rfl, rfl, rfl, rfl, rfl, rfl, rfl, rfl, rfl, rfl, rfl, rfl, leC_refl _, leC_refl _, leC_refl _, rfl, leC_refl _⟩
end
section
def openP (c : Ct) (e : Ev) : Ct := { c with opn := true, p0 := e.player, p1 := e.other, seed := UInt32.ofNat e.n.toNat, st := startS (UInt32.ofNat e.n.toNat) }
attribute [-go_sem] e_both in
set_option maxHeartbeats 16000000 in
theorem open_h (c : Ct) (e : Ev) (hn : 0 ≤ e.n ∧ e.n ≤ 4294967295) : Holds Try.prog 31 [.ptr (.arg 0) 0, .ev e] [(.arg 0, ctB (.arg 0) c)] (fun r h' => r = .tup [] ∧ h' = [(.arg 0, ctB (.arg 0) (openP c e))]) := by
  have hU : ∀ z : Int, 0 ≤ z ∧ z ≤ 4294967295 → U32 (UInt32.ofNat z.toNat) = z := fun z hz => by unfold U32; rw [UInt32.toNat_ofNat']; omega
  have e0 := hU e.n hn
  refine holds_of_awp Try.func31 rfl (by decide +kernel) mixed Try.ntmps31 Try.results31 ?_
  refine zE ?_
  refine zs ?_;try exact trivial
  refine a_drawC (⟨[V.cell (.ptr (.arg 0) 0), U, U, U, U, U, U, U, U, U, U, U, U, U, U, U, U, U, U, U, U, U, U, U, U, U, U, U, U, U, U, U, .undef], [(.arg 0, ctB (.arg 0) { c with opn := true, p0 := e.player, p1 := e.other, seed := UInt32.ofNat e.n.toNat })]⟩) (.take 0 (.take 1 (.take 2 (.take 3 (.take 5 (.take 8 (.take 11 (.take 12 (.take 13 (.both [(4, .both [(6, .both [(7, .both [(9, .take 10 (.both [(14, .take 15 (.take 16 (.take 17 (.both [(18, .take 19 (.take 20 (.take 21 (.both [(22, .done)]))))]))))])), (14, .take 15 (.take 16 (.take 17 (.both [(9, .take 10 (.both [(18, .take 19 (.take 20 (.take 21 (.both [(22, .done)]))))])), (18, .both [(9, .take 10 (.take 19 (.take 20 (.take 21 (.both [(22, .done)])))))])]))))]), (9, .take 10 (.both [(7, .both [(14, .take 15 (.take 16 (.take 17 (.both [(18, .take 19 (.take 20 (.take 21 (.both [(22, .done)]))))]))))]), (14, .both [(7, .take 15 (.take 16 (.take 17 (.both [(18, .take 19 (.take 20 (.take 21 (.both [(22, .done)]))))]))))])])), (14, .both [(7, .take 15 (.take 16 (.take 17 (.both [(9, .take 10 (.both [(18, .take 19 (.take 20 (.take 21 (.both [(22, .done)]))))])), (18, .both [(9, .take 10 (.take 19 (.take 20 (.take 21 (.both [(22, .done)])))))])])))), (9, .take 10 (.both [(7, .take 15 (.take 16 (.take 17 (.both [(18, .take 19 (.take 20 (.take 21 (.both [(22, .done)]))))]))))]))])]), (9, .take 10 (.both [(6, .both [(7, .both [(14, .take 15 (.take 16 (.take 17 (.both [(18, .take 19 (.take 20 (.take 21 (.both [(22, .done)]))))]))))]), (14, .both [(7, .take 15 (.take 16 (.take 17 (.both [(18, .take 19 (.take 20 (.take 21 (.both [(22, .done)]))))]))))])]), (14, .both [(6, .both [(7, .take 15 (.take 16 (.take 17 (.both [(18, .take 19 (.take 20 (.take 21 (.both [(22, .done)]))))]))))])])])), (14, .both [(6, .both [(7, .take 15 (.take 16 (.take 17 (.both [(9, .take 10 (.both [(18, .take 19 (.take 20 (.take 21 (.both [(22, .done)]))))])), (18, .both [(9, .take 10 (.take 19 (.take 20 (.take 21 (.both [(22, .done)])))))])])))), (9, .take 10 (.both [(7, .take 15 (.take 16 (.take 17 (.both [(18, .take 19 (.take 20 (.take 21 (.both [(22, .done)]))))]))))]))]), (9, .take 10 (.both [(6, .both [(7, .take 15 (.take 16 (.take 17 (.both [(18, .take 19 (.take 20 (.take 21 (.both [(22, .done)]))))]))))])]))])]), (6, .both [(4, .both [(7, .both [(9, .take 10 (.both [(14, .take 15 (.take 16 (.take 17 (.both [(18, .take 19 (.take 20 (.take 21 (.both [(22, .done)]))))]))))])), (14, .take 15 (.take 16 (.take 17 (.both [(9, .take 10 (.both [(18, .take 19 (.take 20 (.take 21 (.both [(22, .done)]))))])), (18, .both [(9, .take 10 (.take 19 (.take 20 (.take 21 (.both [(22, .done)])))))])]))))]), (9, .take 10 (.both [(7, .both [(14, .take 15 (.take 16 (.take 17 (.both [(18, .take 19 (.take 20 (.take 21 (.both [(22, .done)]))))]))))]), (14, .both [(7, .take 15 (.take 16 (.take 17 (.both [(18, .take 19 (.take 20 (.take 21 (.both [(22, .done)]))))]))))])])), (14, .both [(7, .take 15 (.take 16 (.take 17 (.both [(9, .take 10 (.both [(18, .take 19 (.take 20 (.take 21 (.both [(22, .done)]))))])), (18, .both [(9, .take 10 (.take 19 (.take 20 (.take 21 (.both [(22, .done)])))))])])))), (9, .take 10 (.both [(7, .take 15 (.take 16 (.take 17 (.both [(18, .take 19 (.take 20 (.take 21 (.both [(22, .done)]))))]))))]))])]), (9, .take 10 (.both [(4, .both [(7, .both [(14, .take 15 (.take 16 (.take 17 (.both [(18, .take 19 (.take 20 (.take 21 (.both [(22, .done)]))))]))))]), (14, .both [(7, .take 15 (.take 16 (.take 17 (.both [(18, .take 19 (.take 20 (.take 21 (.both [(22, .done)]))))]))))])]), (14, .both [(4, .both [(7, .take 15 (.take 16 (.take 17 (.both [(18, .take 19 (.take 20 (.take 21 (.both [(22, .done)]))))]))))])])])), (14, .both [(4, .both [(7, .take 15 (.take 16 (.take 17 (.both [(9, .take 10 (.both [(18, .take 19 (.take 20 (.take 21 (.both [(22, .done)]))))])), (18, .both [(9, .take 10 (.take 19 (.take 20 (.take 21 (.both [(22, .done)])))))])])))), (9, .take 10 (.both [(7, .take 15 (.take 16 (.take 17 (.both [(18, .take 19 (.take 20 (.take 21 (.both [(22, .done)]))))]))))]))]), (9, .take 10 (.both [(4, .both [(7, .take 15 (.take 16 (.take 17 (.both [(18, .take 19 (.take 20 (.take 21 (.both [(22, .done)]))))]))))])]))])]), (9, .take 10 (.both [(4, .both [(6, .both [(7, .both [(14, .take 15 (.take 16 (.take 17 (.both [(18, .take 19 (.take 20 (.take 21 (.both [(22, .done)]))))]))))]), (14, .both [(7, .take 15 (.take 16 (.take 17 (.both [(18, .take 19 (.take 20 (.take 21 (.both [(22, .done)]))))]))))])]), (14, .both [(6, .both [(7, .take 15 (.take 16 (.take 17 (.both [(18, .take 19 (.take 20 (.take 21 (.both [(22, .done)]))))]))))])])]), (6, .both [(4, .both [(7, .both [(14, .take 15 (.take 16 (.take 17 (.both [(18, .take 19 (.take 20 (.take 21 (.both [(22, .done)]))))]))))]), (14, .both [(7, .take 15 (.take 16 (.take 17 (.both [(18, .take 19 (.take 20 (.take 21 (.both [(22, .done)]))))]))))])]), (14, .both [(4, .both [(7, .take 15 (.take 16 (.take 17 (.both [(18, .take 19 (.take 20 (.take 21 (.both [(22, .done)]))))]))))])])]), (14, .both [(4, .both [(6, .both [(7, .take 15 (.take 16 (.take 17 (.both [(18, .take 19 (.take 20 (.take 21 (.both [(22, .done)]))))]))))])]), (6, .both [(4, .both [(7, .take 15 (.take 16 (.take 17 (.both [(18, .take 19 (.take 20 (.take 21 (.both [(22, .done)]))))]))))])])])])), (14, .both [(4, .both [(6, .both [(7, .take 15 (.take 16 (.take 17 (.both [(9, .take 10 (.both [(18, .take 19 (.take 20 (.take 21 (.both [(22, .done)]))))])), (18, .both [(9, .take 10 (.take 19 (.take 20 (.take 21 (.both [(22, .done)])))))])])))), (9, .take 10 (.both [(7, .take 15 (.take 16 (.take 17 (.both [(18, .take 19 (.take 20 (.take 21 (.both [(22, .done)]))))]))))]))]), (9, .take 10 (.both [(6, .both [(7, .take 15 (.take 16 (.take 17 (.both [(18, .take 19 (.take 20 (.take 21 (.both [(22, .done)]))))]))))])]))]), (6, .both [(4, .both [(7, .take 15 (.take 16 (.take 17 (.both [(9, .take 10 (.both [(18, .take 19 (.take 20 (.take 21 (.both [(22, .done)]))))])), (18, .both [(9, .take 10 (.take 19 (.take 20 (.take 21 (.both [(22, .done)])))))])])))), (9, .take 10 (.both [(7, .take 15 (.take 16 (.take 17 (.both [(18, .take 19 (.take 20 (.take 21 (.both [(22, .done)]))))]))))]))]), (9, .take 10 (.both [(4, .both [(7, .take 15 (.take 16 (.take 17 (.both [(18, .take 19 (.take 20 (.take 21 (.both [(22, .done)]))))]))))])]))]), (9, .take 10 (.both [(4, .both [(6, .both [(7, .take 15 (.take 16 (.take 17 (.both [(18, .take 19 (.take 20 (.take 21 (.both [(22, .done)]))))]))))])]), (6, .both [(4, .both [(7, .take 15 (.take 16 (.take 17 (.both [(18, .take 19 (.take 20 (.take 21 (.both [(22, .done)]))))]))))])])]))])])))))))))) (by kernel_rfl) (by kernel_rfl) ?_ ?_
  · refine zs ?_;try exact trivial
    iterate 9
      all_goals first
        | done
        | (simp only [e_both]
           refine zs ?_;try exact trivial
           repeat' (with_reducible apply And.intro))
        | skip
  refine zc ?_;try exact trivial
  refine a_call [] (start_h (UInt32.ofNat e.n.toNat)) ok0 ?_ ?_ ?_
  · refine zs ?_;try exact trivial
  · refine zs ?_;try exact trivial
  rintro _ _ ⟨rfl, rfl⟩
  refine zc ?_;try exact trivial
  exact ct_le ⟨leC_refl _, rfl, rfl, rfl, rfl, rfl, rfl, rfl, rfl, rfl, rfl, rfl, rfl, rfl, leC_refl _, leC_refl _, leC_refl _, rfl, leC_refl _⟩
end
section
theorem val_inj : ∀ {us vs : List Value}, us.map C.val = vs.map C.val → us = vs
  | [], [], _ => rfl
  | [], _ :: _, h => by simp at h
  | _ :: _, [], h => by simp at h
  | u :: us, v :: vs, h => by
    simp only [List.map_cons, List.cons.injEq, C.val.injEq] at h
    rw [h.1, val_inj h.2]
theorem All2.app {α β : Type} {R : α → β → Prop} {a c : List α} {b d : List β} (h1 : All2 R a b) (h2 : All2 R c d) : All2 R (a ++ c) (b ++ d) := by
  induction h1 with
  | nil => exact h2
  | cons h _ ih => exact .cons h ih
@[congr] theorem cg_aEqA2 {q q' : Option (List (Option IntKind))} {cs ds cs' ds' : List C} {J : Bool → Prop} (h0 : q = q') (h1 : cs = cs') (h2 : ds = ds') : aEqA q cs ds J = aEqA q' cs' ds' J := by subst h0; subst h1; subst h2; rfl
@[go_sem 1100] theorem e_eqEv {x0 y0 : Int} {x1 y1 : Int} {x2 y2 : Int} {x3 y3 : Int} {x4 y4 : Int} {x5 y5 : Int} {K : Bool → Prop} : aEqA (some [some .i64, some .i64, some .i64, some .i64, some .u16, some .i64]) [.val (.int .i64 x0), .val (.int .i64 x1), .val (.int .i64 x2), .val (.int .i64 x3), .val (.int .u16 x4), .val (.int .i64 x5)] [.val (.int .i64 y0), .val (.int .i64 y1), .val (.int .i64 y2), .val (.int .i64 y3), .val (.int .u16 y4), .val (.int .i64 y5)] K = K (decide (x0 = y0 ∧ x1 = y1 ∧ x2 = y2 ∧ x3 = y3 ∧ x4 = y4 ∧ x5 = y5)) := by
  have key : ([.int .i64 x0, .int .i64 x1, .int .i64 x2, .int .i64 x3, .int .u16 x4, .int .i64 x5] : List Value) = [.int .i64 y0, .int .i64 y1, .int .i64 y2, .int .i64 y3, .int .u16 y4, .int .i64 y5] ↔ (x0 = y0 ∧ x1 = y1 ∧ x2 = y2 ∧ x3 = y3 ∧ x4 = y4 ∧ x5 = y5) := by simp
  refine propext ⟨?_, fun h => ?_⟩
  · rintro ⟨ks, us, vs, hq, hu, hv, _, _, h⟩
    refine h _ ?_
    have hu' : us = [.int .i64 x0, .int .i64 x1, .int .i64 x2, .int .i64 x3, .int .u16 x4, .int .i64 x5] := val_inj (us := us) (vs := [.int .i64 x0, .int .i64 x1, .int .i64 x2, .int .i64 x3, .int .u16 x4, .int .i64 x5]) hu.symm
    have hv' : vs = [.int .i64 y0, .int .i64 y1, .int .i64 y2, .int .i64 y3, .int .u16 y4, .int .i64 y5] := val_inj (us := vs) (vs := [.int .i64 y0, .int .i64 y1, .int .i64 y2, .int .i64 y3, .int .u16 y4, .int .i64 y5]) hv.symm
    rw [hu', hv', decide_eq_true_eq, key]
  refine ⟨_, [.int .i64 x0, .int .i64 x1, .int .i64 x2, .int .i64 x3, .int .u16 x4, .int .i64 x5], [.int .i64 y0, .int .i64 y1, .int .i64 y2, .int .i64 y3, .int .u16 y4, .int .i64 y5], rfl, rfl, rfl, (.cons ⟨_, rfl⟩ (.cons ⟨_, rfl⟩ (.cons ⟨_, rfl⟩ (.cons ⟨_, rfl⟩ (.cons ⟨_, rfl⟩ (.cons ⟨_, rfl⟩ .nil)))))), (.cons ⟨_, rfl⟩ (.cons ⟨_, rfl⟩ (.cons ⟨_, rfl⟩ (.cons ⟨_, rfl⟩ (.cons ⟨_, rfl⟩ (.cons ⟨_, rfl⟩ .nil)))))), fun b hb => ?_⟩
  rw [key] at hb
  have : b = decide (x0 = y0 ∧ x1 = y1 ∧ x2 = y2 ∧ x3 = y3 ∧ x4 = y4 ∧ x5 = y5) := by rw [Bool.eq_iff_iff, hb, decide_eq_true_eq]
  rw [this]; exact h
end
section
def howsC : List C := [.val .nilFunc, .val .nilFunc, .val .nilFunc,
  .fn (.func 30) [] [], .fn (.func 31) [] [], .fn (.func 32) [] [],
  .fn (.func 33) [] [], .fn (.func 34) [] [], .fn (.func 35) [] [],
  .fn (.func 36) [] [], .fn (.func 37) [] [], .fn (.func 38) [] [],
  .fn (.func 39) [] [], .fn (.func 40) [] [], .fn (.func 41) [] [],
  .fn (.func 42) [] [], .fn (.func 43) [] [], .fn (.func 44) [] []]
@[go_sem] theorem u16_0 : U16 0 = 0 := nr rfl
theorem not_t {b : Bool} (d : (!b) = true) : ¬ b = true := by cases b <;> simp_all
theorem not_f {b : Bool} (d : (!b) = false) : b = true := by cases b <;> simp_all
@[go_sem] theorem hw_k {bi : Id → Bool} {bt : Tag → Bool} : howsC.map (C.clean bi bt) = howsC := nr rfl
@[go_sem] theorem hw_r {ks : List Id} {d : Nat} : howsC.map (C.ren ks d) = howsC := nr rfl
@[go_sem] theorem hw_l : howsC.length = 18 := nr rfl
@[go_sem 1300] theorem hw_1 : List.take 3 (List.drop 3 howsC) = [.fn (.func 30) [] [], .fn (.func 31) [] [], .fn (.func 32) [] []] := nr rfl
@[go_sem 1300] theorem hw_2 : List.take 3 (List.drop 6 howsC) = [.fn (.func 33) [] [], .fn (.func 34) [] [], .fn (.func 35) [] []] := nr rfl
@[go_sem 1300] theorem hw_3 : List.take 3 (List.drop 9 howsC) = [.fn (.func 36) [] [], .fn (.func 37) [] [], .fn (.func 38) [] []] := nr rfl
@[go_sem 1300] theorem hw_4 : List.take 3 (List.drop 12 howsC) = [.fn (.func 39) [] [], .fn (.func 40) [] [], .fn (.func 41) [] []] := nr rfl
@[go_sem 1300] theorem hw_5 : List.take 3 (List.drop 15 howsC) = [.fn (.func 42) [] [], .fn (.func 43) [] [], .fn (.func 44) [] []] := nr rfl
theorem hows_h : Holds Try.prog 22 [] [] (fun r h' => r = .w (.agg howsC) ∧ h' = []) := by
  refine holds_of_awp Try.func22 rfl (by decide +kernel) mixed Try.ntmps22 Try.results22 ?_
  refine zE ?_
  unfold howsC
  refine zs ?_;try exact trivial
  exact leCs_refl _
/-- has an event nothing but what its kind names? -/
def bareB (e : Ev) : Bool :=
  if e.kind = 1 then decide (e.frame = 0 ∧ U16 e.inp = 0)
  else if e.kind = 3 then decide (e.other = 0 ∧ e.n = 0)
  else if e.kind = 5 then decide (e.other = 0 ∧ e.frame = 0 ∧ U16 e.inp = 0)
  else decide (e.other = 0 ∧ e.frame = 0 ∧ U16 e.inp = 0 ∧ e.n = 0)
def may1P (c : Ct) (e : Ev) : Int :=
  if e.kind = 1 then mayOpenP c e else if e.kind = 2 then mayJoinP c e else if e.kind = 3 then mayInputP c e else if e.kind = 4 then actP c e.player else mayResultP c e
def mayP18 (c : Ct) (e : Ev) : Int := if e.kind < 1 ∨ 6 ≤ e.kind then 3 else if bareB e = true then may1P c e else 3
abbrev fnR1 : List C := [.fn (.func 30) [] [], .fn (.func 31) [] [], .fn (.func 32) [] []]
abbrev fnR2 : List C := [.fn (.func 33) [] [], .fn (.func 34) [] [], .fn (.func 35) [] []]
abbrev fnR3 : List C := [.fn (.func 36) [] [], .fn (.func 37) [] [], .fn (.func 38) [] []]
abbrev fnR4 : List C := [.fn (.func 39) [] [], .fn (.func 40) [] [], .fn (.func 41) [] []]
abbrev fnR5 : List C := [.fn (.func 42) [] [], .fn (.func 43) [] [], .fn (.func 44) [] []]
set_option maxHeartbeats 4000000 in
theorem may1_h (c : Ct) (player other frame n : Int) (inp : UInt16) : Holds Try.prog 21 [.ptr (.arg 0) 0, .ev ⟨1, player, other, frame, inp, n⟩] [(.arg 0, ctB (.arg 0) c)] (fun r h' => r = .int .i64 (mayP18 c ⟨1, player, other, frame, inp, n⟩) ∧ h' = [(.arg 0, ctB (.arg 0) c)]) := by
  have eb : bareB ⟨1, player, other, frame, inp, n⟩ = decide (frame = 0 ∧ U16 inp = 0) := rfl
  have em : mayP18 c ⟨1, player, other, frame, inp, n⟩ = if decide (frame = 0 ∧ U16 inp = 0) = true then mayOpenP c ⟨1, player, other, frame, inp, n⟩ else 3 := by
    unfold mayP18
    rw [if_neg (by simp only; omega), eb]
    rfl
  rw [em]
  refine holds_of_awp Try.func21 rfl (by decide +kernel) mixed Try.ntmps21 Try.results21 ?_
  refine zE ?_
  refine zc ?_;try exact trivial
  refine a_drawC (⟨[V.cell (.ptr (.arg 0) 0), .undef, .undef, V.cell (.ptr (.loc [3]) 0), .undef, V.cell (.ptr (.loc [5]) 0), U, U, U, U, U, U, U, U, U, U, U, U, U, U, U, U, U, U, U, U, U, U, U, U, U, U, .undef], [(.loc [5], fnR1), (.loc [3], evC ⟨1, player, other, frame, inp, n⟩), (.arg 0, ctB (.arg 0) c)]⟩) (.take 1 (.both [(0, .both [(2, .take 3 (.both [(4, .both [(5, .done)])])), (4, .both [(2, .take 3 (.both [(5, .done)]))])]), (2, .both [(0, .take 3 (.both [(4, .both [(5, .done)])])), (4, .both [(0, .take 3 (.both [(5, .done)]))])]), (4, .both [(0, .both [(2, .take 3 (.both [(5, .done)]))]), (2, .both [(0, .take 3 (.both [(5, .done)]))])])])) (by kernel_rfl) (by kernel_rfl) ?_ ?_
  · refine zc ?_;try exact trivial
    repeat' (with_reducible apply And.intro)
    all_goals (
      refine a_call [] (hows_h) ok0 ?_ ?_ ?_
      · refine zs ?_;try exact trivial
      · refine zs ?_;try exact trivial
      rintro _ _ ⟨rfl, rfl⟩
      (refine zc ?_; try exact trivial))
  refine zc ?_;try exact trivial
  refine a_drawC (⟨[V.cell (.ptr (.arg 0) 0), .undef, .undef, V.cell (.ptr (.loc [3]) 0), .undef, V.cell (.ptr (.loc [5]) 0), U, U, U, U, U, U, U, U, U, U, U, U, U, U, U, U, U, U, U, U, U, V.bool (!decide (frame = 0 ∧ U16 inp = 0)), U, U, U, U, .undef], [(.loc [5], fnR1), (.loc [3], evC ⟨1, player, other, frame, inp, n⟩), (.arg 0, ctB (.arg 0) c)]⟩) (.take 0 (.take 4 (.both [(1, .both [(2, .both [(3, .both [(5, .both [(6, .take 7 (.done))])]), (5, .both [(3, .both [(6, .take 7 (.done))]), (6, .both [(3, .take 7 (.done))])])]), (5, .both [(2, .both [(3, .both [(6, .take 7 (.done))]), (6, .both [(3, .take 7 (.done))])]), (6, .both [(2, .both [(3, .take 7 (.done))])])])]), (2, .both [(1, .both [(3, .both [(5, .both [(6, .take 7 (.done))])]), (5, .both [(3, .both [(6, .take 7 (.done))]), (6, .both [(3, .take 7 (.done))])])]), (5, .both [(1, .both [(3, .both [(6, .take 7 (.done))]), (6, .both [(3, .take 7 (.done))])]), (6, .both [(1, .both [(3, .take 7 (.done))])])])]), (5, .both [(1, .both [(2, .both [(3, .both [(6, .take 7 (.done))]), (6, .both [(3, .take 7 (.done))])]), (6, .both [(2, .both [(3, .take 7 (.done))])])]), (2, .both [(1, .both [(3, .both [(6, .take 7 (.done))]), (6, .both [(3, .take 7 (.done))])]), (6, .both [(1, .both [(3, .take 7 (.done))])])]), (6, .both [(1, .both [(2, .both [(3, .take 7 (.done))])]), (2, .both [(1, .both [(3, .take 7 (.done))])])])])]))) (by kernel_rfl) (by kernel_rfl) ?_ ?_
  · refine zc ?_;try exact trivial
    repeat' (with_reducible apply And.intro)
    all_goals (
      refine a_call [] (bare1_h ⟨1, player, other, frame, inp, n⟩) ok0 ?_ ?_ ?_
      · refine zs ?_;try exact trivial
      · refine zs ?_;try exact trivial
      rintro _ _ ⟨rfl, rfl⟩
      (refine zc ?_; try exact trivial))
  refine zs ?_;try exact trivial
  refine c_b (fun d => ?_) (fun d => ?_)
  · have d' : ¬ decide (frame = 0 ∧ U16 inp = 0) = true := not_t d
    rw [if_neg d']
    refine zs ?_;try exact trivial
  have d' : decide (frame = 0 ∧ U16 inp = 0) = true := not_f d
  rw [if_pos d']
  refine zs ?_;try exact trivial
  refine a_call [.arg 0] (mayOpen_h c ⟨1, player, other, frame, inp, n⟩) (ok1 rfl) ?_ ?_ ?_
  · refine zs ?_;try exact trivial
  · refine zs ?_;try exact trivial
  rintro _ _ ⟨rfl, rfl⟩
  refine zs ?_;try exact trivial
set_option maxHeartbeats 4000000 in
theorem may2_h (c : Ct) (player other frame n : Int) (inp : UInt16) : Holds Try.prog 21 [.ptr (.arg 0) 0, .ev ⟨2, player, other, frame, inp, n⟩] [(.arg 0, ctB (.arg 0) c)] (fun r h' => r = .int .i64 (mayP18 c ⟨2, player, other, frame, inp, n⟩) ∧ h' = [(.arg 0, ctB (.arg 0) c)]) := by
  have eb : bareB ⟨2, player, other, frame, inp, n⟩ = decide (other = 0 ∧ frame = 0 ∧ U16 inp = 0 ∧ n = 0) := rfl
  have em : mayP18 c ⟨2, player, other, frame, inp, n⟩ = if decide (other = 0 ∧ frame = 0 ∧ U16 inp = 0 ∧ n = 0) = true then mayJoinP c ⟨2, player, other, frame, inp, n⟩ else 3 := by
    unfold mayP18
    rw [if_neg (by simp only; omega), eb]
    rfl
  rw [em]
  refine holds_of_awp Try.func21 rfl (by decide +kernel) mixed Try.ntmps21 Try.results21 ?_
  refine zE ?_
  refine zc ?_;try exact trivial
  refine a_drawC (⟨[V.cell (.ptr (.arg 0) 0), .undef, .undef, V.cell (.ptr (.loc [3]) 0), .undef, V.cell (.ptr (.loc [5]) 0), U, U, U, U, U, U, U, U, U, U, U, U, U, U, U, U, U, U, U, U, U, U, U, U, U, U, .undef], [(.loc [5], fnR2), (.loc [3], evC ⟨2, player, other, frame, inp, n⟩), (.arg 0, ctB (.arg 0) c)]⟩) (.take 1 (.both [(0, .both [(2, .take 3 (.both [(4, .both [(5, .done)])])), (4, .both [(2, .take 3 (.both [(5, .done)]))])]), (2, .both [(0, .take 3 (.both [(4, .both [(5, .done)])])), (4, .both [(0, .take 3 (.both [(5, .done)]))])]), (4, .both [(0, .both [(2, .take 3 (.both [(5, .done)]))]), (2, .both [(0, .take 3 (.both [(5, .done)]))])])])) (by kernel_rfl) (by kernel_rfl) ?_ ?_
  · refine zc ?_;try exact trivial
    repeat' (with_reducible apply And.intro)
    all_goals (
      refine a_call [] (hows_h) ok0 ?_ ?_ ?_
      · refine zs ?_;try exact trivial
      · refine zs ?_;try exact trivial
      rintro _ _ ⟨rfl, rfl⟩
      (refine zc ?_; try exact trivial))
  refine zc ?_;try exact trivial
  refine a_drawC (⟨[V.cell (.ptr (.arg 0) 0), .undef, .undef, V.cell (.ptr (.loc [3]) 0), .undef, V.cell (.ptr (.loc [5]) 0), U, U, U, U, U, U, U, U, U, U, U, U, U, U, U, U, U, U, U, U, U, V.bool (!decide (other = 0 ∧ frame = 0 ∧ U16 inp = 0 ∧ n = 0)), U, U, U, U, .undef], [(.loc [5], fnR2), (.loc [3], evC ⟨2, player, other, frame, inp, n⟩), (.arg 0, ctB (.arg 0) c)]⟩) (.take 0 (.take 4 (.both [(1, .both [(2, .both [(3, .both [(5, .both [(6, .take 7 (.done))])]), (5, .both [(3, .both [(6, .take 7 (.done))]), (6, .both [(3, .take 7 (.done))])])]), (5, .both [(2, .both [(3, .both [(6, .take 7 (.done))]), (6, .both [(3, .take 7 (.done))])]), (6, .both [(2, .both [(3, .take 7 (.done))])])])]), (2, .both [(1, .both [(3, .both [(5, .both [(6, .take 7 (.done))])]), (5, .both [(3, .both [(6, .take 7 (.done))]), (6, .both [(3, .take 7 (.done))])])]), (5, .both [(1, .both [(3, .both [(6, .take 7 (.done))]), (6, .both [(3, .take 7 (.done))])]), (6, .both [(1, .both [(3, .take 7 (.done))])])])]), (5, .both [(1, .both [(2, .both [(3, .both [(6, .take 7 (.done))]), (6, .both [(3, .take 7 (.done))])]), (6, .both [(2, .both [(3, .take 7 (.done))])])]), (2, .both [(1, .both [(3, .both [(6, .take 7 (.done))]), (6, .both [(3, .take 7 (.done))])]), (6, .both [(1, .both [(3, .take 7 (.done))])])]), (6, .both [(1, .both [(2, .both [(3, .take 7 (.done))])]), (2, .both [(1, .both [(3, .take 7 (.done))])])])])]))) (by kernel_rfl) (by kernel_rfl) ?_ ?_
  · refine zc ?_;try exact trivial
    repeat' (with_reducible apply And.intro)
    all_goals (
      refine a_call [] (bare2_h ⟨2, player, other, frame, inp, n⟩) ok0 ?_ ?_ ?_
      · refine zs ?_;try exact trivial
      · refine zs ?_;try exact trivial
      rintro _ _ ⟨rfl, rfl⟩
      (refine zc ?_; try exact trivial))
  refine zs ?_;try exact trivial
  refine c_b (fun d => ?_) (fun d => ?_)
  · have d' : ¬ decide (other = 0 ∧ frame = 0 ∧ U16 inp = 0 ∧ n = 0) = true := not_t d
    rw [if_neg d']
    refine zs ?_;try exact trivial
  have d' : decide (other = 0 ∧ frame = 0 ∧ U16 inp = 0 ∧ n = 0) = true := not_f d
  rw [if_pos d']
  refine zs ?_;try exact trivial
  refine a_call [.arg 0] (mayJoin_h c ⟨2, player, other, frame, inp, n⟩) (ok1 rfl) ?_ ?_ ?_
  · refine zs ?_;try exact trivial
  · refine zs ?_;try exact trivial
  rintro _ _ ⟨rfl, rfl⟩
  refine zs ?_;try exact trivial
set_option maxHeartbeats 4000000 in
theorem may3_h (c : Ct) (player other frame n : Int) (inp : UInt16) (h0 : c.in0.length ≤ 1000000) (h1 : c.in1.length ≤ 1000000) : Holds Try.prog 21 [.ptr (.arg 0) 0, .ev ⟨3, player, other, frame, inp, n⟩] [(.arg 0, ctB (.arg 0) c)] (fun r h' => r = .int .i64 (mayP18 c ⟨3, player, other, frame, inp, n⟩) ∧ h' = [(.arg 0, ctB (.arg 0) c)]) := by
  have eb : bareB ⟨3, player, other, frame, inp, n⟩ = decide (other = 0 ∧ n = 0) := rfl
  have em : mayP18 c ⟨3, player, other, frame, inp, n⟩ = if decide (other = 0 ∧ n = 0) = true then mayInputP c ⟨3, player, other, frame, inp, n⟩ else 3 := by
    unfold mayP18
    rw [if_neg (by simp only; omega), eb]
    rfl
  rw [em]
  refine holds_of_awp Try.func21 rfl (by decide +kernel) mixed Try.ntmps21 Try.results21 ?_
  refine zE ?_
  refine zc ?_;try exact trivial
  refine a_drawC (⟨[V.cell (.ptr (.arg 0) 0), .undef, .undef, V.cell (.ptr (.loc [3]) 0), .undef, V.cell (.ptr (.loc [5]) 0), U, U, U, U, U, U, U, U, U, U, U, U, U, U, U, U, U, U, U, U, U, U, U, U, U, U, .undef], [(.loc [5], fnR3), (.loc [3], evC ⟨3, player, other, frame, inp, n⟩), (.arg 0, ctB (.arg 0) c)]⟩) (.take 1 (.both [(0, .both [(2, .take 3 (.both [(4, .both [(5, .done)])])), (4, .both [(2, .take 3 (.both [(5, .done)]))])]), (2, .both [(0, .take 3 (.both [(4, .both [(5, .done)])])), (4, .both [(0, .take 3 (.both [(5, .done)]))])]), (4, .both [(0, .both [(2, .take 3 (.both [(5, .done)]))]), (2, .both [(0, .take 3 (.both [(5, .done)]))])])])) (by kernel_rfl) (by kernel_rfl) ?_ ?_
  · refine zc ?_;try exact trivial
    repeat' (with_reducible apply And.intro)
    all_goals (
      refine a_call [] (hows_h) ok0 ?_ ?_ ?_
      · refine zs ?_;try exact trivial
      · refine zs ?_;try exact trivial
      rintro _ _ ⟨rfl, rfl⟩
      (refine zc ?_; try exact trivial))
  refine zc ?_;try exact trivial
  refine a_drawC (⟨[V.cell (.ptr (.arg 0) 0), .undef, .undef, V.cell (.ptr (.loc [3]) 0), .undef, V.cell (.ptr (.loc [5]) 0), U, U, U, U, U, U, U, U, U, U, U, U, U, U, U, U, U, U, U, U, U, V.bool (!decide (other = 0 ∧ n = 0)), U, U, U, U, .undef], [(.loc [5], fnR3), (.loc [3], evC ⟨3, player, other, frame, inp, n⟩), (.arg 0, ctB (.arg 0) c)]⟩) (.take 0 (.take 4 (.both [(1, .both [(2, .both [(3, .both [(5, .both [(6, .take 7 (.done))])]), (5, .both [(3, .both [(6, .take 7 (.done))]), (6, .both [(3, .take 7 (.done))])])]), (5, .both [(2, .both [(3, .both [(6, .take 7 (.done))]), (6, .both [(3, .take 7 (.done))])]), (6, .both [(2, .both [(3, .take 7 (.done))])])])]), (2, .both [(1, .both [(3, .both [(5, .both [(6, .take 7 (.done))])]), (5, .both [(3, .both [(6, .take 7 (.done))]), (6, .both [(3, .take 7 (.done))])])]), (5, .both [(1, .both [(3, .both [(6, .take 7 (.done))]), (6, .both [(3, .take 7 (.done))])]), (6, .both [(1, .both [(3, .take 7 (.done))])])])]), (5, .both [(1, .both [(2, .both [(3, .both [(6, .take 7 (.done))]), (6, .both [(3, .take 7 (.done))])]), (6, .both [(2, .both [(3, .take 7 (.done))])])]), (2, .both [(1, .both [(3, .both [(6, .take 7 (.done))]), (6, .both [(3, .take 7 (.done))])]), (6, .both [(1, .both [(3, .take 7 (.done))])])]), (6, .both [(1, .both [(2, .both [(3, .take 7 (.done))])]), (2, .both [(1, .both [(3, .take 7 (.done))])])])])]))) (by kernel_rfl) (by kernel_rfl) ?_ ?_
  · refine zc ?_;try exact trivial
    repeat' (with_reducible apply And.intro)
    all_goals (
      refine a_call [] (bare3_h ⟨3, player, other, frame, inp, n⟩) ok0 ?_ ?_ ?_
      · refine zs ?_;try exact trivial
      · refine zs ?_;try exact trivial
      rintro _ _ ⟨rfl, rfl⟩
      (refine zc ?_; try exact trivial))
  refine zs ?_;try exact trivial
  refine c_b (fun d => ?_) (fun d => ?_)
  · have d' : ¬ decide (other = 0 ∧ n = 0) = true := not_t d
    rw [if_neg d']
    refine zs ?_;try exact trivial
  have d' : decide (other = 0 ∧ n = 0) = true := not_f d
  rw [if_pos d']
  refine zs ?_;try exact trivial
  refine a_call [.arg 0] (mayInput_h c ⟨3, player, other, frame, inp, n⟩ h0 h1) (ok1 rfl) ?_ ?_ ?_
  · refine zs ?_;try exact trivial
  · refine zs ?_;try exact trivial
  rintro _ _ ⟨rfl, rfl⟩
  refine zs ?_;try exact trivial
set_option maxHeartbeats 4000000 in
theorem may4_h (c : Ct) (player other frame n : Int) (inp : UInt16) : Holds Try.prog 21 [.ptr (.arg 0) 0, .ev ⟨4, player, other, frame, inp, n⟩] [(.arg 0, ctB (.arg 0) c)] (fun r h' => r = .int .i64 (mayP18 c ⟨4, player, other, frame, inp, n⟩) ∧ h' = [(.arg 0, ctB (.arg 0) c)]) := by
  have eb : bareB ⟨4, player, other, frame, inp, n⟩ = decide (other = 0 ∧ frame = 0 ∧ U16 inp = 0 ∧ n = 0) := rfl
  have em : mayP18 c ⟨4, player, other, frame, inp, n⟩ = if decide (other = 0 ∧ frame = 0 ∧ U16 inp = 0 ∧ n = 0) = true then actP c player else 3 := by
    unfold mayP18
    rw [if_neg (by simp only; omega), eb]
    rfl
  rw [em]
  refine holds_of_awp Try.func21 rfl (by decide +kernel) mixed Try.ntmps21 Try.results21 ?_
  refine zE ?_
  refine zc ?_;try exact trivial
  refine a_drawC (⟨[V.cell (.ptr (.arg 0) 0), .undef, .undef, V.cell (.ptr (.loc [3]) 0), .undef, V.cell (.ptr (.loc [5]) 0), U, U, U, U, U, U, U, U, U, U, U, U, U, U, U, U, U, U, U, U, U, U, U, U, U, U, .undef], [(.loc [5], fnR4), (.loc [3], evC ⟨4, player, other, frame, inp, n⟩), (.arg 0, ctB (.arg 0) c)]⟩) (.take 1 (.both [(0, .both [(2, .take 3 (.both [(4, .both [(5, .done)])])), (4, .both [(2, .take 3 (.both [(5, .done)]))])]), (2, .both [(0, .take 3 (.both [(4, .both [(5, .done)])])), (4, .both [(0, .take 3 (.both [(5, .done)]))])]), (4, .both [(0, .both [(2, .take 3 (.both [(5, .done)]))]), (2, .both [(0, .take 3 (.both [(5, .done)]))])])])) (by kernel_rfl) (by kernel_rfl) ?_ ?_
  · refine zc ?_;try exact trivial
    repeat' (with_reducible apply And.intro)
    all_goals (
      refine a_call [] (hows_h) ok0 ?_ ?_ ?_
      · refine zs ?_;try exact trivial
      · refine zs ?_;try exact trivial
      rintro _ _ ⟨rfl, rfl⟩
      (refine zc ?_; try exact trivial))
  refine zc ?_;try exact trivial
  refine a_drawC (⟨[V.cell (.ptr (.arg 0) 0), .undef, .undef, V.cell (.ptr (.loc [3]) 0), .undef, V.cell (.ptr (.loc [5]) 0), U, U, U, U, U, U, U, U, U, U, U, U, U, U, U, U, U, U, U, U, U, V.bool (!decide (other = 0 ∧ frame = 0 ∧ U16 inp = 0 ∧ n = 0)), U, U, U, U, .undef], [(.loc [5], fnR4), (.loc [3], evC ⟨4, player, other, frame, inp, n⟩), (.arg 0, ctB (.arg 0) c)]⟩) (.take 0 (.take 4 (.both [(1, .both [(2, .both [(3, .both [(5, .both [(6, .take 7 (.done))])]), (5, .both [(3, .both [(6, .take 7 (.done))]), (6, .both [(3, .take 7 (.done))])])]), (5, .both [(2, .both [(3, .both [(6, .take 7 (.done))]), (6, .both [(3, .take 7 (.done))])]), (6, .both [(2, .both [(3, .take 7 (.done))])])])]), (2, .both [(1, .both [(3, .both [(5, .both [(6, .take 7 (.done))])]), (5, .both [(3, .both [(6, .take 7 (.done))]), (6, .both [(3, .take 7 (.done))])])]), (5, .both [(1, .both [(3, .both [(6, .take 7 (.done))]), (6, .both [(3, .take 7 (.done))])]), (6, .both [(1, .both [(3, .take 7 (.done))])])])]), (5, .both [(1, .both [(2, .both [(3, .both [(6, .take 7 (.done))]), (6, .both [(3, .take 7 (.done))])]), (6, .both [(2, .both [(3, .take 7 (.done))])])]), (2, .both [(1, .both [(3, .both [(6, .take 7 (.done))]), (6, .both [(3, .take 7 (.done))])]), (6, .both [(1, .both [(3, .take 7 (.done))])])]), (6, .both [(1, .both [(2, .both [(3, .take 7 (.done))])]), (2, .both [(1, .both [(3, .take 7 (.done))])])])])]))) (by kernel_rfl) (by kernel_rfl) ?_ ?_
  · refine zc ?_;try exact trivial
    repeat' (with_reducible apply And.intro)
    all_goals (
      refine a_call [] (bare4_h ⟨4, player, other, frame, inp, n⟩) ok0 ?_ ?_ ?_
      · refine zs ?_;try exact trivial
      · refine zs ?_;try exact trivial
      rintro _ _ ⟨rfl, rfl⟩
      (refine zc ?_; try exact trivial))
  refine zs ?_;try exact trivial
  refine c_b (fun d => ?_) (fun d => ?_)
  · have d' : ¬ decide (other = 0 ∧ frame = 0 ∧ U16 inp = 0 ∧ n = 0) = true := not_t d
    rw [if_neg d']
    refine zs ?_;try exact trivial
  have d' : decide (other = 0 ∧ frame = 0 ∧ U16 inp = 0 ∧ n = 0) = true := not_f d
  rw [if_pos d']
  refine zs ?_;try exact trivial
  refine a_call [.arg 0] (mayForfeit_h c ⟨4, player, other, frame, inp, n⟩) (ok1 rfl) ?_ ?_ ?_
  · refine zs ?_;try exact trivial
  · refine zs ?_;try exact trivial
  rintro _ _ ⟨rfl, rfl⟩
  refine zs ?_;try exact trivial
set_option maxHeartbeats 4000000 in
theorem may5_h (c : Ct) (player other frame n : Int) (inp : UInt16) (hw : 0 ≤ c.st.win ∧ c.st.win ≤ 2) : Holds Try.prog 21 [.ptr (.arg 0) 0, .ev ⟨5, player, other, frame, inp, n⟩] [(.arg 0, ctB (.arg 0) c)] (fun r h' => r = .int .i64 (mayP18 c ⟨5, player, other, frame, inp, n⟩) ∧ h' = [(.arg 0, ctB (.arg 0) c)]) := by
  have eb : bareB ⟨5, player, other, frame, inp, n⟩ = decide (other = 0 ∧ frame = 0 ∧ U16 inp = 0) := rfl
  have em : mayP18 c ⟨5, player, other, frame, inp, n⟩ = if decide (other = 0 ∧ frame = 0 ∧ U16 inp = 0) = true then mayResultP c ⟨5, player, other, frame, inp, n⟩ else 3 := by
    unfold mayP18
    rw [if_neg (by simp only; omega), eb]
    rfl
  rw [em]
  refine holds_of_awp Try.func21 rfl (by decide +kernel) mixed Try.ntmps21 Try.results21 ?_
  refine zE ?_
  refine zc ?_;try exact trivial
  refine a_drawC (⟨[V.cell (.ptr (.arg 0) 0), .undef, .undef, V.cell (.ptr (.loc [3]) 0), .undef, V.cell (.ptr (.loc [5]) 0), U, U, U, U, U, U, U, U, U, U, U, U, U, U, U, U, U, U, U, U, U, U, U, U, U, U, .undef], [(.loc [5], fnR5), (.loc [3], evC ⟨5, player, other, frame, inp, n⟩), (.arg 0, ctB (.arg 0) c)]⟩) (.take 1 (.both [(0, .both [(2, .take 3 (.both [(4, .both [(5, .done)])])), (4, .both [(2, .take 3 (.both [(5, .done)]))])]), (2, .both [(0, .take 3 (.both [(4, .both [(5, .done)])])), (4, .both [(0, .take 3 (.both [(5, .done)]))])]), (4, .both [(0, .both [(2, .take 3 (.both [(5, .done)]))]), (2, .both [(0, .take 3 (.both [(5, .done)]))])])])) (by kernel_rfl) (by kernel_rfl) ?_ ?_
  · refine zc ?_;try exact trivial
    repeat' (with_reducible apply And.intro)
    all_goals (
      refine a_call [] (hows_h) ok0 ?_ ?_ ?_
      · refine zs ?_;try exact trivial
      · refine zs ?_;try exact trivial
      rintro _ _ ⟨rfl, rfl⟩
      (refine zc ?_; try exact trivial))
  refine zc ?_;try exact trivial
  refine a_drawC (⟨[V.cell (.ptr (.arg 0) 0), .undef, .undef, V.cell (.ptr (.loc [3]) 0), .undef, V.cell (.ptr (.loc [5]) 0), U, U, U, U, U, U, U, U, U, U, U, U, U, U, U, U, U, U, U, U, U, V.bool (!decide (other = 0 ∧ frame = 0 ∧ U16 inp = 0)), U, U, U, U, .undef], [(.loc [5], fnR5), (.loc [3], evC ⟨5, player, other, frame, inp, n⟩), (.arg 0, ctB (.arg 0) c)]⟩) (.take 0 (.take 4 (.both [(1, .both [(2, .both [(3, .both [(5, .both [(6, .take 7 (.done))])]), (5, .both [(3, .both [(6, .take 7 (.done))]), (6, .both [(3, .take 7 (.done))])])]), (5, .both [(2, .both [(3, .both [(6, .take 7 (.done))]), (6, .both [(3, .take 7 (.done))])]), (6, .both [(2, .both [(3, .take 7 (.done))])])])]), (2, .both [(1, .both [(3, .both [(5, .both [(6, .take 7 (.done))])]), (5, .both [(3, .both [(6, .take 7 (.done))]), (6, .both [(3, .take 7 (.done))])])]), (5, .both [(1, .both [(3, .both [(6, .take 7 (.done))]), (6, .both [(3, .take 7 (.done))])]), (6, .both [(1, .both [(3, .take 7 (.done))])])])]), (5, .both [(1, .both [(2, .both [(3, .both [(6, .take 7 (.done))]), (6, .both [(3, .take 7 (.done))])]), (6, .both [(2, .both [(3, .take 7 (.done))])])]), (2, .both [(1, .both [(3, .both [(6, .take 7 (.done))]), (6, .both [(3, .take 7 (.done))])]), (6, .both [(1, .both [(3, .take 7 (.done))])])]), (6, .both [(1, .both [(2, .both [(3, .take 7 (.done))])]), (2, .both [(1, .both [(3, .take 7 (.done))])])])])]))) (by kernel_rfl) (by kernel_rfl) ?_ ?_
  · refine zc ?_;try exact trivial
    repeat' (with_reducible apply And.intro)
    all_goals (
      refine a_call [] (bare5_h ⟨5, player, other, frame, inp, n⟩) ok0 ?_ ?_ ?_
      · refine zs ?_;try exact trivial
      · refine zs ?_;try exact trivial
      rintro _ _ ⟨rfl, rfl⟩
      (refine zc ?_; try exact trivial))
  refine zs ?_;try exact trivial
  refine c_b (fun d => ?_) (fun d => ?_)
  · have d' : ¬ decide (other = 0 ∧ frame = 0 ∧ U16 inp = 0) = true := not_t d
    rw [if_neg d']
    refine zs ?_;try exact trivial
  have d' : decide (other = 0 ∧ frame = 0 ∧ U16 inp = 0) = true := not_f d
  rw [if_pos d']
  refine zs ?_;try exact trivial
  refine a_call [.arg 0] (mayResult_h c ⟨5, player, other, frame, inp, n⟩ hw) (ok1 rfl) ?_ ?_ ?_
  · refine zs ?_;try exact trivial
  · refine zs ?_;try exact trivial
  rintro _ _ ⟨rfl, rfl⟩
  refine zs ?_;try exact trivial
end
section
@[go_sem 1200] theorem evs_app {l : List Ev} {a b c d f : Int} {x : UInt16} : evs l ++ [.val (.int .i64 a), .val (.int .i64 b), .val (.int .i64 c), .val (.int .i64 d), .val (.int .u16 (U16 x)), .val (.int .i64 f)] = evs (l ++ [⟨a, b, c, d, x, f⟩]) := by
  simp [evs, evD]
def Ct.add (c : Ct) (e : Ev) : Ct := { c with events := c.events ++ [e] }
theorem applyN1_h (c : Ct) (player other frame n : Int) (inp : UInt16) (hm : mayP18 c ⟨1, player, other, frame, inp, n⟩ ≠ 0) : Holds Try.prog 14 [.ptr (.arg 0) 0, .ev ⟨1, player, other, frame, inp, n⟩] [(.arg 0, ctB (.arg 0) c)] (fun r h' => r = .int .i64 (mayP18 c ⟨1, player, other, frame, inp, n⟩) ∧ h' = [(.arg 0, ctB (.arg 0) c)]) := by
  refine holds_of_awp Try.func14 rfl (by decide +kernel) mixed Try.ntmps14 Try.results14 ?_
  refine zE ?_
  refine zs ?_;try exact trivial
  refine a_call [.arg 0] (may1_h c player other frame n inp) (ok1 rfl) ?_ ?_ ?_
  · refine zs ?_;try exact trivial
  · refine zs ?_;try exact trivial
  rintro _ _ ⟨rfl, rfl⟩
  refine zs ?_;try exact trivial
  refine c_dec (fun h => ?_) (fun h => ?_)
  · refine zs ?_;try exact trivial
  exact (h hm).elim
set_option maxHeartbeats 4000000 in
theorem applyY1_h (c c' : Ct) (player other frame n : Int) (inp : UInt16) (hm : mayP18 c ⟨1, player, other, frame, inp, n⟩ = 0) (hl : c'.events.length ≤ 1000000)
    (hd : Holds Try.prog 31 [.ptr (.arg 0) 0, .ev ⟨1, player, other, frame, inp, n⟩] [(.arg 0, ctB (.arg 0) c)] (fun r h' => r = .tup [] ∧ h' = [(.arg 0, ctB (.arg 0) c')])) :
    Holds Try.prog 14 [.ptr (.arg 0) 0, .ev ⟨1, player, other, frame, inp, n⟩] [(.arg 0, ctB (.arg 0) c)] (fun r h' => r = .int .i64 0 ∧ h' = [(.arg 0, ctB (.arg 0) (c'.add ⟨1, player, other, frame, inp, n⟩))]) := by
  refine holds_of_awp Try.func14 rfl (by decide +kernel) mixed Try.ntmps14 Try.results14 ?_
  refine zE ?_
  refine zs ?_;try exact trivial
  refine a_call [.arg 0] (may1_h c player other frame n inp) (ok1 rfl) ?_ ?_ ?_
  · refine zs ?_;try exact trivial
  · refine zs ?_;try exact trivial
  rintro _ _ ⟨rfl, rfl⟩
  rw [hm]
  refine zc ?_;try exact trivial
  refine a_drawC (⟨[V.cell (.ptr (.arg 0) 0), .undef, .undef, V.cell (.ptr (.loc [3]) 0), U, U, U, U, U, U, U, U, U, U, U, U, U, U, U, U, U, U, U, U, U, U, U, U, U, .undef], [(.loc [3], evC ⟨1, player, other, frame, inp, n⟩), (.arg 0, ctB (.arg 0) c')]⟩) (.take 1 (.take 5 (.both [(0, .both [(2, .take 3 (.take 4 (.both [(6, .both [(7, .done)])]))), (6, .both [(2, .take 3 (.take 4 (.both [(7, .done)])))])]), (2, .both [(0, .take 3 (.take 4 (.both [(6, .both [(7, .done)])]))), (6, .both [(0, .take 3 (.take 4 (.both [(7, .done)])))])]), (6, .both [(0, .both [(2, .take 3 (.take 4 (.both [(7, .done)])))]), (2, .both [(0, .take 3 (.take 4 (.both [(7, .done)])))])])]))) (by kernel_rfl) (by kernel_rfl) ?_ ?_
  · refine zc ?_;try exact trivial
    repeat' (with_reducible apply And.intro)
    all_goals (
      refine a_call [] (hows_h) ok0 ?_ ?_ ?_
      · refine zs ?_;try exact trivial
      · refine zs ?_;try exact trivial
      rintro _ _ ⟨rfl, rfl⟩
      refine zc ?_;try exact trivial
      refine a_call [.arg 0] (hd) (ok1 rfl) ?_ ?_ ?_
      · refine zs ?_;try exact trivial
      · refine zs ?_;try exact trivial
      rintro _ _ ⟨rfl, rfl⟩
      (refine zc ?_; try exact trivial))
  refine zc ?_;try exact trivial
  refine a_drawC (⟨[U, U, U, U, U, U, U, U, U, U, U, U, U, U, U, U, U, U, U, U, U, U, U, U, U, U, U, U, U, .undef], [(.arg 0, ctB (.arg 0) (c'.add ⟨1, player, other, frame, inp, n⟩))]⟩) (.take 0 (.take 1 (.take 2 (.take 3 (.both [(4, .both [(5, .both [(6, .both [(7, .take 8 (.take 9 (.both [(10, .done)])))])])]), (5, .both [(4, .both [(6, .both [(7, .take 8 (.take 9 (.both [(10, .done)])))])]), (6, .both [(4, .both [(7, .take 8 (.take 9 (.both [(10, .done)])))])])])]))))) (by kernel_rfl) (by kernel_rfl) ?_ ?_
  · refine zc ?_;try exact trivial
    repeat' (with_reducible apply And.intro)
    all_goals first | omega | exact leCs_refl _
  refine zc ?_;try exact trivial
theorem applyN2_h (c : Ct) (player other frame n : Int) (inp : UInt16) (hm : mayP18 c ⟨2, player, other, frame, inp, n⟩ ≠ 0) : Holds Try.prog 14 [.ptr (.arg 0) 0, .ev ⟨2, player, other, frame, inp, n⟩] [(.arg 0, ctB (.arg 0) c)] (fun r h' => r = .int .i64 (mayP18 c ⟨2, player, other, frame, inp, n⟩) ∧ h' = [(.arg 0, ctB (.arg 0) c)]) := by
  refine holds_of_awp Try.func14 rfl (by decide +kernel) mixed Try.ntmps14 Try.results14 ?_
  refine zE ?_
  refine zs ?_;try exact trivial
  refine a_call [.arg 0] (may2_h c player other frame n inp) (ok1 rfl) ?_ ?_ ?_
  · refine zs ?_;try exact trivial
  · refine zs ?_;try exact trivial
  rintro _ _ ⟨rfl, rfl⟩
  refine zs ?_;try exact trivial
  refine c_dec (fun h => ?_) (fun h => ?_)
  · refine zs ?_;try exact trivial
  exact (h hm).elim
set_option maxHeartbeats 4000000 in
theorem applyY2_h (c c' : Ct) (player other frame n : Int) (inp : UInt16) (hm : mayP18 c ⟨2, player, other, frame, inp, n⟩ = 0) (hl : c'.events.length ≤ 1000000)
    (hd : Holds Try.prog 34 [.ptr (.arg 0) 0, .ev ⟨2, player, other, frame, inp, n⟩] [(.arg 0, ctB (.arg 0) c)] (fun r h' => r = .tup [] ∧ h' = [(.arg 0, ctB (.arg 0) c')])) :
    Holds Try.prog 14 [.ptr (.arg 0) 0, .ev ⟨2, player, other, frame, inp, n⟩] [(.arg 0, ctB (.arg 0) c)] (fun r h' => r = .int .i64 0 ∧ h' = [(.arg 0, ctB (.arg 0) (c'.add ⟨2, player, other, frame, inp, n⟩))]) := by
  refine holds_of_awp Try.func14 rfl (by decide +kernel) mixed Try.ntmps14 Try.results14 ?_
  refine zE ?_
  refine zs ?_;try exact trivial
  refine a_call [.arg 0] (may2_h c player other frame n inp) (ok1 rfl) ?_ ?_ ?_
  · refine zs ?_;try exact trivial
  · refine zs ?_;try exact trivial
  rintro _ _ ⟨rfl, rfl⟩
  rw [hm]
  refine zc ?_;try exact trivial
  refine a_drawC (⟨[V.cell (.ptr (.arg 0) 0), .undef, .undef, V.cell (.ptr (.loc [3]) 0), U, U, U, U, U, U, U, U, U, U, U, U, U, U, U, U, U, U, U, U, U, U, U, U, U, .undef], [(.loc [3], evC ⟨2, player, other, frame, inp, n⟩), (.arg 0, ctB (.arg 0) c')]⟩) (.take 1 (.take 5 (.both [(0, .both [(2, .take 3 (.take 4 (.both [(6, .both [(7, .done)])]))), (6, .both [(2, .take 3 (.take 4 (.both [(7, .done)])))])]), (2, .both [(0, .take 3 (.take 4 (.both [(6, .both [(7, .done)])]))), (6, .both [(0, .take 3 (.take 4 (.both [(7, .done)])))])]), (6, .both [(0, .both [(2, .take 3 (.take 4 (.both [(7, .done)])))]), (2, .both [(0, .take 3 (.take 4 (.both [(7, .done)])))])])]))) (by kernel_rfl) (by kernel_rfl) ?_ ?_
  · refine zc ?_;try exact trivial
    repeat' (with_reducible apply And.intro)
    all_goals (
      refine a_call [] (hows_h) ok0 ?_ ?_ ?_
      · refine zs ?_;try exact trivial
      · refine zs ?_;try exact trivial
      rintro _ _ ⟨rfl, rfl⟩
      refine zc ?_;try exact trivial
      refine a_call [.arg 0] (hd) (ok1 rfl) ?_ ?_ ?_
      · refine zs ?_;try exact trivial
      · refine zs ?_;try exact trivial
      rintro _ _ ⟨rfl, rfl⟩
      (refine zc ?_; try exact trivial))
  refine zc ?_;try exact trivial
  refine a_drawC (⟨[U, U, U, U, U, U, U, U, U, U, U, U, U, U, U, U, U, U, U, U, U, U, U, U, U, U, U, U, U, .undef], [(.arg 0, ctB (.arg 0) (c'.add ⟨2, player, other, frame, inp, n⟩))]⟩) (.take 0 (.take 1 (.take 2 (.take 3 (.both [(4, .both [(5, .both [(6, .both [(7, .take 8 (.take 9 (.both [(10, .done)])))])])]), (5, .both [(4, .both [(6, .both [(7, .take 8 (.take 9 (.both [(10, .done)])))])]), (6, .both [(4, .both [(7, .take 8 (.take 9 (.both [(10, .done)])))])])])]))))) (by kernel_rfl) (by kernel_rfl) ?_ ?_
  · refine zc ?_;try exact trivial
    repeat' (with_reducible apply And.intro)
    all_goals first | omega | exact leCs_refl _
  refine zc ?_;try exact trivial
theorem applyN3_h (c : Ct) (player other frame n : Int) (inp : UInt16) (h0 : c.in0.length ≤ 1000000) (h1 : c.in1.length ≤ 1000000) (hm : mayP18 c ⟨3, player, other, frame, inp, n⟩ ≠ 0) : Holds Try.prog 14 [.ptr (.arg 0) 0, .ev ⟨3, player, other, frame, inp, n⟩] [(.arg 0, ctB (.arg 0) c)] (fun r h' => r = .int .i64 (mayP18 c ⟨3, player, other, frame, inp, n⟩) ∧ h' = [(.arg 0, ctB (.arg 0) c)]) := by
  refine holds_of_awp Try.func14 rfl (by decide +kernel) mixed Try.ntmps14 Try.results14 ?_
  refine zE ?_
  refine zs ?_;try exact trivial
  refine a_call [.arg 0] (may3_h c player other frame n inp h0 h1) (ok1 rfl) ?_ ?_ ?_
  · refine zs ?_;try exact trivial
  · refine zs ?_;try exact trivial
  rintro _ _ ⟨rfl, rfl⟩
  refine zs ?_;try exact trivial
  refine c_dec (fun h => ?_) (fun h => ?_)
  · refine zs ?_;try exact trivial
  exact (h hm).elim
set_option maxHeartbeats 4000000 in
theorem applyY3_h (c c' : Ct) (player other frame n : Int) (inp : UInt16) (h0 : c.in0.length ≤ 1000000) (h1 : c.in1.length ≤ 1000000) (hm : mayP18 c ⟨3, player, other, frame, inp, n⟩ = 0) (hl : c'.events.length ≤ 1000000)
    (hd : Holds Try.prog 37 [.ptr (.arg 0) 0, .ev ⟨3, player, other, frame, inp, n⟩] [(.arg 0, ctB (.arg 0) c)] (fun r h' => r = .tup [] ∧ h' = [(.arg 0, ctB (.arg 0) c')])) :
    Holds Try.prog 14 [.ptr (.arg 0) 0, .ev ⟨3, player, other, frame, inp, n⟩] [(.arg 0, ctB (.arg 0) c)] (fun r h' => r = .int .i64 0 ∧ h' = [(.arg 0, ctB (.arg 0) (c'.add ⟨3, player, other, frame, inp, n⟩))]) := by
  refine holds_of_awp Try.func14 rfl (by decide +kernel) mixed Try.ntmps14 Try.results14 ?_
  refine zE ?_
  refine zs ?_;try exact trivial
  refine a_call [.arg 0] (may3_h c player other frame n inp h0 h1) (ok1 rfl) ?_ ?_ ?_
  · refine zs ?_;try exact trivial
  · refine zs ?_;try exact trivial
  rintro _ _ ⟨rfl, rfl⟩
  rw [hm]
  refine zc ?_;try exact trivial
  refine a_drawC (⟨[V.cell (.ptr (.arg 0) 0), .undef, .undef, V.cell (.ptr (.loc [3]) 0), U, U, U, U, U, U, U, U, U, U, U, U, U, U, U, U, U, U, U, U, U, U, U, U, U, .undef], [(.loc [3], evC ⟨3, player, other, frame, inp, n⟩), (.arg 0, ctB (.arg 0) c')]⟩) (.take 1 (.take 5 (.both [(0, .both [(2, .take 3 (.take 4 (.both [(6, .both [(7, .done)])]))), (6, .both [(2, .take 3 (.take 4 (.both [(7, .done)])))])]), (2, .both [(0, .take 3 (.take 4 (.both [(6, .both [(7, .done)])]))), (6, .both [(0, .take 3 (.take 4 (.both [(7, .done)])))])]), (6, .both [(0, .both [(2, .take 3 (.take 4 (.both [(7, .done)])))]), (2, .both [(0, .take 3 (.take 4 (.both [(7, .done)])))])])]))) (by kernel_rfl) (by kernel_rfl) ?_ ?_
  · refine zc ?_;try exact trivial
    repeat' (with_reducible apply And.intro)
    all_goals (
      refine a_call [] (hows_h) ok0 ?_ ?_ ?_
      · refine zs ?_;try exact trivial
      · refine zs ?_;try exact trivial
      rintro _ _ ⟨rfl, rfl⟩
      refine zc ?_;try exact trivial
      refine a_call [.arg 0] (hd) (ok1 rfl) ?_ ?_ ?_
      · refine zs ?_;try exact trivial
      · refine zs ?_;try exact trivial
      rintro _ _ ⟨rfl, rfl⟩
      (refine zc ?_; try exact trivial))
  refine zc ?_;try exact trivial
  refine a_drawC (⟨[U, U, U, U, U, U, U, U, U, U, U, U, U, U, U, U, U, U, U, U, U, U, U, U, U, U, U, U, U, .undef], [(.arg 0, ctB (.arg 0) (c'.add ⟨3, player, other, frame, inp, n⟩))]⟩) (.take 0 (.take 1 (.take 2 (.take 3 (.both [(4, .both [(5, .both [(6, .both [(7, .take 8 (.take 9 (.both [(10, .done)])))])])]), (5, .both [(4, .both [(6, .both [(7, .take 8 (.take 9 (.both [(10, .done)])))])]), (6, .both [(4, .both [(7, .take 8 (.take 9 (.both [(10, .done)])))])])])]))))) (by kernel_rfl) (by kernel_rfl) ?_ ?_
  · refine zc ?_;try exact trivial
    repeat' (with_reducible apply And.intro)
    all_goals first | omega | exact leCs_refl _
  refine zc ?_;try exact trivial
theorem applyN4_h (c : Ct) (player other frame n : Int) (inp : UInt16) (hm : mayP18 c ⟨4, player, other, frame, inp, n⟩ ≠ 0) : Holds Try.prog 14 [.ptr (.arg 0) 0, .ev ⟨4, player, other, frame, inp, n⟩] [(.arg 0, ctB (.arg 0) c)] (fun r h' => r = .int .i64 (mayP18 c ⟨4, player, other, frame, inp, n⟩) ∧ h' = [(.arg 0, ctB (.arg 0) c)]) := by
  refine holds_of_awp Try.func14 rfl (by decide +kernel) mixed Try.ntmps14 Try.results14 ?_
  refine zE ?_
  refine zs ?_;try exact trivial
  refine a_call [.arg 0] (may4_h c player other frame n inp) (ok1 rfl) ?_ ?_ ?_
  · refine zs ?_;try exact trivial
  · refine zs ?_;try exact trivial
  rintro _ _ ⟨rfl, rfl⟩
  refine zs ?_;try exact trivial
  refine c_dec (fun h => ?_) (fun h => ?_)
  · refine zs ?_;try exact trivial
  exact (h hm).elim
set_option maxHeartbeats 4000000 in
theorem applyY4_h (c c' : Ct) (player other frame n : Int) (inp : UInt16) (hm : mayP18 c ⟨4, player, other, frame, inp, n⟩ = 0) (hl : c'.events.length ≤ 1000000)
    (hd : Holds Try.prog 40 [.ptr (.arg 0) 0, .ev ⟨4, player, other, frame, inp, n⟩] [(.arg 0, ctB (.arg 0) c)] (fun r h' => r = .tup [] ∧ h' = [(.arg 0, ctB (.arg 0) c')])) :
    Holds Try.prog 14 [.ptr (.arg 0) 0, .ev ⟨4, player, other, frame, inp, n⟩] [(.arg 0, ctB (.arg 0) c)] (fun r h' => r = .int .i64 0 ∧ h' = [(.arg 0, ctB (.arg 0) (c'.add ⟨4, player, other, frame, inp, n⟩))]) := by
  refine holds_of_awp Try.func14 rfl (by decide +kernel) mixed Try.ntmps14 Try.results14 ?_
  refine zE ?_
  refine zs ?_;try exact trivial
  refine a_call [.arg 0] (may4_h c player other frame n inp) (ok1 rfl) ?_ ?_ ?_
  · refine zs ?_;try exact trivial
  · refine zs ?_;try exact trivial
  rintro _ _ ⟨rfl, rfl⟩
  rw [hm]
  refine zc ?_;try exact trivial
  refine a_drawC (⟨[V.cell (.ptr (.arg 0) 0), .undef, .undef, V.cell (.ptr (.loc [3]) 0), U, U, U, U, U, U, U, U, U, U, U, U, U, U, U, U, U, U, U, U, U, U, U, U, U, .undef], [(.loc [3], evC ⟨4, player, other, frame, inp, n⟩), (.arg 0, ctB (.arg 0) c')]⟩) (.take 1 (.take 5 (.both [(0, .both [(2, .take 3 (.take 4 (.both [(6, .both [(7, .done)])]))), (6, .both [(2, .take 3 (.take 4 (.both [(7, .done)])))])]), (2, .both [(0, .take 3 (.take 4 (.both [(6, .both [(7, .done)])]))), (6, .both [(0, .take 3 (.take 4 (.both [(7, .done)])))])]), (6, .both [(0, .both [(2, .take 3 (.take 4 (.both [(7, .done)])))]), (2, .both [(0, .take 3 (.take 4 (.both [(7, .done)])))])])]))) (by kernel_rfl) (by kernel_rfl) ?_ ?_
  · refine zc ?_;try exact trivial
    repeat' (with_reducible apply And.intro)
    all_goals (
      refine a_call [] (hows_h) ok0 ?_ ?_ ?_
      · refine zs ?_;try exact trivial
      · refine zs ?_;try exact trivial
      rintro _ _ ⟨rfl, rfl⟩
      refine zc ?_;try exact trivial
      refine a_call [.arg 0] (hd) (ok1 rfl) ?_ ?_ ?_
      · refine zs ?_;try exact trivial
      · refine zs ?_;try exact trivial
      rintro _ _ ⟨rfl, rfl⟩
      (refine zc ?_; try exact trivial))
  refine zc ?_;try exact trivial
  refine a_drawC (⟨[U, U, U, U, U, U, U, U, U, U, U, U, U, U, U, U, U, U, U, U, U, U, U, U, U, U, U, U, U, .undef], [(.arg 0, ctB (.arg 0) (c'.add ⟨4, player, other, frame, inp, n⟩))]⟩) (.take 0 (.take 1 (.take 2 (.take 3 (.both [(4, .both [(5, .both [(6, .both [(7, .take 8 (.take 9 (.both [(10, .done)])))])])]), (5, .both [(4, .both [(6, .both [(7, .take 8 (.take 9 (.both [(10, .done)])))])]), (6, .both [(4, .both [(7, .take 8 (.take 9 (.both [(10, .done)])))])])])]))))) (by kernel_rfl) (by kernel_rfl) ?_ ?_
  · refine zc ?_;try exact trivial
    repeat' (with_reducible apply And.intro)
    all_goals first | omega | exact leCs_refl _
  refine zc ?_;try exact trivial
theorem applyN5_h (c : Ct) (player other frame n : Int) (inp : UInt16) (hw : 0 ≤ c.st.win ∧ c.st.win ≤ 2) (hm : mayP18 c ⟨5, player, other, frame, inp, n⟩ ≠ 0) : Holds Try.prog 14 [.ptr (.arg 0) 0, .ev ⟨5, player, other, frame, inp, n⟩] [(.arg 0, ctB (.arg 0) c)] (fun r h' => r = .int .i64 (mayP18 c ⟨5, player, other, frame, inp, n⟩) ∧ h' = [(.arg 0, ctB (.arg 0) c)]) := by
  refine holds_of_awp Try.func14 rfl (by decide +kernel) mixed Try.ntmps14 Try.results14 ?_
  refine zE ?_
  refine zs ?_;try exact trivial
  refine a_call [.arg 0] (may5_h c player other frame n inp hw) (ok1 rfl) ?_ ?_ ?_
  · refine zs ?_;try exact trivial
  · refine zs ?_;try exact trivial
  rintro _ _ ⟨rfl, rfl⟩
  refine zs ?_;try exact trivial
  refine c_dec (fun h => ?_) (fun h => ?_)
  · refine zs ?_;try exact trivial
  exact (h hm).elim
set_option maxHeartbeats 4000000 in
theorem applyY5_h (c c' : Ct) (player other frame n : Int) (inp : UInt16) (hw : 0 ≤ c.st.win ∧ c.st.win ≤ 2) (hm : mayP18 c ⟨5, player, other, frame, inp, n⟩ = 0) (hl : c'.events.length ≤ 1000000)
    (hd : Holds Try.prog 43 [.ptr (.arg 0) 0, .ev ⟨5, player, other, frame, inp, n⟩] [(.arg 0, ctB (.arg 0) c)] (fun r h' => r = .tup [] ∧ h' = [(.arg 0, ctB (.arg 0) c')])) :
    Holds Try.prog 14 [.ptr (.arg 0) 0, .ev ⟨5, player, other, frame, inp, n⟩] [(.arg 0, ctB (.arg 0) c)] (fun r h' => r = .int .i64 0 ∧ h' = [(.arg 0, ctB (.arg 0) (c'.add ⟨5, player, other, frame, inp, n⟩))]) := by
  refine holds_of_awp Try.func14 rfl (by decide +kernel) mixed Try.ntmps14 Try.results14 ?_
  refine zE ?_
  refine zs ?_;try exact trivial
  refine a_call [.arg 0] (may5_h c player other frame n inp hw) (ok1 rfl) ?_ ?_ ?_
  · refine zs ?_;try exact trivial
  · refine zs ?_;try exact trivial
  rintro _ _ ⟨rfl, rfl⟩
  rw [hm]
  refine zc ?_;try exact trivial
  refine a_drawC (⟨[V.cell (.ptr (.arg 0) 0), .undef, .undef, V.cell (.ptr (.loc [3]) 0), U, U, U, U, U, U, U, U, U, U, U, U, U, U, U, U, U, U, U, U, U, U, U, U, U, .undef], [(.loc [3], evC ⟨5, player, other, frame, inp, n⟩), (.arg 0, ctB (.arg 0) c')]⟩) (.take 1 (.take 5 (.both [(0, .both [(2, .take 3 (.take 4 (.both [(6, .both [(7, .done)])]))), (6, .both [(2, .take 3 (.take 4 (.both [(7, .done)])))])]), (2, .both [(0, .take 3 (.take 4 (.both [(6, .both [(7, .done)])]))), (6, .both [(0, .take 3 (.take 4 (.both [(7, .done)])))])]), (6, .both [(0, .both [(2, .take 3 (.take 4 (.both [(7, .done)])))]), (2, .both [(0, .take 3 (.take 4 (.both [(7, .done)])))])])]))) (by kernel_rfl) (by kernel_rfl) ?_ ?_
  · refine zc ?_;try exact trivial
    repeat' (with_reducible apply And.intro)
    all_goals (
      refine a_call [] (hows_h) ok0 ?_ ?_ ?_
      · refine zs ?_;try exact trivial
      · refine zs ?_;try exact trivial
      rintro _ _ ⟨rfl, rfl⟩
      refine zc ?_;try exact trivial
      refine a_call [.arg 0] (hd) (ok1 rfl) ?_ ?_ ?_
      · refine zs ?_;try exact trivial
      · refine zs ?_;try exact trivial
      rintro _ _ ⟨rfl, rfl⟩
      (refine zc ?_; try exact trivial))
  refine zc ?_;try exact trivial
  refine a_drawC (⟨[U, U, U, U, U, U, U, U, U, U, U, U, U, U, U, U, U, U, U, U, U, U, U, U, U, U, U, U, U, .undef], [(.arg 0, ctB (.arg 0) (c'.add ⟨5, player, other, frame, inp, n⟩))]⟩) (.take 0 (.take 1 (.take 2 (.take 3 (.both [(4, .both [(5, .both [(6, .both [(7, .take 8 (.take 9 (.both [(10, .done)])))])])]), (5, .both [(4, .both [(6, .both [(7, .take 8 (.take 9 (.both [(10, .done)])))])]), (6, .both [(4, .both [(7, .take 8 (.take 9 (.both [(10, .done)])))])])])]))))) (by kernel_rfl) (by kernel_rfl) ?_ ?_
  · refine zc ?_;try exact trivial
    repeat' (with_reducible apply And.intro)
    all_goals first | omega | exact leCs_refl _
  refine zc ?_;try exact trivial
end
section
@[go_sem] theorem l_no1 {sz : Nat} (h : 0 < sz) : leC (.lst .no none sz []) (.lst .full (some true) 1 []) = True := eq_true (by simp [leC, h])
end
section
/-- two players in a match that goes on, frame by frame -/
structure Go18 (code : List (Int × Int)) (cap fuel p0 p1 : Int) (i0 i1 : List UInt16) (ps : List (UInt16 × UInt16)) (st : Sta) (k : Nat) (c : Ct) : Prop where
  code : c.code = code
  cap : c.cap = cap
  fuel : c.fuel = fuel
  p0 : c.p0 = p0
  p1 : c.p1 = p1
  opn : c.opn = true
  over : c.over = false
  in0 : c.in0 = i0
  in1 : c.in1 = i1
  pairs : c.pairs = ps
  st : c.st = st
  ev : c.events.length = k
  l0 : c.l0 = 0
  l1 : c.l1 = 0
section
variable {code : List (Int × Int)} {cap fuel p0 p1 : Int} {i0 i1 : List UInt16} {ps : List (UInt16 × UInt16)} {st : Sta} {k : Nat} {c : Ct}
theorem Go18.seat0 (h : Go18 code cap fuel p0 p1 i0 i1 ps st k c) : seatP c p0 = 0 := by unfold seatP; rw [if_pos h.p0]
theorem Go18.seat1 (h : Go18 code cap fuel p0 p1 i0 i1 ps st k c) (hne : p0 ≠ p1) : seatP c p1 = 1 := by unfold seatP; rw [if_neg (by rw [h.p0]; exact hne), if_pos h.p1]
theorem Go18.act0 (h : Go18 code cap fuel p0 p1 i0 i1 ps st k c) (ho : st.over = false) : actP c p0 = 0 := by
  unfold actP; rw [h.opn, h.over, h.st, ho, h.seat0, if_neg (by simp), if_neg (by simp), if_neg (by omega)]
theorem Go18.act1 (h : Go18 code cap fuel p0 p1 i0 i1 ps st k c) (hne : p0 ≠ p1) (ho : st.over = false) : actP c p1 = 0 := by
  unfold actP; rw [h.opn, h.over, h.st, ho, h.seat1 hne, if_neg (by simp), if_neg (by simp), if_neg (by omega)]
theorem may_in (c : Ct) (p f : Int) (x : UInt16) : mayP18 c ⟨3, p, 0, f, x, 0⟩ = mayInputP c ⟨3, p, 0, f, x, 0⟩ := by
  unfold mayP18 may1P bareB; simp
theorem win_ok {cap : Int} {mine other : List UInt16} {p f : Int} {x : UInt16} (h0 : f = mine.length) (h1 : (mine.length : Int) < cap) (h2 : (mine.length : Int) - other.length < 8) : winP cap mine other ⟨3, p, 0, f, x, 0⟩ = 0 := by
  subst h0
  unfold winP
  rw [if_neg (by simp only; omega), if_neg (by simp only; omega), if_neg (by simp only; omega), if_neg (by simp only; omega)]
/-- the first player does something -/
theorem Go18.in_0 (h : Go18 code cap fuel p0 p1 i0 i1 ps st k c) (x : UInt16) (ev : Ev) (he : ev.player = p0) (hx : ev.inp = x) :
    Go18 code cap fuel p0 p1 (i0 ++ [x]) i1 (cuP code cap fuel (i0 ++ [x]) i1 (min (i0 ++ [x]).length i1.length - ps.length) ps st).1 (cuP code cap fuel (i0 ++ [x]) i1 (min (i0 ++ [x]).length i1.length - ps.length) ps st).2 (k + 1) ((inputP c ev).add ev) := by
  have hs : seatP c ev.player = 0 := by rw [he]; exact h.seat0
  have e0 : inputP0 c ev = { c with in0 := c.in0 ++ [ev.inp] } := by unfold inputP0; rw [if_pos hs]
  have e1 : inputP c ev = goP { c with in0 := c.in0 ++ [ev.inp] } := by unfold inputP; rw [e0]
  rw [e1]
  obtain ⟨h1, h2, h3, h4, h5, h6, h7, h8, h9, h10, h11, h12, h13, h14⟩ := h
  subst hx
  refine ⟨h1, h2, h3, h4, h5, h6, h7, ?_, h9, ?_, ?_, ?_, h13, h14⟩
  · show c.in0 ++ [ev.inp] = _; rw [h8]
  · unfold goP Ct.add; simp only [h1, h2, h3, h8, h9, h10, h11]
  · unfold goP Ct.add; simp only [h1, h2, h3, h8, h9, h10, h11]
  show (c.events ++ [ev]).length = _; rw [List.length_append, h12]; rfl
theorem Go18.in_1 (h : Go18 code cap fuel p0 p1 i0 i1 ps st k c) (hne : p0 ≠ p1) (x : UInt16) (ev : Ev) (he : ev.player = p1) (hx : ev.inp = x) :
    Go18 code cap fuel p0 p1 i0 (i1 ++ [x]) (cuP code cap fuel i0 (i1 ++ [x]) (min i0.length (i1 ++ [x]).length - ps.length) ps st).1 (cuP code cap fuel i0 (i1 ++ [x]) (min i0.length (i1 ++ [x]).length - ps.length) ps st).2 (k + 1) ((inputP c ev).add ev) := by
  have hs : seatP c ev.player = 1 := by rw [he]; exact h.seat1 hne
  have e0 : inputP0 c ev = { c with in1 := c.in1 ++ [ev.inp] } := by unfold inputP0; rw [if_neg (by omega)]
  have e1 : inputP c ev = goP { c with in1 := c.in1 ++ [ev.inp] } := by unfold inputP; rw [e0]
  rw [e1]
  obtain ⟨h1, h2, h3, h4, h5, h6, h7, h8, h9, h10, h11, h12, h13, h14⟩ := h
  subst hx
  refine ⟨h1, h2, h3, h4, h5, h6, h7, h8, ?_, ?_, ?_, ?_, h13, h14⟩
  · show c.in1 ++ [ev.inp] = _; rw [h9]
  · unfold goP Ct.add; simp only [h1, h2, h3, h8, h9, h10, h11]
  · unfold goP Ct.add; simp only [h1, h2, h3, h8, h9, h10, h11]
  show (c.events ++ [ev]).length = _; rw [List.length_append, h12]; rfl
/-- .. taken by Apply -/
theorem Go18.apply_in (h : Go18 code cap fuel p0 p1 i0 i1 ps st k c) (hg : gameP code cap fuel = 0) (hB : ∀ x ∈ st.cells, B32 x) (l0 : i0.length ≤ 1000) (l1 : i1.length ≤ 1000) (lp : ps.length ≤ 1000) (lk : k ≤ 100000) (p f : Int) (x : UInt16) (hm : mayP18 c ⟨3, p, 0, f, x, 0⟩ = 0) (hs : 0 ≤ seatP c p) :
    Holds Try.prog 14 [.ptr (.arg 0) 0, .ev ⟨3, p, 0, f, x, 0⟩] [(.arg 0, ctB (.arg 0) c)] (fun r h' => r = .int .i64 0 ∧ h' = [(.arg 0, ctB (.arg 0) ((inputP c ⟨3, p, 0, f, x, 0⟩).add ⟨3, p, 0, f, x, 0⟩))]) := by
  have m0 : c.in0.length ≤ 1000000 := by rw [h.in0]; omega
  have m1 : c.in1.length ≤ 1000000 := by rw [h.in1]; omega
  refine applyY3_h c (inputP c ⟨3, p, 0, f, x, 0⟩) p 0 f 0 x m0 m1 hm ?_ (input_h c ⟨3, p, 0, f, x, 0⟩ m0 m1 (by rw [h.pairs]; omega) hs (by rw [h.code, h.cap, h.fuel]; exact hg) (by rw [h.st]; exact hB))
  have e : (inputP c ⟨3, p, 0, f, x, 0⟩).events = c.events := by unfold inputP goP inputP0; split <;> rfl
  rw [e, h.ev]; omega
theorem cu0 {a b : List UInt16} : cuP code cap fuel a b 0 ps st = (ps, st) := rfl
theorem cu1 {a b : List UInt16} (ho : st.over = false) (hl : ps.length < min a.length b.length) : cuP code cap fuel a b 1 ps st = (ps ++ [(a.getD ps.length 0, b.getD ps.length 0)], (stepP code cap fuel st (a.getD ps.length 0) (b.getD ps.length 0)).1) := by
  unfold cuP; rw [if_pos ⟨ho, hl⟩]; rfl
/-- both did their frame -/
theorem Go18.both (h : Go18 code cap fuel p0 p1 i0 i1 ps st k c) (hne : p0 ≠ p1) (hl : i0.length = ps.length) (hl1 : i1.length = ps.length) (ho : st.over = false) (x y : UInt16) (f : Int) :
    Go18 code cap fuel p0 p1 (i0 ++ [x]) i1 ps st (k + 1) ((inputP c ⟨3, p0, 0, f, x, 0⟩).add ⟨3, p0, 0, f, x, 0⟩) ∧
    Go18 code cap fuel p0 p1 (i0 ++ [x]) (i1 ++ [y]) (ps ++ [(x, y)]) (stepP code cap fuel st x y).1 (k + 2) ((inputP ((inputP c ⟨3, p0, 0, f, x, 0⟩).add ⟨3, p0, 0, f, x, 0⟩) ⟨3, p1, 0, f, y, 0⟩).add ⟨3, p1, 0, f, y, 0⟩) := by
  have a := h.in_0 x ⟨3, p0, 0, f, x, 0⟩ rfl rfl
  rw [show min (i0 ++ [x]).length i1.length - ps.length = 0 by simp; omega, cu0] at a
  have b := a.in_1 hne y ⟨3, p1, 0, f, y, 0⟩ rfl rfl
  rw [show min (i0 ++ [x]).length (i1 ++ [y]).length - ps.length = 1 by simp; omega, cu1 ho (by simp; omega)] at b
  have e1 : (i0 ++ [x]).getD ps.length 0 = x := by rw [← hl]; simp
  have e2 : (i1 ++ [y]).getD ps.length 0 = y := by rw [← hl1]; simp
  rw [e1, e2] at b
  exact ⟨a, b⟩
end
end
section
set_option maxRecDepth 20000
end
section
set_option maxRecDepth 20000
end
section
set_option maxRecDepth 20000
end
section

end
section
/-- what holds of the other machine -/
structure okR (n : Int) (r : Rac) : Prop where
  pc0 : 0 ≤ r.pc
  pc1 : r.pc ≤ n
  len : r.sk.length ≤ 32
  sk : ∀ x ∈ r.sk, B32 x
  cells : ∀ x ∈ r.st.cells, B32 x
  fr0 : 0 ≤ r.st.frame
  fr1 : r.st.frame ≤ 600
theorem rpopV_B {r : Rac} (h : ∀ x ∈ r.sk, B32 x) : B32 (rpopV r) := getD_B32 h _
theorem okR.pop {n : Int} {r : Rac} (h : okR n r) : okR n (rpopM r) := ⟨h.pc0, h.pc1, Nat.le_trans (List.length_take_le' _ _) h.len, fun x hx => h.sk x (List.mem_of_mem_take hx), h.cells, h.fr0, h.fr1⟩
theorem okR.push {n : Int} {r : Rac} (h : okR n r) {x : Int} (hx : B32 x) : okR n (rpushM r x) := by
  unfold rpushM
  split
  · exact ⟨h.pc0, h.pc1, h.len, h.sk, h.cells, h.fr0, h.fr1⟩
  refine ⟨h.pc0, h.pc1, by simp; omega, fun y hy => ?_, h.cells, h.fr0, h.fr1⟩
  rcases List.mem_append.1 hy with h1 | h1
  · exact h.sk y h1
  rw [List.mem_singleton.1 h1]; exact hx
theorem okR.two {n : Int} {r : Rac} (h : okR n r) {f : Int → Int → Int} (hf : ∀ b a, B32 b → B32 a → B32 (f b a)) : okR n (rtwo f r) := h.pop.pop.push (hf _ _ (rpopV_B h.pop.sk) (rpopV_B h.sk))
theorem okR.do {n op arg : Int} {r : Rac} (h : okR n r) (hp : r.pc < n) (hm : mayP op arg n = true) : okR n (rdoM op arg r) := by
  obtain ⟨ho, h1, h2, h16, h18, h20⟩ := mayP_arg hm
  have u0 := U16_b r.i0
  have u1 := U16_b r.i1
  have hr := rndV_b (mixS r.st.seed)
  have i : okR n (incR r) := ⟨by show 0 ≤ r.pc + 1; have := h.pc0; omega, by show r.pc + 1 ≤ n; omega, h.len, h.sk, h.cells, h.fr0, h.fr1⟩
  unfold rdoM
  split
  · exact ⟨h.pc0, h.pc1, h.len, h.sk, h.cells, h.fr0, h.fr1⟩
  rcases op_cases ho with rfl | rfl | rfl | rfl | rfl | rfl | rfl | rfl | rfl | rfl | rfl | rfl | rfl | rfl | rfl | rfl | rfl | rfl | rfl | rfl | rfl | rfl
  · exact i.push (h1 rfl)
  · exact i.push (getD_B32 i.cells _)
  · exact ⟨i.pc0, i.pc1, i.pop.len, i.pop.sk, wCells_B i.cells (rpopV_B i.sk), i.fr0, i.fr1⟩
  · exact i.two fun _ _ _ _ => held_b _
  · exact i.two fun _ _ _ _ => held_b _
  · exact i.two fun _ _ _ _ => held_b _
  · exact i.two fun _ _ => divV_B
  · exact i.two fun _ _ => min_B
  · exact i.two fun _ _ => max_B
  · exact i.two fun _ _ _ _ => truthV_B _
  · exact i.two fun _ _ _ _ => truthV_B _
  · exact i.pop.push (truthV_B _)
  · exact (i.pop.push (rpopV_B i.sk)).push (rpopV_B i.sk)
  · exact (i.pop.pop.push (rpopV_B i.sk)).push (rpopV_B i.pop.sk)
  · exact i.pop
  · exact i.push (by show B32 (if arg = 0 then (U16 r.i0 : Int) else U16 r.i1); split <;> (unfold B32; omega))
  · exact i.push (by have := h.fr0; have := h.fr1; unfold B32; omega)
  · exact ⟨(h18 (.inl rfl)).1, (h18 (.inl rfl)).2, i.len, i.sk, i.cells, i.fr0, i.fr1⟩
  · show okR n (rzero (incR r) arg)
    unfold rzero
    split
    · exact ⟨(h18 (.inr rfl)).1, (h18 (.inr rfl)).2, i.pop.len, i.pop.sk, i.cells, i.fr0, i.fr1⟩
    exact i.pop
  · exact ⟨i.pc0, i.pc1, i.len, i.sk, i.cells, i.fr0, i.fr1⟩
  · exact okR.push (r := ⟨r.st.wSeed (mixS r.st.seed), r.i0, r.i1, r.sk, r.pc + 1, r.won, r.bad⟩) ⟨i.pc0, i.pc1, i.len, i.sk, i.cells, i.fr0, i.fr1⟩ (by show B32 (rndV (mixS r.st.seed)); unfold B32; omega)
  exact i
theorem okR.bad {n : Int} {r : Rac} (h : okR n r) : okR n (badR r) := ⟨h.pc0, h.pc1, h.len, h.sk, h.cells, h.fr0, h.fr1⟩
theorem okR.run {code : List (Int × Int)} (hc : (chkP code).2 = 0) : ∀ (f : Nat) (r : Rac), okR code.length r → okR code.length (rrunM code f r)
  | 0, r, h => by
    unfold rrunM
    split
    · exact h.bad
    exact h
  | f + 1, r, h => by
    unfold rrunM
    split
    · rename_i hp
      have h0 := h.pc0
      have hmay := chk_all hc (i := r.pc.toNat) (by omega)
      have hd := h.do hp hmay
      split
      · exact okR.run hc f _ hd
      exact hd
    exact h
end
section

end
section
/-- the plain fold of the game over pairs of inputs -/
def foS (code : List (Int × Int)) (cap fuel : Int) (s : Sta) (f : Nat → UInt16 × UInt16) : Nat → Sta
  | 0 => s
  | n + 1 => (stepP code cap fuel (foS code cap fuel s f n) (f n).1 (f n).2).1
section
variable {code : List (Int × Int)} {cap fuel : Int} {s : Sta} {f g : Nat → UInt16 × UInt16}
theorem foS_congr : ∀ {n : Nat}, (∀ j, j < n → f j = g j) → foS code cap fuel s f n = foS code cap fuel s g n
  | 0, _ => rfl
  | n + 1, h => by
    show (stepP code cap fuel (foS code cap fuel s f n) (f n).1 (f n).2).1 = _
    rw [foS_congr fun j hj => h j (by omega), h n (by omega)]; rfl
theorem foS_B (hB : ∀ x ∈ s.cells, B32 x) : ∀ n, ∀ x ∈ (foS code cap fuel s f n).cells, B32 x
  | 0 => hB
  | n + 1 => step_B32 _ _ _ _ _ _ (foS_B hB n)
end
theorem start_B (seed : UInt32) : ∀ x ∈ (startS seed).cells, B32 x := fun x hx => by
  have : x = 0 := List.eq_of_mem_replicate hx
  rw [this]; exact B32_0
def pz (a b : List UInt16) (j : Nat) : UInt16 × UInt16 := (a.getD j 0, b.getD j 0)
def pzs (a b : List UInt16) (m : Nat) : List (UInt16 × UInt16) := (List.range m).map (pz a b)
theorem pzs_len {a b : List UInt16} {m : Nat} : (pzs a b m).length = m := by simp [pzs]
theorem pzs_succ {a b : List UInt16} {m : Nat} : pzs a b (m + 1) = pzs a b m ++ [pz a b m] := by simp [pzs, List.range_succ]
theorem take_succ' {a : List UInt16} {i : Nat} (h : i < a.length) : a.take (i + 1) = a.take i ++ [a.getD i 0] := by
  rw [List.take_add_one, List.getElem?_eq_getElem h, List.getD_eq_getElem?_getD, List.getElem?_eq_getElem h]; rfl
theorem getD_take' {a : List UInt16} {i j : Nat} (h : j < i) : (a.take i).getD j 0 = a.getD j 0 := by
  rw [List.getD_eq_getElem?_getD, List.getElem?_take_of_lt h, List.getD_eq_getElem?_getD]
/-- two players in a match that goes on, whoever tells first -/
structure Fold18 (code : List (Int × Int)) (cap fuel : Int) (seed : UInt32) (a b : List UInt16) (i k : Nat) (c : Ct) : Prop where
  go : Go18 code cap fuel 5 4 (a.take i) (b.take k) (pzs a b (min i k)) (foS code cap fuel (startS seed) (pz a b) (min i k)) (i + k + 1) c
  no : ∀ j, j < min i k → (foS code cap fuel (startS seed) (pz a b) j).over = false
  ia : i ≤ a.length
  kb : k ≤ b.length
  far : i ≤ k + 8 ∧ k ≤ i + 8
section
variable {code : List (Int × Int)} {cap fuel : Int} {seed : UInt32} {a b : List UInt16} {i k : Nat} {c : Ct}
theorem Fold18.m0 (h : Fold18 code cap fuel seed a b i k c) (hi : i < a.length) (hm : mayP18 c ⟨3, 5, 0, (i : Int), a.getD i 0, 0⟩ = 0) :
    (foS code cap fuel (startS seed) (pz a b) (min i k)).over = false ∧ i < k + 8 := by
  rw [may_in] at hm
  unfold mayInputP at hm
  simp only at hm
  have hact : actP c 5 = 0 := by
    by_cases q : actP c 5 = 0
    · exact q
    rw [if_pos q] at hm; exact hm
  have ho : (foS code cap fuel (startS seed) (pz a b) (min i k)).over = false := by
    rw [← h.go.st]
    cases q : c.st.over
    · rfl
    unfold actP at hact
    rw [h.go.opn, h.go.over, q, if_neg (by simp), if_pos (by simp)] at hact
    cases hact
  refine ⟨ho, ?_⟩
  have li : (a.take i).length = i := by rw [List.length_take]; omega
  have lk : (b.take k).length = k := by rw [List.length_take]; have := h.kb; omega
  rw [if_neg (by omega), h.go.seat0, if_pos rfl, h.go.in0, h.go.in1] at hm
  unfold winP at hm
  simp only [li, lk] at hm
  split at hm
  · cases hm
  split at hm
  · cases hm
  split at hm
  · cases hm
  split at hm
  · cases hm
  omega
theorem Fold18.m1 (h : Fold18 code cap fuel seed a b i k c) (hk : k < b.length) (hm : mayP18 c ⟨3, 4, 0, (k : Int), b.getD k 0, 0⟩ = 0) :
    (foS code cap fuel (startS seed) (pz a b) (min i k)).over = false ∧ k < i + 8 := by
  rw [may_in] at hm
  unfold mayInputP at hm
  simp only at hm
  have hact : actP c 4 = 0 := by
    by_cases q : actP c 4 = 0
    · exact q
    rw [if_pos q] at hm; exact hm
  have ho : (foS code cap fuel (startS seed) (pz a b) (min i k)).over = false := by
    rw [← h.go.st]
    cases q : c.st.over
    · rfl
    unfold actP at hact
    rw [h.go.opn, h.go.over, q, if_neg (by simp), if_pos (by simp)] at hact
    cases hact
  refine ⟨ho, ?_⟩
  have li : (a.take i).length = i := by rw [List.length_take]; have := h.ia; omega
  have lk : (b.take k).length = k := by rw [List.length_take]; omega
  rw [if_neg (by omega), h.go.seat1 (by omega), if_neg (by omega), h.go.in0, h.go.in1] at hm
  unfold winP at hm
  simp only [li, lk] at hm
  split at hm
  · cases hm
  split at hm
  · cases hm
  split at hm
  · cases hm
  split at hm
  · cases hm
  omega
theorem Fold18.in0 (h : Fold18 code cap fuel seed a b i k c) (hi : i < a.length) (hm : mayP18 c ⟨3, 5, 0, (i : Int), a.getD i 0, 0⟩ = 0) :
    Fold18 code cap fuel seed a b (i + 1) k ((inputP c ⟨3, 5, 0, (i : Int), a.getD i 0, 0⟩).add ⟨3, 5, 0, (i : Int), a.getD i 0, 0⟩) := by
  obtain ⟨ho, hf⟩ := h.m0 hi hm
  have g := h.go.in_0 (a.getD i 0) ⟨3, 5, 0, (i : Int), a.getD i 0, 0⟩ rfl rfl
  have kb := h.kb
  rw [← take_succ' hi, pzs_len] at g
  have li : (a.take (i + 1)).length = i + 1 := by rw [List.length_take]; omega
  have lk : (b.take k).length = k := by rw [List.length_take]; omega
  rw [li, lk] at g
  refine ⟨?_, ?_, hi, kb, ⟨by omega, by have := h.far; omega⟩⟩
  · by_cases q : i < k
    · rw [show min (i + 1) k - min i k = 1 by omega, cu1 ho (by rw [pzs_len, li, lk]; omega), pzs_len, show min i k = i by omega, getD_take' (by omega), getD_take' (by omega)] at g
      rw [show min (i + 1) k = i + 1 by omega, pzs_succ, show i + 1 + k + 1 = i + k + 1 + 1 by omega]
      exact g
    rw [show min (i + 1) k - min i k = 0 by omega, cu0] at g
    rw [show min (i + 1) k = min i k by omega, show i + 1 + k + 1 = i + k + 1 + 1 by omega]
    exact g
  intro j hj
  by_cases q : j < min i k
  · exact h.no j q
  rw [show j = min i k by omega]; exact ho
theorem Fold18.in1 (h : Fold18 code cap fuel seed a b i k c) (hk : k < b.length) (hm : mayP18 c ⟨3, 4, 0, (k : Int), b.getD k 0, 0⟩ = 0) :
    Fold18 code cap fuel seed a b i (k + 1) ((inputP c ⟨3, 4, 0, (k : Int), b.getD k 0, 0⟩).add ⟨3, 4, 0, (k : Int), b.getD k 0, 0⟩) := by
  obtain ⟨ho, hf⟩ := h.m1 hk hm
  have g := h.go.in_1 (by omega) (b.getD k 0) ⟨3, 4, 0, (k : Int), b.getD k 0, 0⟩ rfl rfl
  have ia := h.ia
  rw [← take_succ' hk, pzs_len] at g
  have li : (a.take i).length = i := by rw [List.length_take]; omega
  have lk : (b.take (k + 1)).length = k + 1 := by rw [List.length_take]; omega
  rw [li, lk] at g
  refine ⟨?_, ?_, ia, hk, ⟨by have := h.far; omega, by omega⟩⟩
  · by_cases q : k < i
    · rw [show min i (k + 1) - min i k = 1 by omega, cu1 ho (by rw [pzs_len, li, lk]; omega), pzs_len, show min i k = k by omega, getD_take' (by omega), getD_take' (by omega)] at g
      rw [show min i (k + 1) = k + 1 by omega, pzs_succ, show i + (k + 1) + 1 = i + k + 1 + 1 by omega]
      exact g
    rw [show min i (k + 1) - min i k = 0 by omega, cu0] at g
    rw [show min i (k + 1) = min i k by omega, show i + (k + 1) + 1 = i + k + 1 + 1 by omega]
    exact g
  intro j hj
  by_cases q : j < min i k
  · exact h.no j q
  rw [show j = min i k by omega]; exact ho
theorem Fold18.y0 (h : Fold18 code cap fuel seed a b i k c) (hg : gameP code cap fuel = 0) (ha : a.length ≤ 60) (hb : b.length ≤ 60) (hi : i < a.length) (hm : mayP18 c ⟨3, 5, 0, (i : Int), a.getD i 0, 0⟩ = 0) :
    Holds Try.prog 14 [.ptr (.arg 0) 0, .ev ⟨3, 5, 0, (i : Int), a.getD i 0, 0⟩] [(.arg 0, ctB (.arg 0) c)] (fun r h' => r = .int .i64 0 ∧ h' = [(.arg 0, ctB (.arg 0) ((inputP c ⟨3, 5, 0, (i : Int), a.getD i 0, 0⟩).add ⟨3, 5, 0, (i : Int), a.getD i 0, 0⟩))]) := by
  have := h.ia
  have := h.kb
  exact h.go.apply_in hg (foS_B (start_B _) _) (by rw [List.length_take]; omega) (by rw [List.length_take]; omega) (by rw [pzs_len]; omega) (by omega) 5 i _ hm (by rw [h.go.seat0]; omega)
theorem Fold18.y1 (h : Fold18 code cap fuel seed a b i k c) (hg : gameP code cap fuel = 0) (ha : a.length ≤ 60) (hb : b.length ≤ 60) (hk : k < b.length) (hm : mayP18 c ⟨3, 4, 0, (k : Int), b.getD k 0, 0⟩ = 0) :
    Holds Try.prog 14 [.ptr (.arg 0) 0, .ev ⟨3, 4, 0, (k : Int), b.getD k 0, 0⟩] [(.arg 0, ctB (.arg 0) c)] (fun r h' => r = .int .i64 0 ∧ h' = [(.arg 0, ctB (.arg 0) ((inputP c ⟨3, 4, 0, (k : Int), b.getD k 0, 0⟩).add ⟨3, 4, 0, (k : Int), b.getD k 0, 0⟩))]) := by
  have := h.ia
  have := h.kb
  exact h.go.apply_in hg (foS_B (start_B _) _) (by rw [List.length_take]; omega) (by rw [List.length_take]; omega) (by rw [pzs_len]; omega) (by omega) 4 k _ hm (by rw [h.go.seat1 (by omega)]; omega)
theorem Fold18.n0 (h : Fold18 code cap fuel seed a b i k c) (ha : a.length ≤ 60) (hb : b.length ≤ 60) (hm : mayP18 c ⟨3, 5, 0, (i : Int), a.getD i 0, 0⟩ ≠ 0) :
    Holds Try.prog 14 [.ptr (.arg 0) 0, .ev ⟨3, 5, 0, (i : Int), a.getD i 0, 0⟩] [(.arg 0, ctB (.arg 0) c)] (fun r h' => r = .int .i64 (mayP18 c ⟨3, 5, 0, (i : Int), a.getD i 0, 0⟩) ∧ h' = [(.arg 0, ctB (.arg 0) c)]) :=
  applyN3_h c 5 0 i 0 _ (by rw [h.go.in0, List.length_take]; omega) (by rw [h.go.in1, List.length_take]; omega) hm
theorem Fold18.n1 (h : Fold18 code cap fuel seed a b i k c) (ha : a.length ≤ 60) (hb : b.length ≤ 60) (hm : mayP18 c ⟨3, 4, 0, (k : Int), b.getD k 0, 0⟩ ≠ 0) :
    Holds Try.prog 14 [.ptr (.arg 0) 0, .ev ⟨3, 4, 0, (k : Int), b.getD k 0, 0⟩] [(.arg 0, ctB (.arg 0) c)] (fun r h' => r = .int .i64 (mayP18 c ⟨3, 4, 0, (k : Int), b.getD k 0, 0⟩) ∧ h' = [(.arg 0, ctB (.arg 0) c)]) :=
  applyN3_h c 4 0 k 0 _ (by rw [h.go.in0, List.length_take]; omega) (by rw [h.go.in1, List.length_take]; omega) hm
end
end
section
-- END ROUND
end
section
/-- the winner is a seat, or none -/
structure okW (r : Rac) : Prop where
  won : r.won ≤ 2
  win : r.st.win = 0
theorem okW.push {r : Rac} (h : okW r) {x : Int} : okW (rpushM r x) := by
  unfold rpushM
  split <;> exact ⟨h.won, h.win⟩
theorem okW.pop {r : Rac} (h : okW r) : okW (rpopM r) := ⟨h.won, h.win⟩
theorem okW.do {n op arg : Int} {r : Rac} (h : okW r) (hm : mayP op arg n = true) : okW (rdoM op arg r) := by
  obtain ⟨ho, h1, h2, h16, h18, h20⟩ := mayP_arg hm
  have i : okW (incR r) := ⟨h.won, h.win⟩
  unfold rdoM
  split
  · exact ⟨h.won, h.win⟩
  rcases op_cases ho with rfl | rfl | rfl | rfl | rfl | rfl | rfl | rfl | rfl | rfl | rfl | rfl | rfl | rfl | rfl | rfl | rfl | rfl | rfl | rfl | rfl | rfl
  · exact i.push
  · exact i.push
  · exact ⟨h.won, h.win⟩
  · exact i.pop.pop.push
  · exact i.pop.pop.push
  · exact i.pop.pop.push
  · exact i.pop.pop.push
  · exact i.pop.pop.push
  · exact i.pop.pop.push
  · exact i.pop.pop.push
  · exact i.pop.pop.push
  · exact i.pop.push
  · exact i.pop.push.push
  · exact i.pop.pop.push.push
  · exact i.pop
  · exact i.push
  · exact i.push
  · exact ⟨h.won, h.win⟩
  · show okW (rzero (incR r) arg)
    unfold rzero
    split <;> exact ⟨h.won, h.win⟩
  · exact ⟨(h20 rfl).2, h.win⟩
  · exact okW.push (r := ⟨r.st.wSeed (mixS r.st.seed), r.i0, r.i1, r.sk, r.pc + 1, r.won, r.bad⟩) ⟨h.won, h.win⟩
  exact i
theorem okW.run {code : List (Int × Int)} (hc : (chkP code).2 = 0) : ∀ (f : Nat) (r : Rac), 0 ≤ r.pc → okR code.length r → okW r → okW (rrunM code f r)
  | 0, r, _, _, h => by
    unfold rrunM
    split <;> exact ⟨h.won, h.win⟩
  | f + 1, r, h0, ho, h => by
    unfold rrunM
    split
    · rename_i hp
      have hmay := chk_all hc (i := r.pc.toNat) (by omega)
      have hd := h.do hmay
      have hd2 := ho.do hp hmay
      split
      · exact okW.run hc f _ hd2.pc0 hd2 hd
      exact hd
    exact h
theorem step_win (code : List (Int × Int)) (cap fuel : Int) (s : Sta) (i0 i1 : UInt16) (hB : ∀ x ∈ s.cells, B32 x) : 0 ≤ (stepP code cap fuel s i0 i1).1.win ∧ (stepP code cap fuel s i0 i1).1.win ≤ 2 := by
  unfold stepP
  split
  · exact ⟨Int.le_refl _, by show (0 : Int) ≤ 2; omega⟩
  split
  · exact ⟨Int.le_refl _, by show (0 : Int) ≤ 2; omega⟩
  split
  · exact ⟨Int.le_refl _, by show (0 : Int) ≤ 2; omega⟩
  rename_i hg hi ho
  have hg' : gameP code cap fuel = 0 := Decidable.byContradiction hg
  obtain ⟨g1, g2, g3, g4, g5⟩ := gameP_spec hg'
  have hi' : isP s = true := by cases q : isP s; exact absurd (.inl q) hi; rfl
  have ho' : s.over = false := by cases q : s.over; rfl; exact absurd (.inl q) ho
  obtain ⟨s1, s2, s3, s4, s5⟩ := isP_spec hi'
  have hw : s.win = 0 := by rcases s5 with h | h; rw [ho'] at h; cases h; exact h
  show 0 ≤ (stepM code cap fuel.toNat s i0 i1).win ∧ (stepM code cap fuel.toNat s i0 i1).win ≤ 2
  rw [← step_eq g1 ho' hw (by have := fun h => ho (.inr h); omega)]
  have hr := okW.run g1 fuel.toNat (rac0 s i0 i1) (by show (0 : Int) ≤ 0; omega) ⟨by show (0 : Int) ≤ 0; omega, by show (0 : Int) ≤ _; omega, by show 0 ≤ 32; omega, fun x hx => (by cases hx), hB, s1, s2⟩ ⟨by show (-1 : Int) ≤ 2; omega, hw⟩
  unfold rstepM
  generalize rrunM code fuel.toNat (rac0 s i0 i1) = r at hr
  have hu : okW (undoR s r) := by
    unfold undoR
    split
    · exact ⟨by show (-1 : Int) ≤ 2; omega, hr.win⟩
    exact hr
  generalize undoR s r = u at hu
  unfold refE
  have w := hu.win
  have w2 := hu.won
  split
  · rename_i h; exact ⟨h, w2⟩
  split
  · split
    · exact ⟨by show (0 : Int) ≤ 2; omega, by show (2 : Int) ≤ 2; omega⟩
    split
    · exact ⟨by show (0 : Int) ≤ 1; omega, by show (1 : Int) ≤ 2; omega⟩
    exact ⟨by show (0 : Int) ≤ u.st.win; omega, by show u.st.win ≤ 2; omega⟩
  exact ⟨by show (0 : Int) ≤ u.st.win; omega, by show u.st.win ≤ 2; omega⟩
theorem foS_win {code : List (Int × Int)} {cap fuel : Int} {seed : UInt32} {f : Nat → UInt16 × UInt16} : ∀ n, 0 ≤ (foS code cap fuel (startS seed) f n).win ∧ (foS code cap fuel (startS seed) f n).win ≤ 2
  | 0 => ⟨Int.le_refl _, by show (0 : Int) ≤ 2; omega⟩
  | n + 1 => step_win _ _ _ _ _ _ (foS_B (start_B seed) n)
/-- what holds of a match -/
structure Inv18 (c : Ct) : Prop where
  g : gameP c.code c.cap c.fuel = 0
  st : c.st = foS c.code c.cap c.fuel (startS c.seed) (pz c.in0 c.in1) c.pairs.length
  pairs : c.pairs = pzs c.in0 c.in1 c.pairs.length
  no : ∀ j, j < c.pairs.length → (foS c.code c.cap c.fuel (startS c.seed) (pz c.in0 c.in1) j).over = false
  le : c.pairs.length ≤ min c.in0.length c.in1.length
  up : c.pairs.length = min c.in0.length c.in1.length ∨ c.st.over = true
  e0 : c.in0.length ≤ c.events.length
  e1 : c.in1.length ≤ c.events.length
  cl : c.opn = false → c.in0 = [] ∧ c.in1 = []
  l0 : 0 ≤ c.l0 ∧ c.l0 ≤ 100
  l1 : 0 ≤ c.l1 ∧ c.l1 ≤ 100
theorem Inv18.win {c : Ct} (h : Inv18 c) : 0 ≤ c.st.win ∧ c.st.win ≤ 2 := by rw [h.st]; exact foS_win _
theorem Inv18.B {c : Ct} (h : Inv18 c) : ∀ x ∈ c.st.cells, B32 x := by rw [h.st]; exact foS_B (start_B _) _
theorem inv_new {code : List (Int × Int)} {cap fuel : Int} (hg : gameP code cap fuel = 0) : Inv18 (ctNew code cap fuel) :=
  ⟨hg, rfl, rfl, fun j h => absurd h (Nat.not_lt_zero _), Nat.le_refl _, .inl rfl, Nat.le_refl _, Nat.le_refl _, fun _ => ⟨rfl, rfl⟩, by show (0 : Int) ≤ 0 ∧ (0 : Int) ≤ 100; omega, by show (0 : Int) ≤ 0 ∧ (0 : Int) ≤ 100; omega⟩
theorem Inv18.open {c : Ct} (h : Inv18 c) (ho : c.opn = false) (e : Ev) : Inv18 ((openP c e).add e) := by
  obtain ⟨i0, i1⟩ := h.cl ho
  have hl := h.le
  rw [i0] at hl
  have hp : c.pairs = [] := List.eq_nil_of_length_eq_zero (by simpa using hl)
  refine ⟨h.g, ?_, ?_, ?_, ?_, ?_, ?_, ?_, (fun q => absurd q (by show ¬ (true = false); simp)), h.l0, h.l1⟩
  · show startS _ = foS c.code c.cap c.fuel (startS _) (pz c.in0 c.in1) c.pairs.length
    rw [hp]; rfl
  · show c.pairs = pzs c.in0 c.in1 c.pairs.length
    rw [hp]; rfl
  · intro j hj
    have : j < c.pairs.length := hj
    rw [hp] at this; exact absurd this (Nat.not_lt_zero _)
  · exact h.le
  · show c.pairs.length = min c.in0.length c.in1.length ∨ _
    rw [hp, i0]; exact .inl rfl
  · show c.in0.length ≤ (c.events ++ [e]).length
    rw [i0]; exact Nat.zero_le _
  show c.in1.length ≤ (c.events ++ [e]).length
  rw [i1]; exact Nat.zero_le _
theorem Inv18.over {c : Ct} (h : Inv18 c) (w y : Int) (e : Ev) : Inv18 (({ c with over := true, winner := w, why := y } : Ct).add e) :=
  ⟨h.g, h.st, h.pairs, h.no, h.le, h.up, by show c.in0.length ≤ (c.events ++ [e]).length; rw [List.length_append]; have := h.e0; omega, by show c.in1.length ≤ (c.events ++ [e]).length; rw [List.length_append]; have := h.e1; omega, h.cl, h.l0, h.l1⟩
theorem Inv18.lives {c : Ct} (h : Inv18 c) (x y : Int) (hx : 0 ≤ x ∧ x ≤ 100) (hy : 0 ≤ y ∧ y ≤ 100) (e : Ev) : Inv18 (({ c with l0 := x, l1 := y } : Ct).add e) :=
  ⟨h.g, h.st, h.pairs, h.no, h.le, h.up, by show c.in0.length ≤ (c.events ++ [e]).length; rw [List.length_append]; have := h.e0; omega, by show c.in1.length ≤ (c.events ++ [e]).length; rw [List.length_append]; have := h.e1; omega, h.cl, hx, hy⟩
theorem getD_app {a b : List UInt16} {j : Nat} (h : j < a.length) : (a ++ b).getD j 0 = a.getD j 0 := by
  rw [List.getD_eq_getElem?_getD, List.getElem?_append_left h, ← List.getD_eq_getElem?_getD]
/-- longer rows, the same pairs -/
theorem Inv18.grow {c : Ct} (h : Inv18 c) (ho : c.st.over = false) (a b : List UInt16) (e : Ev) (hab : (∃ x, a = c.in0 ++ [x] ∧ b = c.in1) ∨ (∃ x, a = c.in0 ∧ b = c.in1 ++ [x])) (hop : c.opn = true) :
    Inv18 ((goP { c with in0 := a, in1 := b }).add e) := by
  have hm : c.pairs.length = min c.in0.length c.in1.length := by
    rcases h.up with q | q
    · exact q
    rw [ho] at q; cases q
  have le := h.le
  have la : c.in0.length ≤ a.length ∧ a.length ≤ c.in0.length + 1 := by rcases hab with ⟨x, rfl, rfl⟩ | ⟨x, rfl, rfl⟩ <;> simp
  have lb : c.in1.length ≤ b.length ∧ b.length ≤ c.in1.length + 1 := by rcases hab with ⟨x, rfl, rfl⟩ | ⟨x, rfl, rfl⟩ <;> simp
  have lab : min a.length b.length ≤ min c.in0.length c.in1.length + 1 := by rcases hab with ⟨x, rfl, rfl⟩ | ⟨x, rfl, rfl⟩ <;> simp <;> omega
  have hz : ∀ j, j < c.pairs.length → pz c.in0 c.in1 j = pz a b j := by
    intro j hj
    unfold pz
    rcases hab with ⟨x, rfl, rfl⟩ | ⟨x, rfl, rfl⟩
    · rw [getD_app (by omega)]
    rw [getD_app (by omega)]
  have hf : ∀ n, n ≤ c.pairs.length → foS c.code c.cap c.fuel (startS c.seed) (pz c.in0 c.in1) n = foS c.code c.cap c.fuel (startS c.seed) (pz a b) n := fun n hn => foS_congr fun j hj => hz j (by omega)
  have hps : c.pairs = pzs a b c.pairs.length := by
    refine h.pairs.trans ?_
    unfold pzs
    exact List.map_congr_left fun j hj => hz j (by simpa using hj)
  have ev0 : c.in0.length ≤ c.events.length := h.e0
  have ev1 : c.in1.length ≤ c.events.length := h.e1
  by_cases q : min a.length b.length = c.pairs.length
  · have hcu : cuP c.code c.cap c.fuel a b (min a.length b.length - c.pairs.length) c.pairs c.st = (c.pairs, c.st) := by rw [q, Nat.sub_self]; rfl
    have hgo : goP { c with in0 := a, in1 := b } = { c with in0 := a, in1 := b } := by
      unfold goP; simp only [hcu]
    rw [hgo]
    refine ⟨h.g, h.st.trans (hf _ (Nat.le_refl _)), hps, fun j hj => ?_, ?_, .inl q.symm, ?_, ?_, ?_, h.l0, h.l1⟩
    · have := h.no j hj; rw [hf j (Nat.le_of_lt hj)] at this; exact this
    · show c.pairs.length ≤ min a.length b.length; omega
    · show a.length ≤ (c.events ++ [e]).length; rw [List.length_append]; simp; omega
    · show b.length ≤ (c.events ++ [e]).length; rw [List.length_append]; simp; omega
    intro w; rw [show c.opn = false from w] at hop; cases hop
  have q1 : min a.length b.length - c.pairs.length = 1 := by omega
  have hcu : cuP c.code c.cap c.fuel a b (min a.length b.length - c.pairs.length) c.pairs c.st = (c.pairs ++ [pz a b c.pairs.length], (stepP c.code c.cap c.fuel c.st (pz a b c.pairs.length).1 (pz a b c.pairs.length).2).1) := by
    rw [q1]
    unfold cuP
    rw [if_pos ⟨ho, by omega⟩]
    rfl
  have hgo : goP { c with in0 := a, in1 := b } = { c with in0 := a, in1 := b, pairs := c.pairs ++ [pz a b c.pairs.length], st := (stepP c.code c.cap c.fuel c.st (pz a b c.pairs.length).1 (pz a b c.pairs.length).2).1 } := by
    unfold goP; simp only [hcu]
  rw [hgo]
  have hlen : (c.pairs ++ [pz a b c.pairs.length]).length = c.pairs.length + 1 := by simp
  have hst : (stepP c.code c.cap c.fuel c.st (pz a b c.pairs.length).1 (pz a b c.pairs.length).2).1 = foS c.code c.cap c.fuel (startS c.seed) (pz a b) (c.pairs.length + 1) := by
    show _ = (stepP c.code c.cap c.fuel (foS c.code c.cap c.fuel (startS c.seed) (pz a b) c.pairs.length) (pz a b c.pairs.length).1 (pz a b c.pairs.length).2).1
    rw [← hf _ (Nat.le_refl _), ← h.st]
  refine ⟨h.g, ?_, ?_, fun j hj => ?_, ?_, .inl ?_, ?_, ?_, ?_, h.l0, h.l1⟩
  · show (stepP c.code c.cap c.fuel c.st (pz a b c.pairs.length).1 (pz a b c.pairs.length).2).1 = foS c.code c.cap c.fuel (startS c.seed) (pz a b) (c.pairs ++ [pz a b c.pairs.length]).length
    rw [hlen]; exact hst
  · show c.pairs ++ [pz a b c.pairs.length] = pzs a b (c.pairs ++ [pz a b c.pairs.length]).length
    rw [hlen, pzs_succ, ← hps]
  · have hj' : j < (c.pairs ++ [pz a b c.pairs.length]).length := hj
    rw [hlen] at hj'
    show (foS c.code c.cap c.fuel (startS c.seed) (pz a b) j).over = false
    rw [← hf j (by omega)]
    by_cases w : j < c.pairs.length
    · exact h.no j w
    rw [show j = c.pairs.length by omega, ← h.st]; exact ho
  · show (c.pairs ++ [pz a b c.pairs.length]).length ≤ min a.length b.length; rw [hlen]; omega
  · show (c.pairs ++ [pz a b c.pairs.length]).length = min a.length b.length; rw [hlen]; omega
  · show a.length ≤ (c.events ++ [e]).length; rw [List.length_append]; simp; omega
  · show b.length ≤ (c.events ++ [e]).length; rw [List.length_append]; simp; omega
  intro w; rw [show c.opn = false from w] at hop; cases hop
/-- what an event makes of a match -/
def doP (c : Ct) (e : Ev) : Ct := if e.kind = 1 then openP c e else if e.kind = 2 then joinP c e else if e.kind = 3 then inputP c e else if e.kind = 4 then forfeitP c e else resultP c e
def nextP (c : Ct) (e : Ev) : Ct := if mayP18 c e = 0 then (doP c e).add e else c
theorem may_kind {c : Ct} {e : Ev} (h : mayP18 c e = 0) : (1 ≤ e.kind ∧ e.kind ≤ 5) ∧ bareB e = true ∧ may1P c e = 0 := by
  unfold mayP18 at h
  split at h
  · cases h
  split at h
  · rename_i h1 h2; exact ⟨by omega, h2, h⟩
  cases h
theorem act_0 {c : Ct} {p : Int} (h : actP c p = 0) : c.opn = true ∧ c.over = false ∧ c.st.over = false ∧ 0 ≤ seatP c p := by
  have hs := act_seat h
  unfold actP at h
  split at h
  · cases h
  rename_i h1
  split at h
  · cases h
  rename_i h2
  cases q1 : c.opn
  · exact absurd q1 h1
  cases q2 : c.over
  · cases q3 : c.st.over
    · exact ⟨rfl, rfl, rfl, hs⟩
    exact absurd (by rw [q3]; simp) h2
  exact absurd (by rw [q2]; simp) h2
theorem mayJoin_0 {c : Ct} {e : Ev} (h : mayJoinP c e = 0) : actP c e.player = 0 ∧ (if seatP c e.player = 0 then c.l0 else c.l1) < 100 := by
  unfold mayJoinP at h
  split at h
  · rename_i h1; exact absurd h h1
  rename_i h1
  by_cases h2 : 100 ≤ (if seatP c e.player = 0 then c.l0 else c.l1)
  · rw [if_pos h2] at h; cases h
  exact ⟨Decidable.byContradiction h1, by omega⟩
theorem mayInput_0 {c : Ct} {e : Ev} (h : mayInputP c e = 0) : actP c e.player = 0 := by
  unfold mayInputP at h
  split at h
  · rename_i h1; exact absurd h h1
  rename_i h1; exact Decidable.byContradiction h1
theorem Inv18.next {c : Ct} (h : Inv18 c) (e : Ev) : Inv18 (nextP c e) := by
  unfold nextP
  split
  · rename_i hm
    obtain ⟨hk, hb, h1⟩ := may_kind hm
    unfold may1P at h1
    unfold doP
    rcases (by omega : e.kind = 1 ∨ e.kind = 2 ∨ e.kind = 3 ∨ e.kind = 4 ∨ e.kind = 5) with k | k | k | k | k
    · rw [if_pos k] at h1 ⊢
      refine h.open ?_ e
      unfold mayOpenP at h1
      cases q : c.opn
      · rfl
      rw [if_pos q] at h1; cases h1
    · rw [if_neg (by omega), if_pos k] at h1 ⊢
      obtain ⟨h2, h3⟩ := mayJoin_0 h1
      unfold joinP
      have a0 := h.l0
      have a1 := h.l1
      split
      · rename_i hs; rw [if_pos hs] at h3; exact h.lives (c.l0 + 1) c.l1 (by omega) a1 e
      rename_i hs; rw [if_neg hs] at h3; exact h.lives c.l0 (c.l1 + 1) a0 (by omega) e
    · rw [if_neg (by omega), if_neg (by omega), if_pos k] at h1 ⊢
      obtain ⟨o1, o2, o3, o4⟩ := act_0 (mayInput_0 h1)
      unfold inputP inputP0
      split
      · exact h.grow o3 _ _ e (.inl ⟨_, rfl, rfl⟩) o1
      exact h.grow o3 _ _ e (.inr ⟨_, rfl, rfl⟩) o1
    · rw [if_neg (by omega), if_neg (by omega), if_neg (by omega), if_pos k]
      exact h.over _ _ e
    rw [if_neg (by omega), if_neg (by omega), if_neg (by omega), if_neg (by omega)]
    exact h.over _ _ e
  exact h
theorem next_events {c : Ct} {e : Ev} : (nextP c e).events.length ≤ c.events.length + 1 := by
  unfold nextP
  split
  · show ((doP c e).events ++ [e]).length ≤ _
    have : (doP c e).events = c.events := by
      unfold doP openP joinP inputP goP inputP0 forfeitP resultP
      repeat' split
      all_goals rfl
    rw [List.length_append, this]; simp
  omega
theorem ev_eq {e : Ev} {k : Int} (h : e.kind = k) : e = ⟨k, e.player, e.other, e.frame, e.inp, e.n⟩ := by cases e; simp only at h; subst h; rfl
end
section
set_option maxRecDepth 20000
def rfC (rg : C) (cap : Int) (fuel : Int) (re : C) (r0 : C) (r1 : C) (p0 : Int) (p1 : Int) (seed : UInt32) (l0 : Int) (l1 : Int) (opn : Bool) (over : Bool) (winner : Int) (why : Int) : List C := [rg, .val (.int .i64 cap), .val (.int .i64 fuel), re, r0, r1, .val (.int .i64 p0), .val (.int .i64 p1), .val (.int .u32 (U32 seed)), .val (.int .i64 l0), .val (.int .i64 l1), .val (.bool opn), .val (.bool over), .val (.int .i64 winner), .val (.int .i64 why)]
section
variable {rg : C} {cap : Int} {fuel : Int} {re : C} {r0 : C} {r1 : C} {p0 : Int} {p1 : Int} {seed : UInt32} {l0 : Int} {l1 : Int} {opn : Bool} {over : Bool} {winner : Int} {why : Int} {V' : V → Prop} {K : C → Prop} {ks : List Id} {m : Nat}
@[go_sem 1300] theorem rf_s_rg {x : C} : spl (rfC rg cap fuel re r0 r1 p0 p1 seed l0 l1 opn over winner why) 0 [x] = (rfC (x) cap fuel re r0 r1 p0 p1 seed l0 l1 opn over winner why) := rfl
@[go_sem 1300] theorem rf_s_cap {x : Int} : spl (rfC rg cap fuel re r0 r1 p0 p1 seed l0 l1 opn over winner why) 1 [.val (.int .i64 x)] = (rfC rg (x) fuel re r0 r1 p0 p1 seed l0 l1 opn over winner why) := rfl
@[go_sem 1300] theorem rf_s_fuel {x : Int} : spl (rfC rg cap fuel re r0 r1 p0 p1 seed l0 l1 opn over winner why) 2 [.val (.int .i64 x)] = (rfC rg cap (x) re r0 r1 p0 p1 seed l0 l1 opn over winner why) := rfl
@[go_sem 1300] theorem rf_s_re {x : C} : spl (rfC rg cap fuel re r0 r1 p0 p1 seed l0 l1 opn over winner why) 3 [x] = (rfC rg cap fuel (x) r0 r1 p0 p1 seed l0 l1 opn over winner why) := rfl
@[go_sem 1300] theorem rf_s_r0 {x : C} : spl (rfC rg cap fuel re r0 r1 p0 p1 seed l0 l1 opn over winner why) 4 [x] = (rfC rg cap fuel re (x) r1 p0 p1 seed l0 l1 opn over winner why) := rfl
@[go_sem 1300] theorem rf_s_r1 {x : C} : spl (rfC rg cap fuel re r0 r1 p0 p1 seed l0 l1 opn over winner why) 5 [x] = (rfC rg cap fuel re r0 (x) p0 p1 seed l0 l1 opn over winner why) := rfl
@[go_sem 1300] theorem rf_s_p0 {x : Int} : spl (rfC rg cap fuel re r0 r1 p0 p1 seed l0 l1 opn over winner why) 6 [.val (.int .i64 x)] = (rfC rg cap fuel re r0 r1 (x) p1 seed l0 l1 opn over winner why) := rfl
@[go_sem 1300] theorem rf_s_p1 {x : Int} : spl (rfC rg cap fuel re r0 r1 p0 p1 seed l0 l1 opn over winner why) 7 [.val (.int .i64 x)] = (rfC rg cap fuel re r0 r1 p0 (x) seed l0 l1 opn over winner why) := rfl
@[go_sem 1300] theorem rf_s_seed {x : UInt32} : spl (rfC rg cap fuel re r0 r1 p0 p1 seed l0 l1 opn over winner why) 8 [.val (.int .u32 (U32 x))] = (rfC rg cap fuel re r0 r1 p0 p1 (x) l0 l1 opn over winner why) := rfl
@[go_sem 1300] theorem rf_s_l0 {x : Int} : spl (rfC rg cap fuel re r0 r1 p0 p1 seed l0 l1 opn over winner why) 9 [.val (.int .i64 x)] = (rfC rg cap fuel re r0 r1 p0 p1 seed (x) l1 opn over winner why) := rfl
@[go_sem 1300] theorem rf_s_l1 {x : Int} : spl (rfC rg cap fuel re r0 r1 p0 p1 seed l0 l1 opn over winner why) 10 [.val (.int .i64 x)] = (rfC rg cap fuel re r0 r1 p0 p1 seed l0 (x) opn over winner why) := rfl
@[go_sem 1300] theorem rf_s_opn {x : Bool} : spl (rfC rg cap fuel re r0 r1 p0 p1 seed l0 l1 opn over winner why) 11 [.val (.bool x)] = (rfC rg cap fuel re r0 r1 p0 p1 seed l0 l1 (x) over winner why) := rfl
@[go_sem 1300] theorem rf_s_over {x : Bool} : spl (rfC rg cap fuel re r0 r1 p0 p1 seed l0 l1 opn over winner why) 12 [.val (.bool x)] = (rfC rg cap fuel re r0 r1 p0 p1 seed l0 l1 opn (x) winner why) := rfl
@[go_sem 1300] theorem rf_s_winner {x : Int} : spl (rfC rg cap fuel re r0 r1 p0 p1 seed l0 l1 opn over winner why) 13 [.val (.int .i64 x)] = (rfC rg cap fuel re r0 r1 p0 p1 seed l0 l1 opn over (x) why) := rfl
@[go_sem 1300] theorem rf_s_why {x : Int} : spl (rfC rg cap fuel re r0 r1 p0 p1 seed l0 l1 opn over winner why) 14 [.val (.int .i64 x)] = (rfC rg cap fuel re r0 r1 p0 p1 seed l0 l1 opn over winner (x)) := rfl
end
end
section

end
section
theorem res_win {s : Sta} {cap : Int} (h : 0 ≤ s.win ∧ s.win ≤ 2) : (resP s cap).1 = 0 ∨ (resP s cap).1 = 1 := by
  unfold resP
  split
  · exact .inl rfl
  show (if s.win = 2 then 0 else s.win) = 0 ∨ (if s.win = 2 then 0 else s.win) = 1
  split <;> omega
end
section
theorem next_case {c : Ct} {e : Ev} (P : Ct → Prop) (hN : mayP18 c e ≠ 0 → P c) (h1 : mayP18 c e = 0 → e.kind = 1 → c.opn = false → mayOpenP c e = 0 → P ((openP c e).add e)) (h2 : mayP18 c e = 0 → e.kind = 2 → actP c e.player = 0 → P ((joinP c e).add e))
    (h3 : mayP18 c e = 0 → e.kind = 3 → actP c e.player = 0 → P ((inputP c e).add e)) (h4 : mayP18 c e = 0 → e.kind = 4 → actP c e.player = 0 → P ((forfeitP c e).add e)) (h5 : mayP18 c e = 0 → e.kind = 5 → mayResultP c e = 0 → P ((resultP c e).add e)) : P (nextP c e) := by
  unfold nextP
  split
  · rename_i hm
    obtain ⟨hk, hb, hy⟩ := may_kind hm
    unfold may1P at hy
    unfold doP
    rcases (by omega : e.kind = 1 ∨ e.kind = 2 ∨ e.kind = 3 ∨ e.kind = 4 ∨ e.kind = 5) with k | k | k | k | k
    · rw [if_pos k] at hy ⊢
      refine h1 hm k ?_ hy
      unfold mayOpenP at hy
      cases q : c.opn
      · rfl
      rw [if_pos q] at hy; cases hy
    · rw [if_neg (by omega), if_pos k] at hy ⊢
      exact h2 hm k (mayJoin_0 hy).1
    · rw [if_neg (by omega), if_neg (by omega), if_pos k] at hy ⊢
      exact h3 hm k (mayInput_0 hy)
    · rw [if_neg (by omega), if_neg (by omega), if_neg (by omega), if_pos k] at hy ⊢
      exact h4 hm k hy
    rw [if_neg (by omega), if_neg (by omega), if_neg (by omega), if_neg (by omega)] at hy ⊢
    exact h5 hm k hy
  rename_i hm; exact hN hm
theorem join_f (c : Ct) (e : Ev) : (joinP c e).code = c.code ∧ (joinP c e).cap = c.cap ∧ (joinP c e).fuel = c.fuel ∧ (joinP c e).p0 = c.p0 ∧ (joinP c e).p1 = c.p1 ∧ (joinP c e).opn = c.opn ∧ (joinP c e).over = c.over ∧ (joinP c e).why = c.why ∧ (joinP c e).winner = c.winner ∧ (joinP c e).st = c.st ∧ (joinP c e).pairs = c.pairs ∧ (joinP c e).events = c.events := by
  unfold joinP; split <;> exact ⟨rfl, rfl, rfl, rfl, rfl, rfl, rfl, rfl, rfl, rfl, rfl, rfl⟩
theorem input_f (c : Ct) (e : Ev) : (inputP c e).code = c.code ∧ (inputP c e).cap = c.cap ∧ (inputP c e).fuel = c.fuel ∧ (inputP c e).p0 = c.p0 ∧ (inputP c e).p1 = c.p1 ∧ (inputP c e).opn = c.opn ∧ (inputP c e).over = c.over ∧ (inputP c e).why = c.why ∧ (inputP c e).winner = c.winner ∧ (inputP c e).events = c.events := by
  unfold inputP goP inputP0; split <;> exact ⟨rfl, rfl, rfl, rfl, rfl, rfl, rfl, rfl, rfl, rfl⟩
/-- the game stays -/
theorem next_game (c : Ct) (e : Ev) : (nextP c e).code = c.code ∧ (nextP c e).cap = c.cap ∧ (nextP c e).fuel = c.fuel := by
  refine next_case (fun d => d.code = c.code ∧ d.cap = c.cap ∧ d.fuel = c.fuel) (fun _ => ⟨rfl, rfl, rfl⟩) (fun _ _ _ _ => ⟨rfl, rfl, rfl⟩) (fun _ _ _ => ?_) (fun _ _ _ => ?_) (fun _ _ _ => ⟨rfl, rfl, rfl⟩) (fun _ _ _ => ⟨rfl, rfl, rfl⟩)
  · have h := join_f c e; exact ⟨h.1, h.2.1, h.2.2.1⟩
  have h := input_f c e; exact ⟨h.1, h.2.1, h.2.2.1⟩
/-- of a match without a result -/
structure Nr (c : Ct) : Prop where
  why : c.over = true → c.why = 3
  won : c.winner = 0 ∨ c.winner = 1
  clo : c.opn = false → c.st.over = false ∧ c.over = false ∧ c.events = []
  nor : ∀ e ∈ c.events, e.kind ≠ 5
theorem mem_add {c : Ct} {e x : Ev} (h : x ∈ c.events ++ [e]) : x ∈ c.events ∨ x = e := by
  rcases List.mem_append.1 h with q | q
  · exact .inl q
  exact .inr (by simpa using q)
theorem Nr.next {c : Ct} (h : Nr c) {e : Ev} (hk : e.kind ≠ 5) : Nr (nextP c e) := by
  refine next_case (fun d => Nr d) (fun _ => h) (fun _ _ q _ => ?_) (fun _ _ q => ?_) (fun _ _ q => ?_) (fun _ _ q => ?_) (fun _ q _ => absurd q hk)
  · obtain ⟨c1, c2, c3⟩ := h.clo q
    refine ⟨fun o => ?_, h.won, fun o => (by cases o), fun x hx => ?_⟩
    · rw [show c.over = true from o] at c2; cases c2
    rcases mem_add (c := c) hx with q | q
    · exact h.nor x q
    rw [q]; exact hk
  · obtain ⟨f1, f2, f3, f4, f5, f6, f7, f8, f9, f10, f11, f12⟩ := join_f c e
    refine ⟨fun o => ?_, ?_, fun o => ?_, fun x hx => ?_⟩
    · show (joinP c e).why = 3
      rw [f8]; exact h.why (f7.symm.trans o)
    · show (joinP c e).winner = 0 ∨ (joinP c e).winner = 1
      rw [f9]; exact h.won
    · have := (act_0 q).1
      rw [← f6] at this; rw [show (joinP c e).opn = false from o] at this; cases this
    have hx' : x ∈ (joinP c e).events ++ [e] := hx
    rw [f12] at hx'
    rcases mem_add (c := c) hx' with q | q
    · exact h.nor x q
    rw [q]; exact hk
  · obtain ⟨f1, f2, f3, f4, f5, f6, f7, f8, f9, f12⟩ := input_f c e
    refine ⟨fun o => ?_, ?_, fun o => ?_, fun x hx => ?_⟩
    · show (inputP c e).why = 3
      rw [f8]; exact h.why (f7.symm.trans o)
    · show (inputP c e).winner = 0 ∨ (inputP c e).winner = 1
      rw [f9]; exact h.won
    · have := (act_0 q).1
      rw [← f6] at this; rw [show (inputP c e).opn = false from o] at this; cases this
    have hx' : x ∈ (inputP c e).events ++ [e] := hx
    rw [f12] at hx'
    rcases mem_add (c := c) hx' with q | q
    · exact h.nor x q
    rw [q]; exact hk
  obtain ⟨o1, o2, o3, o4⟩ := act_0 q
  refine ⟨fun _ => rfl, ?_, fun o => ?_, fun x hx => ?_⟩
  · show 1 - seatP c e.player = 0 ∨ 1 - seatP c e.player = 1
    rcases seat_cases c e.player o4 with s | s <;> rw [s]
    · exact .inr rfl
    exact .inl rfl
  · rw [show c.opn = false from o] at o1; cases o1
  rcases mem_add (c := c) hx with q | q
  · exact h.nor x q
  rw [q]; exact hk
/-- the match behind a row of events but results -/
def ovC (c : Ct) : List Ev → Ct
  | [] => c
  | e :: l => if e.kind = 5 then ovC c l else ovC (nextP c e) l
/-- the first that errs, and its error -/
def ovE (c : Ct) (i : Nat) : List Ev → Int × Int
  | [] => (0, 0)
  | e :: l => if e.kind = 5 then ovE c (i + 1) l else if mayP18 c e = 0 then ovE (nextP c e) (i + 1) l else ((i : Int), mayP18 c e)
theorem ovC_cons (c : Ct) (e : Ev) (l : List Ev) : ovC c (e :: l) = if e.kind = 5 then ovC c l else ovC (nextP c e) l := rfl
theorem ovE_cons (c : Ct) (i : Nat) (e : Ev) (l : List Ev) : ovE c i (e :: l) = if e.kind = 5 then ovE c (i + 1) l else if mayP18 c e = 0 then ovE (nextP c e) (i + 1) l else ((i : Int), mayP18 c e) := rfl
theorem ovC_app : ∀ {a b : List Ev} {c : Ct}, ovC c (a ++ b) = ovC (ovC c a) b
  | [], _, _ => rfl
  | e :: a, b, c => by
    show ovC c (e :: (a ++ b)) = ovC (ovC c (e :: a)) b
    rw [ovC_cons, ovC_cons]
    split
    · exact ovC_app
    exact ovC_app
theorem ovE_app : ∀ {a b : List Ev} {c : Ct} {i : Nat}, (ovE c i a).2 = 0 → ovE c i (a ++ b) = ovE (ovC c a) (i + a.length) b
  | [], _, _, _, _ => rfl
  | e :: a, b, c, i, h => by
    have en : i + (e :: a).length = i + 1 + a.length := by simp only [List.length_cons]; omega
    rw [en]
    show ovE c i (e :: (a ++ b)) = ovE (ovC c (e :: a)) (i + 1 + a.length) b
    by_cases q : e.kind = 5
    · have h' : (ovE c (i + 1) a).2 = 0 := by rw [ovE_cons] at h; rw [if_pos q] at h; exact h
      have e1 : ovC c (e :: a) = ovC c a := by rw [ovC_cons, if_pos q]
      rw [e1, ovE_cons, if_pos q, ovE_app h']
    have e1 : ovC c (e :: a) = ovC (nextP c e) a := by rw [ovC_cons, if_neg q]
    rw [ovE_cons] at h
    rw [if_neg q] at h
    split at h
    · rename_i q2
      rw [e1, ovE_cons, if_neg q, if_pos q2, ovE_app h]
    rename_i q2; exact absurd h q2
theorem ovE_bad {a b : List Ev} {e : Ev} {c : Ct} (h : (ovE c 0 a).2 = 0) (hk : e.kind ≠ 5) (hm : mayP18 (ovC c a) e ≠ 0) : ovE c 0 (a ++ e :: b) = ((a.length : Int), mayP18 (ovC c a) e) := by
  rw [ovE_app h, ovE_cons, if_neg hk, if_neg hm, Nat.zero_add]
theorem ovE_no {a : List Ev} {e : Ev} {c : Ct} (h : (ovE c 0 a).2 = 0) (hk : e.kind = 5 ∨ mayP18 (ovC c a) e = 0) : (ovE c 0 (a ++ [e])).2 = 0 := by
  rw [ovE_app h, ovE_cons]
  rcases hk with k | k
  · rw [if_pos k]; rfl
  by_cases q : e.kind = 5
  · rw [if_pos q]; rfl
  rw [if_neg q, if_pos k]; rfl
theorem ovC_one {a : List Ev} {e : Ev} {c : Ct} : ovC c (a ++ [e]) = if e.kind = 5 then ovC c a else nextP (ovC c a) e := by
  rw [ovC_app]
  show ovC (ovC c a) [e] = _
  rw [ovC_cons]
  split <;> rfl
theorem Inv18.ov : ∀ {l : List Ev} {c : Ct}, Inv18 c → Inv18 (ovC c l)
  | [], _, h => h
  | e :: l, c, h => by
    rw [ovC_cons]
    split
    · exact Inv18.ov h
    exact Inv18.ov (h.next e)
theorem Nr.ov : ∀ {l : List Ev} {c : Ct}, Nr c → Nr (ovC c l)
  | [], _, h => h
  | e :: l, c, h => by
    rw [ovC_cons]
    split
    · exact Nr.ov h
    rename_i q; exact Nr.ov (h.next q)
theorem ov_len : ∀ {l : List Ev} {c : Ct}, (ovC c l).events.length ≤ c.events.length + l.length
  | [], _ => Nat.le_refl _
  | e :: l, c => by
    rw [ovC_cons]
    have h2 := next_events (c := c) (e := e)
    split
    · have h1 := ov_len (l := l) (c := c)
      simp only [List.length_cons]; omega
    have h1 := ov_len (l := l) (c := nextP c e)
    simp only [List.length_cons]; omega
theorem ov_game : ∀ {l : List Ev} {c : Ct}, (ovC c l).code = c.code ∧ (ovC c l).cap = c.cap ∧ (ovC c l).fuel = c.fuel
  | [], _ => ⟨rfl, rfl, rfl⟩
  | e :: l, c => by
    rw [ovC_cons]
    split
    · exact ov_game
    have h1 := ov_game (l := l) (c := nextP c e)
    have h2 := next_game c e
    exact ⟨h1.1.trans h2.1, h1.2.1.trans h2.2.1, h1.2.2.trans h2.2.2⟩
/-! ### the verdict -/
def vdP (c : Ct) : Int × Int × Bool := if c.over = true then (c.winner, c.why, true) else resP c.st c.cap
def plr (a : Int) (x y : Int) : Int := if a = 0 then x else y
/-! ### a match's own events, anew -/
/-- d: what is made anew of the events of c -/
structure Rp (c0 c d : Ct) : Prop where
  he : (ovE c0 0 c.events).2 = 0
  hd : ovC c0 c.events = d
  eq : c = d ∨ (d.over = false ∧ c.over = true ∧ c.opn = true ∧ c.st = d.st ∧ c.cap = d.cap ∧ c.pairs = d.pairs ∧ resP d.st d.cap = (c.winner, c.why, true) ∧ (∀ x ∈ d.events, x.kind ≠ 5) ∧ d.opn = true ∧
    ∃ x, c.events = d.events ++ [x] ∧ x.kind = 5 ∧ x.player = plr (resP d.st d.cap).1 d.p0 d.p1 ∧ x.n = (resP d.st d.cap).2.1)
/-- behind a result nothing is taken -/
theorem may_over {c : Ct} (o : c.opn = true) (v : c.over = true) (e : Ev) : mayP18 c e ≠ 0 := by
  intro h
  obtain ⟨hk, hb, hy⟩ := may_kind h
  unfold may1P at hy
  rcases (by omega : e.kind = 1 ∨ e.kind = 2 ∨ e.kind = 3 ∨ e.kind = 4 ∨ e.kind = 5) with k | k | k | k | k
  · rw [if_pos k] at hy; unfold mayOpenP at hy; rw [if_pos o] at hy; cases hy
  · rw [if_neg (by omega), if_pos k] at hy; have := (act_0 (mayJoin_0 hy).1).2.1; rw [v] at this; cases this
  · rw [if_neg (by omega), if_neg (by omega), if_pos k] at hy; have := (act_0 (mayInput_0 hy)).2.1; rw [v] at this; cases this
  · rw [if_neg (by omega), if_neg (by omega), if_neg (by omega), if_pos k] at hy; have := (act_0 hy).2.1; rw [v] at this; cases this
  rw [if_neg (by omega), if_neg (by omega), if_neg (by omega), if_neg (by omega)] at hy; unfold mayResultP at hy; rw [if_neg (by rw [o]; simp), if_pos v] at hy; cases hy
theorem mayResult_0 {c : Ct} {e : Ev} (h : mayResultP c e = 0) : c.opn = true ∧ c.over = false ∧ (resP c.st c.cap).2.2 = true ∧ e.player = plr (resP c.st c.cap).1 c.p0 c.p1 ∧ e.n = (resP c.st c.cap).2.1 := by
  unfold mayResultP at h
  by_cases q1 : c.opn = false
  · rw [if_pos q1] at h; cases h
  rw [if_neg q1] at h
  by_cases q2 : c.over = true
  · rw [if_pos q2] at h; cases h
  rw [if_neg q2] at h
  by_cases q3 : (resP c.st c.cap).2.2 = false
  · rw [if_pos q3] at h; cases h
  rw [if_neg q3] at h
  by_cases q4 : e.player ≠ (if (resP c.st c.cap).1 = 0 then c.p0 else c.p1) ∨ e.n ≠ (resP c.st c.cap).2.1
  · rw [if_pos q4] at h; cases h
  refine ⟨by cases q : c.opn; exact absurd q q1; rfl, by cases q : c.over; rfl; exact absurd q q2, by cases q : (resP c.st c.cap).2.2; exact absurd q q3; rfl, Decidable.byContradiction fun w => q4 (.inl w), Decidable.byContradiction fun w => q4 (.inr w)⟩
/-- who plays are two -/
def Two (c : Ct) : Prop := c.opn = true → c.p0 ≠ c.p1
theorem Two.next {c : Ct} (h : Two c) (e : Ev) : Two (nextP c e) := by
  refine next_case (fun d => Two d) (fun _ => h) (fun _ _ _ q => ?_) (fun _ _ _ => ?_) (fun _ _ _ => ?_) (fun _ _ _ => h) (fun _ _ _ => h)
  · intro _
    show e.player ≠ e.other
    unfold mayOpenP at q
    split at q
    · cases q
    split at q
    · cases q
    rename_i w; exact fun x => w (.inr (.inr (.inl x)))
  · have f := join_f c e
    intro o
    show (joinP c e).p0 ≠ (joinP c e).p1
    rw [f.2.2.2.1, f.2.2.2.2.1]; exact h (f.2.2.2.2.2.1.symm.trans o)
  have f := input_f c e
  intro o
  show (inputP c e).p0 ≠ (inputP c e).p1
  rw [f.2.2.2.1, f.2.2.2.2.1]; exact h (f.2.2.2.2.2.1.symm.trans o)
theorem Rp.next {c0 c d : Ct} (hn : Nr c0) (hI : Inv18 c) (h2 : Two c) (h : Rp c0 c d) (e : Ev) : ∃ d', Rp c0 (nextP c e) d' := by
  obtain ⟨he, hd, hq⟩ := h
  by_cases hm : mayP18 c e = 0
  · have hc : c = d := by
      rcases hq with q | q
      · exact q
      exact absurd hm (may_over q.2.2.1 q.2.1 e)
    subst hc
    have hev : (nextP c e).events = c.events ++ [e] := by
      unfold nextP
      rw [if_pos hm]
      show (doP c e).events ++ [e] = _
      congr 1
      unfold doP openP joinP inputP goP inputP0 forfeitP resultP
      repeat' split
      all_goals rfl
    have hN : Nr c := hd ▸ hn.ov
    by_cases hk : e.kind = 5
    · refine ⟨c, ?_, ?_, .inr ?_⟩
      · rw [hev]; exact ovE_no he (.inl hk)
      · rw [hev, ovC_one, if_pos hk, hd]
      have hx : nextP c e = (resultP c e).add e := by unfold nextP doP; rw [if_pos hm, if_neg (by omega), if_neg (by omega), if_neg (by omega), if_neg (by omega)]
      have hy := (may_kind hm).2.2
      unfold may1P at hy
      rw [if_neg (by omega), if_neg (by omega), if_neg (by omega), if_neg (by omega)] at hy
      obtain ⟨r1, r2, r3, r4, r5⟩ := mayResult_0 hy
      rw [hx]
      refine ⟨r2, rfl, r1, rfl, rfl, rfl, ?_, hN.nor, r1, e, rfl, hk, r4, r5⟩
      show resP c.st c.cap = (seatP c e.player, e.n, true)
      have hw := res_win (cap := c.cap) hI.win
      have h3 := h2 r1
      generalize resP c.st c.cap = R at r3 r4 r5 hw
      obtain ⟨w, y, o⟩ := R
      simp only at r3 r4 r5 hw
      subst r3 r5
      have : seatP c e.player = w := by
        unfold seatP
        rw [r4]
        unfold plr
        rcases hw with rfl | rfl
        · rw [if_pos rfl, if_pos rfl]
        rw [if_neg (show ¬ (1 : Int) = 0 by omega), if_neg h3, if_pos rfl]
      rw [this]
    refine ⟨nextP c e, ?_, ?_, .inl rfl⟩
    · rw [hev]; exact ovE_no he (.inr (by rw [hd]; exact hm))
    rw [hev, ovC_one, if_neg hk, hd]
  have : nextP c e = c := by unfold nextP; rw [if_neg hm]
  rw [this]
  exact ⟨d, he, hd, hq⟩
end
end Go.Proofs.Ytgeelaafmnedmaa
