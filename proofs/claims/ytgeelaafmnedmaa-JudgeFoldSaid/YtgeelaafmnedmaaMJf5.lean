/- Parts of a proof: The law JudgeFold, plain: a game that adds up what both do, Chapter 18, the other one: an event is taken. (written by gen18u.py), Chapter 18: any event, right or not. (written by gen18s.py), Chapter 18, the other one: any event is taken or not; who is waited for; what a player did. (written by gen18v.py), The logic: guards in regions that draw are not looked into before they are known, Chapter 18, the other one: who is waited for, Chapter 18: statuses and rows of events compared. (written by gen18x.py), Chapter 21 in the logic: the match over events but results, in both, Chapter 4 in the logic: numbers as bytes, the sum, Chapter 13 in the logic: numbers of both signs as bytes, Chapter 1 in the logic: the document's numbers of both signs, Chapter 13 in the logic: a state as bytes, SHA-256 as plain functions of words and bytes, Laws of the walk over whole rows: a variable of several cells that is made, stored, handed back, digest: the small functions, digest: a block is taken in, digest.Sum, the reference's digest: r, k, block, append onto a row of one's own; slices that are built, The reference's way of padding gives the same digest: plain lists, the reference's Sum, Link, Mac: the program's and the reference's, From walks that keep all of memory to the logic's contracts; chapter 2's digest, Verdicts: an opaque row of cells, and its rules, Chapters 10, 21 in the logic: a state's digest, in both, Chapter 21 in the logic: the verdict, in both, Chapter 21 in the logic: the document's verdict, Chapter 21 in the logic: does what is written down agree?, Chapter 21 in the logic: does what is written down agree, by the document?, Chapter 18: acts as events; statuses and rows of events compared. (written by gen18x.py), Chapter 18: rows of acts, Chapter 18: does a game take long?, Chapter 21 in the logic: who gives up; the events of acts that a match takes, The law JudgeFold in the logic, The row of the law gauntletlaw21.JudgeFold. -/
import Derived.Test.YtgeelaafmnedmaaMJf4
import Derived.Test.YtgeelaafmnedmaaMJf2
import Derived.Laws.CopyOwn
import Derived.Test.YtgeelaafmnedmaaProg
import Derived.Deep.DeepCutAuto
import Derived.Test.YtgeelaafmnedmaaMJf3
set_option linter.unusedSimpArgs false
set_option linter.unusedVariables false
open Go Go.RowKit
namespace Go.Proofs.Ytgeelaafmnedmaa
section
def fdL : List (Int × Int) := [(2, 0), (16, 0), (4, 0), (3, 0), (2, 1), (16, 1), (4, 0), (3, 1)]
theorem fd_g {lim : Int} (h1 : 1 ≤ lim) (h2 : lim ≤ 600) : gameP fdL lim 20 = 0 := by
  have e : chkP fdL = (0, 0) := by decide
  unfold gameP
  rw [e, if_neg (by simp), if_neg (by omega)]
theorem run_f {code : List (Int × Int)} {f : Nat} {m n : Mac} (h1 : m.pc < code.length) (h2 : m.en = false) (hd : doM (gi code m.pc.toNat).1 (gi code m.pc.toNat).2 (incM m) = n) (hb : n.bad = false) : runM code (f + 1) m = runM code f n := by
  show (if m.pc < code.length ∧ m.en = false then _ else _) = _
  rw [if_pos ⟨h1, h2⟩, hd, if_neg (by rw [hb]; simp)]
/-- both numbers grow by the inputs -/
def fdA (s : Sta) (x : UInt16) : Sta := s.wCells 0 (held (s.cells.getD 0 0 + U16 x))
def fdB (s : Sta) (y : UInt16) : Sta := s.wCells 1 (held (s.cells.getD 1 0 + U16 y))
theorem fd_run (s : Sta) (x y : UInt16) : runM fdL 20 (mac0 s x y) = (0, ⟨fdB (fdA s x) y, x, y, [], 8, false, false⟩) := by
  rw [run_f (n := ⟨s, x, y, [s.cells.getD 0 0], 1, false, false⟩) (by show (0 : Int) < 8; omega) rfl rfl rfl]
  rw [run_f (n := ⟨s, x, y, [s.cells.getD 0 0, U16 x], 2, false, false⟩) (by show (1 : Int) < 8; omega) rfl rfl rfl]
  rw [run_f (n := ⟨s, x, y, [held (s.cells.getD 0 0 + U16 x)], 3, false, false⟩) (by show (2 : Int) < 8; omega) rfl rfl rfl]
  rw [run_f (n := ⟨fdA s x, x, y, [], 4, false, false⟩) (by show (3 : Int) < 8; omega) rfl rfl rfl]
  generalize fdA s x = s
  rw [run_f (n := ⟨s, x, y, [s.cells.getD 1 0], 5, false, false⟩) (by show (4 : Int) < 8; omega) rfl rfl rfl]
  rw [run_f (n := ⟨s, x, y, [s.cells.getD 1 0, U16 y], 6, false, false⟩) (by show (5 : Int) < 8; omega) rfl rfl rfl]
  rw [run_f (n := ⟨s, x, y, [held (s.cells.getD 1 0 + U16 y)], 7, false, false⟩) (by show (6 : Int) < 8; omega) rfl rfl rfl]
  rw [run_f (n := ⟨fdB s y, x, y, [], 8, false, false⟩) (by show (7 : Int) < 8; omega) rfl rfl rfl]
  exact if_neg (fun h => absurd h.1 (by show ¬ (8 : Int) < 8; omega))
theorem fd_step {lim : Int} (h1 : 1 ≤ lim) (h2 : lim ≤ 600) {s : Sta} {x y : UInt16} (hi : isP s = true) (hz : ¬ U32 s.seed = 0) (ho : s.over = false) (hf : s.frame < lim) :
    (stepP fdL lim 20 s x y).1 = endS lim (fdB (fdA s x) y) := by
  have e9 : (20 : Int).toNat = 20 := rfl
  unfold stepP
  rw [if_neg (by rw [fd_g h1 h2]; simp), if_neg (by rintro (h | h); rw [hi] at h; cases h; exact hz h), if_neg (by rintro (h | h); rw [ho] at h; cases h; omega), e9]
  simp only
  unfold stepM
  rw [fd_run, if_pos rfl]
/-- what was done, added up -/
def sx (a : List UInt16) : Nat → Int
  | 0 => 0
  | n + 1 => sx a n + U16 (a.getD n 0)
theorem sx_b (a : List UInt16) : ∀ n, 0 ≤ sx a n ∧ sx a n ≤ n * 65535
  | 0 => by show (0 : Int) ≤ 0 ∧ (0 : Int) ≤ _; omega
  | n + 1 => by
    have ih := sx_b a n
    have h1 := U16_lo (a.getD n 0)
    have h2 := U16_hi (a.getD n 0)
    show 0 ≤ sx a n + U16 (a.getD n 0) ∧ sx a n + U16 (a.getD n 0) ≤ ((n + 1 : Nat) : Int) * 65535
    omega
def fdS (a b : List UInt16) (lim : Int) : Nat → Sta
  | 0 => startS 1
  | n + 1 => (stepP fdL lim 20 (fdS a b lim n) (a.getD n 0) (b.getD n 0)).1
structure Fds (a b : List UInt16) (lim : Int) (n : Nat) (s : Sta) : Prop where
  frame : s.frame = n
  c0 : s.cells.getD 0 0 = sx a n
  c1 : s.cells.getD 1 0 = sx b n
  seed : s.seed = (startS 1).seed
  over : s.over = decide (lim ≤ n)
  win : s.win = if lim ≤ n then (if sx b n < sx a n then 0 else if sx a n < sx b n then 1 else 2) else 0
theorem seedF : ¬ U32 (startS 1).seed = 0 := by decide
theorem Fds.is {a b : List UInt16} {lim : Int} {n : Nat} {s : Sta} (h : Fds a b lim n s) (hn : n ≤ 600) : isP s = true := by
  have hw := h.win
  have ho := h.over
  have q1 : decide ((0 : Int) ≤ s.frame) = true := decide_eq_true (by rw [h.frame]; omega)
  have q2 : decide (s.frame ≤ (600 : Int)) = true := decide_eq_true (by rw [h.frame]; omega)
  have q3 : decide ((0 : Int) ≤ s.win) = true := decide_eq_true (by rw [hw]; split <;> (try split) <;> (try split) <;> omega)
  have q4 : decide (s.win ≤ (2 : Int)) = true := decide_eq_true (by rw [hw]; split <;> (try split) <;> (try split) <;> omega)
  unfold isP
  rw [q1, q2, q3, q4, ho, hw]
  by_cases g : lim ≤ n
  · rw [decide_eq_true g]; rfl
  rw [decide_eq_false g, if_neg g]; rfl
theorem fds_0 (a b : List UInt16) {lim : Int} (h1 : 1 ≤ lim) : Fds a b lim 0 (startS 1) := ⟨rfl, rfl, rfl, rfl, (decide_eq_false (by omega)).symm, by rw [if_neg (by omega)]; rfl⟩
theorem held_id {x : Int} (h0 : 0 ≤ x) (h1 : x ≤ 100000000) : held x = x := by unfold held; omega
theorem fds_S {a b : List UInt16} {lim : Int} {n : Nat} {s : Sta} (h1 : 1 ≤ lim) (h2 : lim ≤ 600) (hn : (n : Int) < lim) (h : Fds a b lim n s) : Fds a b lim (n + 1) (stepP fdL lim 20 s (a.getD n 0) (b.getD n 0)).1 := by
  have ho : s.over = false := by rw [h.over]; exact decide_eq_false (by omega)
  have hw : s.win = 0 := by rw [h.win, if_neg (by omega)]
  rw [fd_step h1 h2 (h.is (by omega)) (by rw [h.seed]; exact seedF) ho (by rw [h.frame]; omega)]
  have ba := sx_b a (n + 1)
  have bb := sx_b b (n + 1)
  have hl := s.len
  have eA : fdA s (a.getD n 0) = s.wCells 0 (sx a (n + 1)) := by
    unfold fdA
    rw [h.c0, held_id (by show 0 ≤ sx a (n + 1); omega) (by show sx a (n + 1) ≤ _; omega)]
    rfl
  have g1 : (s.wCells 0 (sx a (n + 1))).cells.getD 1 0 = sx b n := by
    have := h.c1
    show (s.cells.set 0 _).getD 1 0 = _
    rw [List.getD_eq_getElem?_getD] at this ⊢
    rw [List.getElem?_set_ne (by omega)]
    exact this
  have eB : fdB (fdA s (a.getD n 0)) (b.getD n 0) = (s.wCells 0 (sx a (n + 1))).wCells 1 (sx b (n + 1)) := by
    rw [eA]
    unfold fdB
    rw [g1, held_id (by show 0 ≤ sx b (n + 1); omega) (by show sx b (n + 1) ≤ _; omega)]
    rfl
  rw [eB]
  have f0 : ((s.cells.set 0 (sx a (n + 1))).set 1 (sx b (n + 1))).getD 0 0 = sx a (n + 1) := by
    rw [List.getD_eq_getElem?_getD, List.getElem?_set_ne (by omega), List.getElem?_set_self (by omega)]; rfl
  have f1 : ((s.cells.set 0 (sx a (n + 1))).set 1 (sx b (n + 1))).getD 1 0 = sx b (n + 1) := by
    rw [List.getD_eq_getElem?_getD, List.getElem?_set_self (by rw [List.length_set]; omega)]; rfl
  unfold endS
  by_cases g : lim ≤ ((n + 1 : Nat) : Int)
  · rw [if_pos ⟨by show lim ≤ s.frame + 1; rw [h.frame]; omega, ho⟩]
    refine ⟨by show s.frame + 1 = _; rw [h.frame]; omega, f0, f1, h.seed, (decide_eq_true g).symm, ?_⟩
    rw [if_pos g]
    show winS ((s.wCells 0 (sx a (n + 1))).wCells 1 (sx b (n + 1))) = _
    unfold winS
    show (if ((s.cells.set 0 (sx a (n + 1))).set 1 (sx b (n + 1))).getD 1 0 < ((s.cells.set 0 (sx a (n + 1))).set 1 (sx b (n + 1))).getD 0 0 then (0 : Int) else if ((s.cells.set 0 (sx a (n + 1))).set 1 (sx b (n + 1))).getD 0 0 < ((s.cells.set 0 (sx a (n + 1))).set 1 (sx b (n + 1))).getD 1 0 then 1 else 2) = _
    rw [f0, f1]
  rw [if_neg (fun q => g (by have := q.1; have e : ((s.wCells 0 (sx a (n + 1))).wCells 1 (sx b (n + 1))).frame = n := h.frame; rw [e] at this; omega))]
  refine ⟨by show s.frame + 1 = _; rw [h.frame]; omega, f0, f1, h.seed, ?_, ?_⟩
  · rw [decide_eq_false g]; exact ho
  rw [if_neg g]; exact hw
theorem fds {a b : List UInt16} {lim : Int} (h1 : 1 ≤ lim) (h2 : lim ≤ 600) : ∀ n : Nat, (n : Int) ≤ lim → Fds a b lim n (fdS a b lim n)
  | 0, _ => fds_0 a b h1
  | n + 1, h => fds_S h1 h2 (by omega) (fds h1 h2 n (by omega))
/-- the events -/
def fdE : Ev := ⟨1, 4, 6, 0, 0, 1⟩
def fdV (a b : List UInt16) : Nat → List Ev
  | 0 => [fdE]
  | n + 1 => fdV a b n ++ [⟨3, 4, 0, n, a.getD n 0, 0⟩, ⟨3, 6, 0, n, b.getD n 0, 0⟩]
theorem fdV_len (a b : List UInt16) : ∀ n, (fdV a b n).length = 2 * n + 1
  | 0 => rfl
  | n + 1 => by show (fdV a b n ++ [_, _]).length = _; rw [List.length_append, fdV_len a b n]; simp; omega
def fdC (a b : List UInt16) (lim : Int) : Nat → Ct
  | 0 => (openP (ctNew fdL lim 20) fdE).add fdE
  | n + 1 => (inputP ((inputP (fdC a b lim n) ⟨3, 4, 0, n, a.getD n 0, 0⟩).add ⟨3, 4, 0, n, a.getD n 0, 0⟩) ⟨3, 6, 0, n, b.getD n 0, 0⟩).add ⟨3, 6, 0, n, b.getD n 0, 0⟩
def fdI (a : List UInt16) (n : Nat) : List UInt16 := (List.range n).map fun i => a.getD i 0
theorem fdI_len (a : List UInt16) (n : Nat) : (fdI a n).length = n := by simp [fdI]
theorem fdI_succ (a : List UInt16) (n : Nat) : fdI a (n + 1) = fdI a n ++ [a.getD n 0] := by simp [fdI, List.range_succ]
def fdPs (a b : List UInt16) (n : Nat) : List (UInt16 × UInt16) := (List.range n).map fun i => (a.getD i 0, b.getD i 0)
theorem fdPs_len (a b : List UInt16) (n : Nat) : (fdPs a b n).length = n := by simp [fdPs]
theorem fdPs_succ (a b : List UInt16) (n : Nat) : fdPs a b (n + 1) = fdPs a b n ++ [(a.getD n 0, b.getD n 0)] := by simp [fdPs, List.range_succ]
theorem fd_go (a b : List UInt16) {lim : Int} (h1 : 1 ≤ lim) (h2 : lim ≤ 600) : ∀ n : Nat, (n : Int) ≤ lim → Go18 fdL lim 20 4 6 (fdI a n) (fdI b n) (fdPs a b n) (fdS a b lim n) (2 * n + 1) (fdC a b lim n)
  | 0, _ => ⟨rfl, rfl, rfl, rfl, rfl, rfl, rfl, rfl, rfl, rfl, rfl, rfl, rfl, rfl⟩
  | n + 1, h => by
    have ih := fd_go a b h1 h2 n (by omega)
    have ho : (fdS a b lim n).over = false := by rw [(fds h1 h2 n (by omega)).over]; exact decide_eq_false (by omega)
    have hb := (ih.both (by omega) (by rw [fdI_len, fdPs_len]) (by rw [fdI_len, fdPs_len]) ho (a.getD n 0) (b.getD n 0) (n : Int)).2
    rw [fdI_succ, fdI_succ, fdPs_succ]
    exact hb
theorem fd_ov (a b : List UInt16) {lim : Int} (h1 : 1 ≤ lim) (h2 : lim ≤ 600) : ∀ n : Nat, (n : Int) ≤ lim → (ovE (ctNew fdL lim 20) 0 (fdV a b n)).2 = 0 ∧ ovC (ctNew fdL lim 20) (fdV a b n) = fdC a b lim n
  | 0, _ => by
    have hm : mayP18 (ctNew fdL lim 20) fdE = 0 := rfl
    have hk : fdE.kind ≠ 5 := by decide
    refine ⟨?_, ?_⟩
    · show (ovE (ctNew fdL lim 20) 0 [fdE]).2 = 0
      rw [ovE_cons, if_neg hk, if_pos hm]; rfl
    show ovC (ctNew fdL lim 20) [fdE] = _
    rw [ovC_cons, if_neg hk]
    show nextP _ _ = _
    unfold nextP
    rw [if_pos hm]
    rfl
  | n + 1, h => by
    obtain ⟨e1, e2⟩ := fd_ov a b h1 h2 n (by omega)
    have hg := fd_go a b h1 h2 n (by omega)
    have ho : (fdS a b lim n).over = false := by rw [(fds h1 h2 n (by omega)).over]; exact decide_eq_false (by omega)
    have hm := (hg.both (by omega) (by rw [fdI_len, fdPs_len]) (by rw [fdI_len, fdPs_len]) ho (a.getD n 0) (b.getD n 0) (n : Int)).1
    have m1 : mayP18 (fdC a b lim n) ⟨3, 4, 0, n, a.getD n 0, 0⟩ = 0 := by
      rw [may_in]
      unfold mayInputP
      simp only
      rw [hg.act0 ho, hg.seat0, if_neg (by simp), if_pos rfl, hg.cap, hg.in0, hg.in1]
      exact win_ok (by rw [fdI_len]) (by rw [fdI_len]; omega) (by rw [fdI_len, fdI_len]; omega)
    have n1 : nextP (fdC a b lim n) ⟨3, 4, 0, n, a.getD n 0, 0⟩ = (inputP (fdC a b lim n) ⟨3, 4, 0, n, a.getD n 0, 0⟩).add ⟨3, 4, 0, n, a.getD n 0, 0⟩ := by
      unfold nextP; rw [if_pos m1]; rfl
    have m2 : mayP18 ((inputP (fdC a b lim n) ⟨3, 4, 0, n, a.getD n 0, 0⟩).add ⟨3, 4, 0, n, a.getD n 0, 0⟩) ⟨3, 6, 0, n, b.getD n 0, 0⟩ = 0 := by
      rw [may_in]
      unfold mayInputP
      simp only
      rw [hm.act1 (by omega) ho, hm.seat1 (by omega), if_neg (by simp), if_neg (by omega), hm.cap, hm.in0, hm.in1]
      exact win_ok (by rw [fdI_len]) (by rw [fdI_len]; omega) (by rw [List.length_append, fdI_len, fdI_len]; simp; omega)
    have k1 : (⟨3, 4, 0, n, a.getD n 0, 0⟩ : Ev).kind ≠ 5 := by show (3 : Int) ≠ 5; omega
    have k2 : (⟨3, 6, 0, n, b.getD n 0, 0⟩ : Ev).kind ≠ 5 := by show (3 : Int) ≠ 5; omega
    have ev : fdV a b (n + 1) = fdV a b n ++ [⟨3, 4, 0, n, a.getD n 0, 0⟩, ⟨3, 6, 0, n, b.getD n 0, 0⟩] := rfl
    refine ⟨?_, ?_⟩
    · rw [ev, ovE_app e1, e2, ovE_cons, if_neg k1, if_pos m1, n1, ovE_cons, if_neg k2, if_pos m2]; rfl
    rw [ev, ovC_app, e2, ovC_cons, if_neg k1, n1, ovC_cons, if_neg k2]
    show nextP _ _ = _
    unfold nextP
    rw [if_pos m2]
    rfl
/-- what the verdict is, at the end and ahead of it -/
theorem fd_end (a b : List UInt16) {lim : Int} (h1 : 1 ≤ lim) (h2 : lim ≤ 600) (n : Nat) (hn : (n : Int) = lim) : vdP (fdC a b lim n) = (if sx a n < sx b n then 1 else 0, 2, true) ∧ (fdC a b lim n).pairs.length = n := by
  have hg := fd_go a b h1 h2 n (by omega)
  have hf := fds (a := a) (b := b) h1 h2 n (by omega)
  refine ⟨?_, by rw [hg.pairs, fdPs_len]⟩
  unfold vdP
  rw [hg.over, if_neg (by simp), hg.st, hg.cap]
  unfold resP
  have ho : (fdS a b lim n).over = true := by rw [hf.over]; exact decide_eq_true (by omega)
  have hw := hf.win
  rw [if_pos (show lim ≤ (n : Int) by omega)] at hw
  rw [ho, if_neg (by simp), hw, hf.frame, if_pos hn]
  by_cases q1 : sx b n < sx a n
  · rw [if_pos q1, if_neg (show ¬ (0 : Int) = 2 by omega), if_neg (show ¬ sx a n < sx b n by omega)]
  rw [if_neg q1]
  by_cases q2 : sx a n < sx b n
  · rw [if_pos q2, if_pos q2, if_neg (show ¬ (1 : Int) = 2 by omega)]
  rw [if_neg q2, if_neg q2, if_pos rfl]
theorem fd_mid (a b : List UInt16) {lim : Int} (h1 : 1 ≤ lim) (h2 : lim ≤ 600) (n : Nat) (hn : (n : Int) < lim) : vdP (fdC a b lim n) = (0, 0, false) ∧ (fdC a b lim n).pairs.length = n := by
  have hg := fd_go a b h1 h2 n (by omega)
  have hf := fds (a := a) (b := b) h1 h2 n (by omega)
  refine ⟨?_, by rw [hg.pairs, fdPs_len]⟩
  unfold vdP
  rw [hg.over, if_neg (by simp), hg.st, hg.cap]
  unfold resP
  have ho : (fdS a b lim n).over = false := by rw [hf.over]; exact decide_eq_false (by omega)
  rw [if_pos ho]
/-- somebody gives up -/
theorem fd_quit (a b : List UInt16) {lim : Int} (h1 : 1 ≤ lim) (h2 : lim ≤ 600) (n : Nat) (hn : (n : Int) < lim) (p : Int) (hp : p = 4 ∨ p = 6) :
    (ovE (ctNew fdL lim 20) 0 (fdV a b n ++ [⟨4, p, 0, 0, 0, 0⟩])).2 = 0 ∧ vdP (ovC (ctNew fdL lim 20) (fdV a b n ++ [⟨4, p, 0, 0, 0, 0⟩])) = (if p = 4 then 1 else 0, 3, true) ∧ (ovC (ctNew fdL lim 20) (fdV a b n ++ [⟨4, p, 0, 0, 0, 0⟩])).pairs.length = n := by
  obtain ⟨e1, e2⟩ := fd_ov a b h1 h2 n (by omega)
  have hg := fd_go a b h1 h2 n (by omega)
  have hf := fds (a := a) (b := b) h1 h2 n (by omega)
  have ho : (fdS a b lim n).over = false := by rw [hf.over]; exact decide_eq_false (by omega)
  have hs : seatP (fdC a b lim n) p = if p = 4 then 0 else 1 := by
    unfold seatP
    rw [hg.p0, hg.p1]
    rcases hp with rfl | rfl <;> rfl
  have m : mayP18 (fdC a b lim n) ⟨4, p, 0, 0, 0, 0⟩ = 0 := by
    show actP (fdC a b lim n) p = 0
    unfold actP
    rw [hg.opn, hg.over, hg.st, ho, hs]
    rcases hp with rfl | rfl <;> rfl
  have k : (⟨4, p, 0, 0, 0, 0⟩ : Ev).kind ≠ 5 := by show (4 : Int) ≠ 5; omega
  have ec : ovC (ctNew fdL lim 20) (fdV a b n ++ [⟨4, p, 0, 0, 0, 0⟩]) = (forfeitP (fdC a b lim n) ⟨4, p, 0, 0, 0, 0⟩).add ⟨4, p, 0, 0, 0, 0⟩ := by
    rw [ovC_app, e2, ovC_cons, if_neg k]
    show nextP _ _ = _
    unfold nextP
    rw [if_pos m]
    rfl
  refine ⟨?_, ?_, ?_⟩
  · rw [ovE_app e1, e2, ovE_cons, if_neg k, if_pos m]; rfl
  · rw [ec]
    show (1 - seatP (fdC a b lim n) p, (3 : Int), true) = _
    rw [hs]
    rcases hp with rfl | rfl <;> rfl
  rw [ec]
  show (fdC a b lim n).pairs.length = n
  rw [hg.pairs, fdPs_len]
end
section

end
section
theorem mayX_h (c : Ct) (e : Ev) (hk : e.kind < 1 ∨ 6 ≤ e.kind) : Holds Try.prog 21 [.ptr (.arg 0) 0, .ev e] [(.arg 0, ctB (.arg 0) c)] (fun r h' => r = .int .i64 (mayP18 c e) ∧ h' = [(.arg 0, ctB (.arg 0) c)]) := by
  have em : mayP18 c e = 3 := by unfold mayP18; rw [if_pos hk]
  rw [em]
  refine holds_of_awp Try.func21 rfl (by decide +kernel) mixed Try.ntmps21 Try.results21 ?_
  refine zE ?_
  cases d1 : decide (e.kind < 1)
  · have d2 : decide (6 ≤ e.kind) = true := decide_eq_true (by have := of_decide_eq_false d1; omega)
    simp (maxSteps:=2000000) (disch:=omega) only [go_sem,Nat.reduceAdd,Nat.reduceSub,Nat.reduceMul,Nat.reduceBEq,Nat.reduceEqDiff,Nat.reduceLT,Nat.reduceLeDiff,Nat.reduceDiv,reduceIte,reduceCtorEq, d1, d2]
  simp (maxSteps:=2000000) (disch:=omega) only [go_sem,Nat.reduceAdd,Nat.reduceSub,Nat.reduceMul,Nat.reduceBEq,Nat.reduceEqDiff,Nat.reduceLT,Nat.reduceLeDiff,Nat.reduceDiv,reduceIte,reduceCtorEq, d1]
theorem applyX_h (c : Ct) (e : Ev) (hk : e.kind < 1 ∨ 6 ≤ e.kind) : Holds Try.prog 14 [.ptr (.arg 0) 0, .ev e] [(.arg 0, ctB (.arg 0) c)] (fun r h' => r = .int .i64 (mayP18 c e) ∧ h' = [(.arg 0, ctB (.arg 0) c)]) := by
  have em : mayP18 c e = 3 := by unfold mayP18; rw [if_pos hk]
  have hm := mayX_h c e hk
  rw [em] at hm ⊢
  refine holds_of_awp Try.func14 rfl (by decide +kernel) mixed Try.ntmps14 Try.results14 ?_
  refine zE ?_
  refine zc ?_;try exact trivial
  refine a_call [.arg 0] (hm) (ok1 rfl) ?_ ?_ ?_
  · refine zs ?_;try exact trivial
  · refine zs ?_;try exact trivial
  rintro _ _ ⟨rfl, rfl⟩
  refine zc ?_;try exact trivial
theorem doP_events (c : Ct) (e : Ev) : (doP c e).events = c.events := by
  unfold doP openP joinP inputP goP inputP0 forfeitP resultP
  repeat' split
  all_goals rfl
theorem apply_all (c : Ct) (e : Ev) (h : Inv18 c) (hl : c.events.length ≤ 100000) : Holds Try.prog 14 [.ptr (.arg 0) 0, .ev e] [(.arg 0, ctB (.arg 0) c)] (fun r h' => r = .int .i64 (mayP18 c e) ∧ h' = [(.arg 0, ctB (.arg 0) (nextP c e))]) := by
  have e0 := h.e0
  have e1 := h.e1
  by_cases hk : e.kind < 1 ∨ 6 ≤ e.kind
  · have em : mayP18 c e = 3 := by unfold mayP18; rw [if_pos hk]
    have en : nextP c e = c := by unfold nextP; rw [if_neg (by omega)]
    rw [en]
    exact applyX_h c e hk
  by_cases hm : mayP18 c e = 0
  · have en : nextP c e = (doP c e).add e := by unfold nextP; rw [if_pos hm]
    have hd : (doP c e).events.length ≤ 1000000 := by rw [doP_events]; omega
    obtain ⟨_, hb, h1⟩ := may_kind hm
    rw [en, hm]
    unfold may1P at h1
    unfold doP at hd ⊢
    rcases (by omega : e.kind = 1 ∨ e.kind = 2 ∨ e.kind = 3 ∨ e.kind = 4 ∨ e.kind = 5) with k | k | k | k | k
    · rw [if_pos k] at h1 hd ⊢
      have hn : 0 ≤ e.n ∧ e.n ≤ 4294967295 := by
        unfold mayOpenP at h1
        by_cases q : c.opn = true
        · rw [if_pos q] at h1; cases h1
        rw [if_neg q] at h1
        by_cases q2 : e.player < 1 ∨ e.other < 1 ∨ e.player = e.other ∨ e.n < 0 ∨ 4294967295 < e.n
        · rw [if_pos q2] at h1; cases h1
        omega
      have ho := open_h c e hn
      generalize openP c e = c' at hd ho ⊢
      rw [ev_eq k] at hm ho ⊢
      exact applyY1_h c c' _ _ _ _ _ hm hd ho
    · rw [if_neg (by omega), if_pos k] at h1 hd ⊢
      have hs := (act_0 (mayJoin_0 h1).1).2.2.2
      have ho := join_h c e hs (by have := h.l0; omega) (by have := h.l1; omega)
      generalize joinP c e = c' at hd ho ⊢
      rw [ev_eq k] at hm ho ⊢
      exact applyY2_h c c' _ _ _ _ _ hm hd ho
    · rw [if_neg (by omega), if_neg (by omega), if_pos k] at h1 hd ⊢
      have hs := (act_0 (mayInput_0 h1)).2.2.2
      have hle := h.le
      have ho := input_h c e (by omega) (by omega) (by omega) hs h.g h.B
      generalize inputP c e = c' at hd ho ⊢
      rw [ev_eq k] at hm ho ⊢
      exact applyY3_h c c' _ _ _ _ _ (by omega) (by omega) hm hd ho
    · rw [if_neg (by omega), if_neg (by omega), if_neg (by omega), if_pos k] at h1 hd ⊢
      have hs := (act_0 h1).2.2.2
      have ho := forfeit_h c e hs
      generalize forfeitP c e = c' at hd ho ⊢
      rw [ev_eq k] at hm ho ⊢
      exact applyY4_h c c' _ _ _ _ _ hm hd ho
    rw [if_neg (by omega), if_neg (by omega), if_neg (by omega), if_neg (by omega)] at h1 hd ⊢
    have hs : 0 ≤ seatP c e.player := by
      unfold mayResultP at h1
      by_cases q1 : c.opn = false
      · rw [if_pos q1] at h1; cases h1
      rw [if_neg q1] at h1
      by_cases q2 : c.over = true
      · rw [if_pos q2] at h1; cases h1
      rw [if_neg q2] at h1
      by_cases q3 : (resP c.st c.cap).2.2 = false
      · rw [if_pos q3] at h1; cases h1
      rw [if_neg q3] at h1
      by_cases q4 : e.player ≠ (if (resP c.st c.cap).1 = 0 then c.p0 else c.p1) ∨ e.n ≠ (resP c.st c.cap).2.1
      · rw [if_pos q4] at h1; cases h1
      have q5 : e.player = (if (resP c.st c.cap).1 = 0 then c.p0 else c.p1) := Decidable.byContradiction fun x => q4 (.inl x)
      unfold seatP
      rw [q5]
      by_cases w : (resP c.st c.cap).1 = 0
      · rw [if_pos w, if_pos rfl]; omega
      rw [if_neg w]
      by_cases y : c.p0 = c.p1
      · rw [if_pos y]; omega
      rw [if_neg y, if_pos rfl]; omega
    have ho := result_h c e hs
    generalize resultP c e = c' at hd ho ⊢
    rw [ev_eq k] at hm ho ⊢
    exact applyY5_h c c' _ _ _ _ _ h.win hm hd ho
  have en : nextP c e = c := by unfold nextP; rw [if_neg hm]
  rw [en]
  rcases (by omega : e.kind = 1 ∨ e.kind = 2 ∨ e.kind = 3 ∨ e.kind = 4 ∨ e.kind = 5) with k | k | k | k | k
  · rw [ev_eq k] at hm ⊢; exact applyN1_h c _ _ _ _ _ hm
  · rw [ev_eq k] at hm ⊢; exact applyN2_h c _ _ _ _ _ hm
  · rw [ev_eq k] at hm ⊢; exact applyN3_h c _ _ _ _ _ (by omega) (by omega) hm
  · rw [ev_eq k] at hm ⊢; exact applyN4_h c _ _ _ _ _ hm
  rw [ev_eq k] at hm ⊢; exact applyN5_h c _ _ _ _ _ h.win hm
/-- what both did, as a copy -/
theorem pairs_h (c : Ct) (hb : c.pairs.length ≤ 100000000) : Holds Try.prog 9 [.ptr (.arg 0) 0] [(.arg 0, ctB (.arg 0) c)] (fun r h' => r = .cell (.lst .no none 2 (prs c.pairs)) ∧ h' = [(.arg 0, ctB (.arg 0) c)]) := by
  refine holds_of_awp Try.func9 rfl (by decide +kernel) mixed Try.ntmps9 Try.results9 ?_
  refine zE ?_
  refine zc ?_;try exact trivial
  refine a_call [] (cloneP_h c.pairs hb) ok0 ?_ ?_ ?_
  · refine zs ?_;try exact trivial
  · refine zs ?_;try exact trivial
  rintro _ _ ⟨rfl, rfl⟩
  refine zc ?_;try exact trivial
end
section

end
section
def aWnS (P : Program) (l : List Oper) (t : Option Tmp) (w : Bool) (d : Option Tmp) (op : Op) (ty : TypeId) (ps : String) (af : Array Edge) (K : St → Prop) (s : St) : Prop :=
  aWn t s w (aStep P l.toArray ⟨d, op, ty, ps, af, none⟩ s K) (K (s.put d V.off))
def aWvS (P : Program) (l : List Oper) (v : V) (w : Bool) (d : Option Tmp) (op : Op) (ty : TypeId) (ps : String) (af : Array Edge) (K : St → Prop) (s : St) : Prop :=
  aWv v w (aStep P l.toArray ⟨d, op, ty, ps, af, none⟩ s K) (K (s.put d V.off))
section
variable {P : Program} {l : List Oper} {op : Op} {d : Option Tmp} {ty : TypeId} {ps : String} {af : Array Edge} {K : St → Prop} {s s' : St} {w : Bool}
@[congr] theorem cg_aWnS {t t' : Option Tmp} (h0 : t = t') (h1 : s = s') : aWnS P l t w d op ty ps af K s = aWnS P l t' w d op ty ps af K s' := by subst h0; subst h1; rfl
@[congr] theorem cg_aWvS {t t' : V} (h0 : t = t') (h1 : s = s') : aWvS P l t w d op ty ps af K s = aWvS P l t' w d op ty ps af K s' := by subst h0; subst h1; rfl
end
end
section

end
section
@[go_sem 1200] theorem t_ev6 {x0 x1 x2 x3 x4 x5 : C} {r : List C} : List.take 6 (List.drop 0 (x0 :: x1 :: x2 :: x3 :: x4 :: x5 :: r)) = [x0, x1, x2, x3, x4, x5] := nr rfl
def gev (l : List Ev) (i : Nat) : Ev := l.getD i ⟨0, 0, 0, 0, 0, 0⟩
theorem evs_drop (l : List Ev) (k : Nat) : (evs l).drop (k * 6) = evs (l.drop k) := by
  induction l generalizing k with
  | nil => simp [evs]
  | cons s l ih =>
    cases k with
    | zero => simp [evs]
    | succ k =>
      have e : evs (s :: l) = evD s ++ evs l := by simp [evs]
      have e2 : (evD s).length = 6 := rfl
      rw [e, List.drop_succ_cons, List.drop_append, e2, List.drop_eq_nil_of_le (by rw [e2]; omega), show (k + 1) * 6 - 6 = k * 6 by omega, ih]; rfl
@[go_sem ↓ 1200] theorem e_IAev {V' : V → Prop} {l : List Ev} {o : Own} {nl : Option Bool} {a : Int} {t : TypeId} (h0 : 0 ≤ a) (h1 : a < l.length) : aIA (some (none, t, 6)) (.cell (.lst o nl 6 (evs l))) a V' = V' (.cell (.mem (.val (.int .i64 (gev l a.toNat).kind) :: .val (.int .i64 (gev l a.toNat).player) :: .val (.int .i64 (gev l a.toNat).other) :: .val (.int .i64 (gev l a.toNat).frame) :: .val (.int .u16 (U16 (gev l a.toNat).inp)) :: .val (.int .i64 (gev l a.toNat).n) :: evs (l.drop (a.toNat + 1))))) := by
  have h2 : a.toNat < l.length := by omega
  have e : evs (l.drop a.toNat) = evD (gev l a.toNat) ++ evs (l.drop (a.toNat + 1)) := by
    have e : gev l a.toNat = l[a.toNat] := by simp [gev, List.getD, h2]
    rw [List.drop_eq_getElem_cons h2, e]; rfl
  have e3 := evs_drop l a.toNat
  rw [e] at e3
  simp only [aIA, evs_len, h0, true_and]
  have : a * ((6 : Nat) : Int) < ((l.length * 6 : Nat) : Int) := by omega
  simp only [this, true_and]
  rw [e3]; rfl
end
section
theorem gev_take {l : List Ev} {i : Nat} (h : i < l.length) : l.take (i + 1) = l.take i ++ [gev l i] := by
  rw [List.take_add_one, List.getElem?_eq_getElem h]; unfold gev; rw [List.getD_eq_getElem?_getD, List.getElem?_eq_getElem h]; rfl
theorem gev_split {l : List Ev} {i : Nat} (h : i < l.length) : l = l.take i ++ gev l i :: l.drop (i + 1) := by
  have e : gev l i = l[i] := by unfold gev; rw [List.getD_eq_getElem?_getD, List.getElem?_eq_getElem h]; rfl
  rw [e, ← List.drop_eq_getElem_cons h, List.take_append_drop]
theorem leH_none {h : Heap} : leH [] h := by
  first | trivial | (intro i cs h; cases h)
theorem isResult_h (e : Ev) : Holds Try.prog 7 [.ev e] [] (fun r h' => r = V.bool (decide (e.kind = 5)) ∧ h' = []) := by
  refine holds_of_awp Try.func7 rfl (by decide +kernel) mixed Try.ntmps7 Try.results7 ?_
  refine zE ?_
  refine zs ?_;try exact trivial
section
variable (code : List (Int × Int)) (cap fuel : Int) (l : List Ev) (hcl : code.length ≤ 9223372036854775807)
include hcl
abbrev fR : W := .c (.fn (.func 7) [] [])
set_option maxRecDepth 20000 in
set_option maxHeartbeats 4000000 in
theorem taken_h (hl : l.length ≤ 1000) (hg : gameP code cap fuel = 0) : Holds Try.prog 6 [.game code cap fuel, .c (.lst .no none 6 (evs l)), fR] [] (fun r h' =>
    ((ovE (ctNew code cap fuel) 0 l).2 ≠ 0 → r = .tup [.c (.val (.pointer none)), .int .i64 (ovE (ctNew code cap fuel) 0 l).1, .int .i64 (ovE (ctNew code cap fuel) 0 l).2] ∧ h' = []) ∧
    ((ovE (ctNew code cap fuel) 0 l).2 = 0 → r = .tup [.c (.ptr (.loc [16, 0, 14]) 0), .int .i64 0, .int .i64 0] ∧ h' = [(.loc [16, 0, 14], ctB (.loc [16, 0, 14]) (ovC (ctNew code cap fuel) l))])) := by
  have hn := new_ok18 code cap fuel hcl hg
  have hI := inv_new hg
  have h0 : (ctNew code cap fuel).events.length = 0 := rfl
  generalize ctNew code cap fuel = c0 at hn hI h0
  refine holds_of_awp Try.func6 rfl (by decide +kernel) mixed Try.ntmps6 Try.results6 ?_
  refine zE ?_
  refine zs ?_;try exact trivial
  refine a_call [] (hn) ok0 ?_ ?_ ?_
  · refine zs ?_;try exact trivial
  · refine zs ?_;try exact trivial
  rintro _ _ ⟨rfl, rfl⟩
  refine zc ?_;try exact trivial
  refine a_loopk (fun i : Nat => ⟨[.undef, V.cell (.lst .no none 6 (evs l)), .w fR, U, U, U, V.w (.c (.val (.pointer none))), V.int .i64 0, V.int .i64 0, V.cell (.ptr (.loc [16, 0, 14]) 0), U, U, U, U, U, U, U, U, U, U, U, U, V.cell (.lst .no none 6 (evs l)), V.int .i64 l.length, V.int .i64 (i : Int), U, U, U, U, U, U, U, U, U, U, U, U, U, U, U, .undef], [(.loc [16, 0, 14], ctB (.loc [16, 0, 14]) (ovC c0 (l.take i)))]⟩) (fun i => i ≤ l.length ∧ (ovE c0 0 (l.take i)).2 = 0) (fun i => l.length - i) 0 ⟨by omega, by simp [ovE]⟩ ?_ ?_
  · rw [show ovC c0 (l.take 0) = c0 from rfl]
    try (refine zs ?_; try exact trivial)
  rintro i ⟨hi, hE⟩
  refine zs ?_;try exact trivial
  cases g : decide ((i : Int) < (l.length : Int))
  · have e : l.take i = l := List.take_of_length_le (by have := of_decide_eq_false g; omega)
    rw [e] at hE ⊢
    simp (maxSteps:=2000000) (disch:=omega) only [go_sem,Nat.reduceAdd,Nat.reduceSub,Nat.reduceMul,Nat.reduceBEq,Nat.reduceEqDiff,Nat.reduceLT,Nat.reduceLeDiff,Nat.reduceDiv,reduceIte,reduceCtorEq, g]
    exact ⟨_, _, leV_refl _, leH_refl _, fun q => absurd hE q, fun _ => ⟨rfl, rfl⟩⟩
  have g' := of_decide_eq_true g
  have hlt : i < l.length := by omega
  have hsp := gev_split hlt
  have htk := gev_take hlt
  have hc := ov_len (l := l.take i) (c := c0)
  have hlen : (l.take i).length = i := by rw [List.length_take]; omega
  rw [hlen] at hc
  have hIc := hI.ov (l := l.take i)
  have hap := apply_all (ovC c0 (l.take i)) (gev l i) hIc (by omega)
  have hre := isResult_h (gev l i)
  simp (maxSteps:=2000000) (disch:=omega) only [go_sem,Nat.reduceAdd,Nat.reduceSub,Nat.reduceMul,Nat.reduceBEq,Nat.reduceEqDiff,Nat.reduceLT,Nat.reduceLeDiff,Nat.reduceDiv,reduceIte,reduceCtorEq, g]
  refine a_call [] (hre) ok0 ?_ ?_ ?_
  · refine zs ?_;try exact trivial
  · refine zs ?_;try exact trivial
  rintro _ _ ⟨rfl, rfl⟩
  cases k : decide ((gev l i).kind = 5)
  · have hk := of_decide_eq_false k
    refine zc ?_;try exact trivial
    refine a_call [.loc [16, 0, 14]] (hap) (ok1 rfl) ?_ ?_ ?_
    · refine zs ?_;try exact trivial
    · refine zs ?_;try exact trivial
    rintro _ _ ⟨rfl, rfl⟩
    by_cases hm : mayP18 (ovC c0 (l.take i)) (gev l i) = 0
    · have hE2 := ovE_no hE (.inr hm)
      rw [← htk] at hE2
      have ec : ovC c0 (l.take (i + 1)) = nextP (ovC c0 (l.take i)) (gev l i) := by rw [htk, ovC_one, if_neg hk]
      rw [hm, ← ec]
      refine zc ?_;try exact trivial
      refine ⟨i + 1, by omega, ⟨by omega, hE2⟩, ?_⟩
      try (refine zc ?_; try exact trivial)
      all_goals first | exact leCs_refl _ | trace_state
    have hb := ovE_bad (b := l.drop (i + 1)) hE hk hm
    rw [← hsp, hlen] at hb
    have dm : decide (mayP18 (ovC c0 (l.take i)) (gev l i) = 0) = false := decide_eq_false hm
    generalize mayP18 (ovC c0 (l.take i)) (gev l i) = v at hb hm dm
    simp (maxSteps:=2000000) (disch:=omega) only [go_sem,Nat.reduceAdd,Nat.reduceSub,Nat.reduceMul,Nat.reduceBEq,Nat.reduceEqDiff,Nat.reduceLT,Nat.reduceLeDiff,Nat.reduceDiv,reduceIte,reduceCtorEq, dm, decide_not, Bool.not_false]
    refine ⟨_, [], leV_refl _, leH_none, fun _ => ?_, fun q => absurd (by rw [hb] at q; exact q) hm⟩
    rw [hb]
    exact ⟨rfl, rfl⟩
  have hk := of_decide_eq_true k
  have hE2 := ovE_no hE (e := gev l i) (.inl hk)
  rw [← htk] at hE2
  have ec : ovC c0 (l.take (i + 1)) = ovC c0 (l.take i) := by rw [htk, ovC_one, if_pos hk]
  rw [← ec]
  refine zc ?_;try exact trivial
  refine ⟨i + 1, by omega, ⟨by omega, hE2⟩, ?_⟩
  try (refine zc ?_; try exact trivial)
  all_goals first | exact leCs_refl _ | trace_state
end
end
section
def le4 (v : UInt32) : List UInt8 := [c32to8 v, c32to8 (shr32 v 8), c32to8 (shr32 v 16), c32to8 (shr32 v 24)]
theorem byt_le4 (v : UInt32) : [.val (.int .u8 (U8 (c32to8 v))), .val (.int .u8 (U8 (c32to8 (shr32 v 8)))), .val (.int .u8 (U8 (c32to8 (shr32 v 16)))), .val (.int .u8 (U8 (c32to8 (shr32 v 24))))] = byt (le4 v) := rfl

set_option maxHeartbeats 1000000 in
theorem clone_h (b : List UInt8) (hb : b.length ≤ 100000000) : Holds Try.prog 52 [.byt b] [] (fun v h' => v = V.own [7] b ∧ h' = []) := by
  refine holds_of_awp Try.func52 rfl (by decide +kernel) mixed Try.ntmps52 Try.results52 ?_
  refine zE ?_
  ((refine zs ?_; try exact trivial); repeat (with_reducible refine a_apA ?_; (refine zs ?_; try exact trivial)))
  refine ⟨fun e => ?_, ?_⟩
  · exact e
  refine a_apA ?_
  ((refine zs ?_; try exact trivial); repeat (with_reducible refine a_apA ?_; (refine zs ?_; try exact trivial)))
  omega
set_option maxHeartbeats 1000000 in
theorem put_h (b l : List UInt8) (hb : b.length + l.length ≤ 100000000) : Holds Try.prog 51 [.ptr (.arg 0) 0, .byt l] [(.arg 0, [.lst (.tag (.cell (.arg 0) 0)) none 1 (byt b)])] (fun v h' => v = .tup [] ∧ h' = [(.arg 0, [.lst (.tag (.cell (.arg 0) 0)) none 1 (byt (b ++ l))])]) := by
  refine holds_of_awp Try.func51 rfl (by decide +kernel) mixed Try.ntmps51 Try.results51 ?_
  refine zE ?_
  ((refine zs ?_; try exact trivial); repeat (with_reducible refine a_apA ?_; (refine zs ?_; try exact trivial)))
  omega
set_option maxHeartbeats 1000000 in
theorem wfour_h (b : List UInt8) (v : UInt32) (hb : b.length ≤ 90000000) : Holds Try.prog 26 [.ptr (.arg 0) 0, .int .u32 (U32 v)] [(.arg 0, [.lst (.tag (.cell (.arg 0) 0)) none 1 (byt b)])] (fun r h' => r = .tup [] ∧ h' = [(.arg 0, [.lst (.tag (.cell (.arg 0) 0)) none 1 (byt (b ++ le4 v))])]) := by
  refine holds_of_awp Try.func26 rfl (by decide +kernel) mixed Try.ntmps26 Try.results26 ?_
  refine zE ?_
  ((refine zs ?_; try exact trivial); repeat (with_reducible refine a_apA ?_; (refine zs ?_; try exact trivial)))
  simp only [byt_le4]
  refine a_call [.arg 0] (put_h b (le4 v) (by simp [le4]; omega)) (ok1 rfl) ?_ ?_ ?_
  · refine zs ?_;try exact trivial
  · refine zs ?_;try exact trivial
  rintro _ _ ⟨rfl, rfl⟩
  ((refine zs ?_; try exact trivial); repeat (with_reducible refine a_apA ?_; (refine zs ?_; try exact trivial)))
set_option maxHeartbeats 1000000 in
theorem out_h (b : List UInt8) (hb : b.length ≤ 90000000) : Holds Try.prog 28 [.ptr (.arg 0) 0] [(.arg 0, [.lst (.tag (.cell (.arg 0) 0)) none 1 (byt b)])] (fun r h' => r = V.own [9, 0, 7] b ∧ h' = [(.arg 0, [.lst (.tag (.cell (.arg 0) 0)) none 1 (byt b)])]) := by
  refine holds_of_awp Try.func28 rfl (by decide +kernel) mixed Try.ntmps28 Try.results28 ?_
  refine zE ?_
  ((refine zs ?_; try exact trivial); repeat (with_reducible refine a_apA ?_; (refine zs ?_; try exact trivial)))
  refine a_call [] (clone_h b (by omega)) ok0 ?_ ?_ ?_
  · refine zs ?_;try exact trivial
  · refine zs ?_;try exact trivial
  rintro _ _ ⟨rfl, rfl⟩
  ((refine zs ?_; try exact trivial); repeat (with_reducible refine a_apA ?_; (refine zs ?_; try exact trivial)))
end
section
abbrev wbx (i : Id) (b : List UInt8) : Id × List C := (i, [.lst (.tag (.cell i 0)) none 1 (byt b)])
theorem wbyte_h (b : List UInt8) (v : UInt8) (hb : b.length ≤ 90000000) : Holds Try.prog 27 [.ptr (.arg 0) 0, .int .u8 (U8 v)] [wbx (.arg 0) b] (fun r h' => r = .tup [] ∧ h' = [wbx (.arg 0) (b ++ [v])]) := by
  refine holds_of_awp Try.func27 rfl (by decide +kernel) mixed Try.ntmps27 Try.results27 ?_
  refine zE ?_
  ((refine zs ?_; try exact trivial); repeat (with_reducible refine a_apA ?_; (refine zs ?_; try exact trivial)))
  have eb : [D.val (.int .u8 (U8 v))] = byt [v] := rfl
  simp only [eb]
  refine a_call [.arg 0] (put_h b [v] (by simp; omega)) (ok1 rfl) ?_ ?_ ?_
  · refine zs ?_;try exact trivial
  · refine zs ?_;try exact trivial
  rintro _ _ ⟨rfl, rfl⟩
  ((refine zs ?_; try exact trivial); repeat (with_reducible refine a_apA ?_; (refine zs ?_; try exact trivial)))
set_option maxHeartbeats 1000000 in
theorem wnum_h (b : List UInt8) (v : Int) (h1 : -9223372036854775808 ≤ v) (h2 : v ≤ 9223372036854775807) (hb : b.length ≤ 80000000) : Holds Try.prog 25 [.ptr (.arg 0) 0, .int .i64 v] [wbx (.arg 0) b] (fun r h' => r = .tup [] ∧ h' = [wbx (.arg 0) (b ++ num (zz v))]) := by
  refine holds_of_awp Try.func25 rfl (by decide +kernel) mixed Try.ntmps25 Try.results25 ?_
  refine zE ?_
  ((refine zs ?_; try exact trivial); repeat (with_reducible refine a_apA ?_; (refine zs ?_; try exact trivial)))
  rw [zz_eq h1 h2]
  refine a_loopk (fun a : List UInt8 × UInt64 => ⟨[.w (.ptr (.arg 0) 0), U, U, U, V.int .u64 (U64 a.2), U, U, U, U, U, U, U, U, U, U, U, U, U, U, U, U, U, U, U, U, U, .undef], [wbx (.arg 0) (b ++ a.1)]⟩) (fun a => a.1 ++ num a.2 = num (zz v)) (fun a => a.2.toNat) ([], zz v) rfl ?_ ?_
  · ((refine zs ?_; try exact trivial); repeat (with_reducible refine a_apA ?_; (refine zs ?_; try exact trivial)))
  rintro ⟨l, u⟩ hk
  simp only at hk
  have hl : l.length ≤ 10 := by
    have := (num_len (zz v)).2
    rw [← hk, List.length_append] at this
    omega
  ((refine zs ?_; try exact trivial); repeat (with_reducible refine a_apA ?_; (refine zs ?_; try exact trivial)))
  refine c_dec (fun h => ?_) (fun h => ?_)
  · ((refine zs ?_; try exact trivial); repeat (with_reducible refine a_apA ?_; (refine zs ?_; try exact trivial)))
    have eb : [D.val (.int .u8 (U8 (or8 (c64to8 u) (UInt8.ofNat 128))))] = byt [or8 (c64to8 u) (UInt8.ofNat 128)] := rfl
    simp only [show (128 : Int).toNat = 128 from rfl, eb]
    refine a_call [.arg 0] (put_h (b ++ l) [or8 (c64to8 u) (UInt8.ofNat 128)] (by simp; omega)) (ok1 rfl) ?_ ?_ ?_
    · refine zs ?_;try exact trivial
    · refine zs ?_;try exact trivial
    rintro _ _ ⟨rfl, rfl⟩
    ((refine zs ?_; try exact trivial); repeat (with_reducible refine a_apA ?_; (refine zs ?_; try exact trivial)))
    have hu : 128 ≤ u.toNat := by unfold U64 at h; omega
    refine ⟨(l ++ [or8 (c64to8 u) (UInt8.ofNat 128)], shr64 u 7), by rw [shr64_nat]; omega, ?_, ?_⟩
    · rw [← hk, num_more hu]; simp
    ((refine zs ?_; try exact trivial); repeat (with_reducible refine a_apA ?_; (refine zs ?_; try exact trivial)))
    simp only [List.append_assoc]
  ((refine zs ?_; try exact trivial); repeat (with_reducible refine a_apA ?_; (refine zs ?_; try exact trivial)))
  have eb : [D.val (.int .u8 (U8 (c64to8 u)))] = byt [c64to8 u] := rfl
  simp only [eb]
  refine a_call [.arg 0] (put_h (b ++ l) [c64to8 u] (by simp; omega)) (ok1 rfl) ?_ ?_ ?_
  · refine zs ?_;try exact trivial
  · refine zs ?_;try exact trivial
  rintro _ _ ⟨rfl, rfl⟩
  have hu : ¬ 128 ≤ u.toNat := by unfold U64 at h; omega
  ((refine zs ?_; try exact trivial); repeat (with_reducible refine a_apA ?_; (refine zs ?_; try exact trivial)))
  rw [← hk, num_last hu]
  simp only [List.append_assoc]
end
section

end
section
def encC (l : List Int) : List UInt8 := (l.map fun c => le4 (ofI32 c)).flatten
theorem encC_len (l : List Int) : (encC l).length = l.length * 4 := by
  induction l with
  | nil => rfl
  | cons c l ih => simp only [encC, List.map_cons, List.flatten_cons, List.length_append, List.length_cons] at *; rw [ih]; simp [le4]; omega
theorem encC_snoc (l : List Int) (c : Int) : encC (l ++ [c]) = encC l ++ le4 (ofI32 c) := by simp [encC]
def boolB (b : Bool) : UInt8 := if b then 1 else 0
def encS (s : Sta) : List UInt8 := num (zz s.frame) ++ encC s.cells ++ le4 s.seed ++ [boolB s.over] ++ [ofI8 s.win]
set_option maxHeartbeats 2000000 in
theorem encode_h13 (s : Sta) (h1 : -9223372036854775808 ≤ s.frame) (h2 : s.frame ≤ 9223372036854775807) : Holds Try.prog 17 [.agg ((sd s).map D.toC)] [] (fun r h' => r = V.byt (encS s) ∧ h' = []) := by
  have hn := num_len (zz s.frame)
  refine holds_of_awp Try.func17 rfl (by decide +kernel) mixed Try.ntmps17 Try.results17 ?_
  refine zE ?_
  ((refine zs ?_; try exact trivial); repeat (with_reducible refine a_apA ?_; (refine zs ?_; try exact trivial)))
  refine a_call [.loc [3]] (wnum_h [] s.frame h1 h2 (by simp)) (ok1 rfl) ?_ ?_ ?_
  · refine zs ?_;try exact trivial
  · refine zs ?_;try exact trivial
  rintro _ _ ⟨rfl, rfl⟩
  ((refine zs ?_; try exact trivial); repeat (with_reducible refine a_apA ?_; (refine zs ?_; try exact trivial)))
  refine a_loopk (fun k : Nat => ⟨[.undef, V.cell (.ptr (.loc [1]) 0), V.w (.c (.lst .full (some true) 1 [])), V.cell (.ptr (.loc [3]) 0), U, U, U, U, U, U, U, .w (.agg ((c32 s.cells).map D.toC)), V.int .i64 k, U, U, U, U, U, U, U, U, U, U, U, U, U, U, U, U, U, .undef], [wbx (.loc [3]) (num (zz s.frame) ++ encC (s.cells.take k)), (.loc [1], (sd s).map D.toC)]⟩) (· ≤ 16) (16 - ·) 0 (by omega) ?_ ?_
  · ((refine zs ?_; try exact trivial); repeat (with_reducible refine a_apA ?_; (refine zs ?_; try exact trivial)))
    simp [encC, leCs_refl]
  intro k hk
  have hl := s.len
  have hc : (encC (s.cells.take k)).length ≤ 64 := by rw [encC_len, List.length_take]; omega
  ((refine zs ?_; try exact trivial); repeat (with_reducible refine a_apA ?_; (refine zs ?_; try exact trivial)))
  refine c_dec (fun h => ?_) (fun h => ?_)
  · have hk' : k < s.cells.length := by omega
    ((refine zs ?_; try exact trivial); repeat (with_reducible refine a_apA ?_; (refine zs ?_; try exact trivial)))
    refine a_call [.loc [3]] (wfour_h (num (zz s.frame) ++ encC (s.cells.take k)) (ofI32 (s.cells.getD k 0)) (by simp; omega)) (ok1 rfl) ?_ ?_ ?_
    · refine zs ?_;try exact trivial
    · refine zs ?_;try exact trivial
    rintro _ _ ⟨rfl, rfl⟩
    ((refine zs ?_; try exact trivial); repeat (with_reducible refine a_apA ?_; (refine zs ?_; try exact trivial)))
    refine ⟨k + 1, by omega, by omega, ?_⟩
    ((refine zs ?_; try exact trivial); repeat (with_reducible refine a_apA ?_; (refine zs ?_; try exact trivial)))
    have e : s.cells.take (k + 1) = s.cells.take k ++ [s.cells.getD k 0] := by
      rw [List.take_add_one]; simp [List.getD, hk']
    rw [e, encC_snoc]
    simp
  have : k = 16 := by omega
  subst this
  have e : s.cells.take 16 = s.cells := List.take_of_length_le (by omega)
  rw [e]
  have hc : (encC s.cells).length ≤ 64 := by rw [encC_len]; omega
  ((refine zs ?_; try exact trivial); repeat (with_reducible refine a_apA ?_; (refine zs ?_; try exact trivial)))
  refine a_call [.loc [3]] (wfour_h (num (zz s.frame) ++ encC s.cells) s.seed (by simp; omega)) (ok1 rfl) ?_ ?_ ?_
  · refine zs ?_;try exact trivial
  · refine zs ?_;try exact trivial
  rintro _ _ ⟨rfl, rfl⟩
  ((refine zs ?_; try exact trivial); repeat (with_reducible refine a_apA ?_; (refine zs ?_; try exact trivial)))
  have l4 : (le4 s.seed).length = 4 := rfl
  cases ho : s.over
  · ((refine zs ?_; try exact trivial); repeat (with_reducible refine a_apA ?_; (refine zs ?_; try exact trivial)))
    rw [show V.int .u8 0 = V.int .u8 (U8 0) from rfl]
    refine a_call [.loc [3]] (wbyte_h (num (zz s.frame) ++ encC s.cells ++ le4 s.seed) 0 (by simp; omega)) (ok1 rfl) ?_ ?_ ?_
    · refine zs ?_;try exact trivial
    · refine zs ?_;try exact trivial
    rintro _ _ ⟨rfl, rfl⟩
    ((refine zs ?_; try exact trivial); repeat (with_reducible refine a_apA ?_; (refine zs ?_; try exact trivial)))
    refine a_call [.loc [3]] (wbyte_h (num (zz s.frame) ++ encC s.cells ++ le4 s.seed ++ [0]) (ofI8 s.win) (by simp; omega)) (ok1 rfl) ?_ ?_ ?_
    · refine zs ?_;try exact trivial
    · refine zs ?_;try exact trivial
    rintro _ _ ⟨rfl, rfl⟩
    ((refine zs ?_; try exact trivial); repeat (with_reducible refine a_apA ?_; (refine zs ?_; try exact trivial)))
    refine a_call [.loc [3]] (out_h (num (zz s.frame) ++ encC s.cells ++ le4 s.seed ++ [0] ++ [ofI8 s.win]) (by simp; omega)) (ok1 rfl) ?_ ?_ ?_
    · refine zs ?_;try exact trivial
    · refine zs ?_;try exact trivial
    rintro _ _ ⟨rfl, rfl⟩
    ((refine zs ?_; try exact trivial); repeat (with_reducible refine a_apA ?_; (refine zs ?_; try exact trivial)))
    simp only [encS, ho, boolB]
    try ((refine zs ?_; try exact trivial); repeat (with_reducible refine a_apA ?_; (refine zs ?_; try exact trivial)))
  ((refine zs ?_; try exact trivial); repeat (with_reducible refine a_apA ?_; (refine zs ?_; try exact trivial)))
  rw [show V.int .u8 1 = V.int .u8 (U8 1) from rfl]
  refine a_call [.loc [3]] (wbyte_h (num (zz s.frame) ++ encC s.cells ++ le4 s.seed) 1 (by simp; omega)) (ok1 rfl) ?_ ?_ ?_
  · refine zs ?_;try exact trivial
  · refine zs ?_;try exact trivial
  rintro _ _ ⟨rfl, rfl⟩
  ((refine zs ?_; try exact trivial); repeat (with_reducible refine a_apA ?_; (refine zs ?_; try exact trivial)))
  refine a_call [.loc [3]] (wbyte_h (num (zz s.frame) ++ encC s.cells ++ le4 s.seed ++ [1]) (ofI8 s.win) (by simp; omega)) (ok1 rfl) ?_ ?_ ?_
  · refine zs ?_;try exact trivial
  · refine zs ?_;try exact trivial
  rintro _ _ ⟨rfl, rfl⟩
  ((refine zs ?_; try exact trivial); repeat (with_reducible refine a_apA ?_; (refine zs ?_; try exact trivial)))
  refine a_call [.loc [3]] (out_h (num (zz s.frame) ++ encC s.cells ++ le4 s.seed ++ [1] ++ [ofI8 s.win]) (by simp; omega)) (ok1 rfl) ?_ ?_ ?_
  · refine zs ?_;try exact trivial
  · refine zs ?_;try exact trivial
  rintro _ _ ⟨rfl, rfl⟩
  ((refine zs ?_; try exact trivial); repeat (with_reducible refine a_apA ?_; (refine zs ?_; try exact trivial)))
  simp only [encS, ho, boolB]
  try ((refine zs ?_; try exact trivial); repeat (with_reducible refine a_apA ?_; (refine zs ?_; try exact trivial)))
end
section
def rot (x : UInt32) (n : Nat) : UInt32 := or32 (shr32 x n) (shl32 x (32 - n))
def shaS0 (x : UInt32) : UInt32 := xor32 (xor32 (rot x 7) (rot x 18)) (shr32 x 3)
def shaS1 (x : UInt32) : UInt32 := xor32 (xor32 (rot x 17) (rot x 19)) (shr32 x 10)
def shaB0 (x : UInt32) : UInt32 := xor32 (xor32 (rot x 2) (rot x 13)) (rot x 22)
def shaB1 (x : UInt32) : UInt32 := xor32 (xor32 (rot x 6) (rot x 11)) (rot x 25)
def shaCh (x y z : UInt32) : UInt32 := xor32 (and32 x y) (and32 (not32 x) z)
def shaMaj (x y z : UInt32) : UInt32 := xor32 (xor32 (and32 x y) (and32 x z)) (and32 y z)

def shaK : List UInt32 := [
  0x428a2f98, 0x71374491, 0xb5c0fbcf, 0xe9b5dba5, 0x3956c25b, 0x59f111f1, 0x923f82a4, 0xab1c5ed5,
  0xd807aa98, 0x12835b01, 0x243185be, 0x550c7dc3, 0x72be5d74, 0x80deb1fe, 0x9bdc06a7, 0xc19bf174,
  0xe49b69c1, 0xefbe4786, 0x0fc19dc6, 0x240ca1cc, 0x2de92c6f, 0x4a7484aa, 0x5cb0a9dc, 0x76f988da,
  0x983e5152, 0xa831c66d, 0xb00327c8, 0xbf597fc7, 0xc6e00bf3, 0xd5a79147, 0x06ca6351, 0x14292967,
  0x27b70a85, 0x2e1b2138, 0x4d2c6dfc, 0x53380d13, 0x650a7354, 0x766a0abb, 0x81c2c92e, 0x92722c85,
  0xa2bfe8a1, 0xa81a664b, 0xc24b8b70, 0xc76c51a3, 0xd192e819, 0xd6990624, 0xf40e3585, 0x106aa070,
  0x19a4c116, 0x1e376c08, 0x2748774c, 0x34b0bcb5, 0x391c0cb3, 0x4ed8aa4a, 0x5b9cca4f, 0x682e6ff3,
  0x748f82ee, 0x78a5636f, 0x84c87814, 0x8cc70208, 0x90befffa, 0xa4506ceb, 0xbef9a3f7, 0xc67178f2]

/-- a byte, a word at a place -/
def b8 (b : List UInt8) (i : Nat) : UInt8 := b.getD i 0
def w32 (b : List UInt32) (i : Nat) : UInt32 := b.getD i 0
def be32 (b : List UInt8) (i : Nat) : UInt32 :=
  or32 (or32 (or32 (shl32 (c8to32 (b8 b (4*i))) 24) (shl32 (c8to32 (b8 b (4*i+1))) 16)) (shl32 (c8to32 (b8 b (4*i+2))) 8)) (c8to32 (b8 b (4*i+3)))
def shaFill (b : List UInt8) : Nat → List UInt32
  | 0 => List.replicate 64 0
  | k+1 => (shaFill b k).set k (be32 b k)
def extVal (ws : List UInt32) (k : Nat) : UInt32 :=
  add32 (add32 (add32 (w32 ws k) (shaS0 (w32 ws (k+1)))) (w32 ws (k+9))) (shaS1 (w32 ws (k+14)))
def shaExt (w0 : List UInt32) : Nat → List UInt32
  | 0 => w0
  | k+1 => (shaExt w0 k).set (k+16) (extVal (shaExt w0 k) k)
def shaT (ws v : List UInt32) (j : Nat) : UInt32 :=
  add32 (add32 (add32 (add32 (w32 v 7) (shaB1 (w32 v 4))) (shaCh (w32 v 4) (w32 v 5) (w32 v 6))) (w32 shaK j)) (w32 ws j)
def shaU (v : List UInt32) : UInt32 := add32 (shaB0 (w32 v 0)) (shaMaj (w32 v 0) (w32 v 1) (w32 v 2))
def shaStep (ws v : List UInt32) (j : Nat) : List UInt32 :=
  [add32 (shaT ws v j) (shaU v), w32 v 0, w32 v 1, w32 v 2, add32 (w32 v 3) (shaT ws v j), w32 v 4, w32 v 5, w32 v 6]
def shaRounds (ws v0 : List UInt32) : Nat → List UInt32
  | 0 => v0
  | j+1 => shaStep ws (shaRounds ws v0 j) j
def shaAdd (v : List UInt32) (s : List UInt32) : Nat → List UInt32
  | 0 => s
  | i+1 => (shaAdd v s i).set i (add32 (w32 (shaAdd v s i) i) (w32 v i))
def shaBlock (s : List UInt32) (b : List UInt8) : List UInt32 :=
  let ws := shaExt (shaFill b 16) 48
  shaAdd (shaRounds ws s 64) s 8

theorem shaFill_len (b : List UInt8) (k : Nat) : (shaFill b k).length = 64 := by
  induction k with
  | zero => rfl
  | succ k ih => simp [shaFill, ih]
theorem shaExt_len (w0 : List UInt32) (h : w0.length = 64) (k : Nat) : (shaExt w0 k).length = 64 := by
  induction k with
  | zero => exact h
  | succ k ih => simp [shaExt, ih]
theorem shaRounds_len (ws v0 : List UInt32) (h : v0.length = 8) (k : Nat) : (shaRounds ws v0 k).length = 8 := by
  cases k with
  | zero => exact h
  | succ k => rfl
theorem shaAdd_len (v s : List UInt32) (h : s.length = 8) (k : Nat) : (shaAdd v s k).length = 8 := by
  induction k with
  | zero => exact h
  | succ k ih => simp [shaAdd, ih]

theorem bcells_get (xs : List UInt8) (i : Nat) (h : i < xs.length) : (bcells xs)[i]? = some (.int .u8 (U8 (b8 xs i))) := by
  simp [bcells, BV, h, b8, List.getD]
theorem bcells_set (xs : List UInt8) (i : Nat) (x : UInt8) : (bcells xs).setIfInBounds i (.int .u8 (U8 x)) = bcells (xs.set i x) := by
  simp [bcells, BV, List.map_set]
theorem Blk.byte {w : World} {g : Nat} {t : TypeId} {xs : List UInt8} (h : Blk w g t (bcells xs)) {i : Nat} (hi : i < xs.length) :
    w.cell? ⟨g, i, none⟩ = some (.int .u8 (U8 (b8 xs i))) := by rw [h.cell, bcells_get _ _ hi]
theorem Blk.byte' {w : World} {g : Nat} {t : TypeId} {xs : List UInt8} (h : Blk w g t (bcells xs)) {i o : Nat} (hi : i < xs.length) (ho : o = i) :
    w.cell? ⟨g, o, none⟩ = some (.int .u8 (U8 (b8 xs i))) := by subst ho; exact h.byte hi
theorem Blk.setByte {w : World} {g : Nat} {t : TypeId} {xs : List UInt8} (h : Blk w g t (bcells xs)) (i : Nat) (x : UInt8) :
    Blk (w.setCell ⟨g, i, none⟩ (.int .u8 (U8 x))) g t (bcells (xs.set i x)) := by
  have := h.set_ i (.int .u8 (U8 x)); rw [bcells_set] at this; exact this

/-- words as cells -/
def wcells (xs : List UInt32) : Array Value := (xs.map WV).toArray
theorem wcells_get (xs : List UInt32) (i : Nat) (h : i < xs.length) : (wcells xs)[i]? = some (.int .u32 (U32 (w32 xs i))) := by
  simp [wcells, WV, h, w32, List.getD]
theorem wcells_set (xs : List UInt32) (i : Nat) (x : UInt32) : (wcells xs).setIfInBounds i (.int .u32 (U32 x)) = wcells (xs.set i x) := by
  simp [wcells, WV, List.map_set]
theorem Blk.word {w : World} {g : Nat} {t : TypeId} {xs : List UInt32} (h : Blk w g t (wcells xs)) {i : Nat} (hi : i < xs.length) :
    w.cell? ⟨g, i, none⟩ = some (.int .u32 (U32 (w32 xs i))) := by rw [h.cell, wcells_get _ _ hi]
theorem Blk.setWord {w : World} {g : Nat} {t : TypeId} {xs : List UInt32} (h : Blk w g t (wcells xs)) (i : Nat) (x : UInt32) :
    Blk (w.setCell ⟨g, i, none⟩ (.int .u32 (U32 x))) g t (wcells (xs.set i x)) := by
  have := h.set_ i (.int .u32 (U32 x)); rw [wcells_set] at this; exact this
end
section
/-- cs with vs laid over it from o on -/
def splice (cs : Array Value) (o : Nat) (vs : Array Value) : Array Value := (cs.toList.take o ++ vs.toList ++ cs.toList.drop (o + vs.size)).toArray

theorem splice_all (cs vs : Array Value) (h : cs.size = vs.size) : splice cs 0 vs = vs := by
  unfold splice
  rw [List.drop_eq_nil_of_le (by simp [h])]
  simp

section
variable {P : Program} {ops : Array Oper} {rest : List Oper} {o : Oper} {a : Go.Act} {w : World} {Q : Exit → Go.Act → World → Prop}

theorem run_store_row (w : World) (ty : TypeId) (g off : Nat) (v : Value) (t : TypeId) (cs : Array Value) (hg : Blk w g t cs)
    (hi : (P.info? ty).map (·.size) = some v.cells.size) (hfit : off + v.cells.size ≤ cs.size) (h1 : ∀ u ∈ v.cells.toList, u.oneCell' = true) :
    (storeVar ty ⟨g, off, none⟩ v).run P w = .ok () (w.setRow g (splice cs off v.cells)) := by
  cases hq : P.info? ty with
  | none => simp [hq] at hi
  | some i =>
    have hs : i.size = v.cells.size := by simpa [hq] using hi
    have := run_storeCells_at P g off t v.cells.toList 0 cs w hg (by simpa using hfit) h1
    simp only [Nat.add_zero, Array.length_toList] at this
    simp [storeVar, sizeOf, typeInfo, hq, hs, this, splice]

theorem setRow_blk (w : World) (g : Nat) (t : TypeId) (cs cs' : Array Value) (h : Blk w g t cs) : Blk (w.setRow g cs') g t cs' := setRow_heap w g cs cs' t _ h
theorem setRow_grown (w : World) (g : Nat) (cs' : Array Value) : w.grownBy (w.setRow g cs') (some g) :=
  ⟨rfl, rfl, rfl, by simp, fun k _ hk => setRow_other w g k _ (fun e => hk (by simp [e]))⟩

theorem wp_store_row {K : Go.Act → World → Prop} (ty : TypeId) (x y : Operand) (ho : o.op = .store ty x y)
    (g off : Nat) (hx : a.eval x = .pointer (some ⟨g, off, none⟩)) (v : Value) (hy : a.eval y = v) (t : TypeId) (cs : Array Value) (hg : Blk w g t cs)
    (hi : (P.info? ty).map (·.size) = some v.cells.size) (hfit : off + v.cells.size ≤ cs.size) (h1 : ∀ u ∈ v.cells.toList, u.oneCell' = true)
    (h : ∀ w', Blk w' g t (splice cs off v.cells) → w.grownBy w' (some g) → w'.heap.size = w.heap.size → w'.drawn = w.drawn → K (a.put o.dst undef) w') : o.wp P a w K Q := by
  unfold Oper.wp execOp
  simp only [ho, hx, hy, Instr.storeAt, Instr.sureAddr, Sem.run_bind, Sem.run_pure, Result.andThen_ok, run_store_row w ty g off v t cs hg hi hfit h1]
  exact h _ (setRow_blk w g t cs _ hg) (setRow_grown w g _) (by simp) rfl

theorem wpList_store_row (hgd : o.guard = none) (ty : TypeId) (x y : Operand) (ho : o.op = .store ty x y)
    (g off : Nat) (hx : a.eval x = .pointer (some ⟨g, off, none⟩)) (v : Value) (hy : a.eval y = v) (t : TypeId) (cs : Array Value) (hg : Blk w g t cs)
    (hi : (P.info? ty).map (·.size) = some v.cells.size) (hfit : off + v.cells.size ≤ cs.size) (h1 : ∀ u ∈ v.cells.toList, u.oneCell' = true)
    (h : ∀ w', Blk w' g t (splice cs off v.cells) → w.grownBy w' (some g) → w'.heap.size = w.heap.size → w'.drawn = w.drawn → wpList P ops Q rest (a.put o.dst undef) w') : wpList P ops Q (o :: rest) a w :=
  wpList_plain hgd fun _ hK => wp_store_row ty x y ho g off hx v hy t cs hg hi hfit h1 fun w' h2 h3 h4 h5 => hK _ _ (h w' h2 h3 h4 h5)

theorem wp_alloc_row {K : Go.Act → World → Prop} (ty : TypeId) (ho : o.op = .alloc ty) (z : Value) (hz : (P.info? ty).bind (·.zero) = some z)
    (h : ∀ w', Blk w' w.heap.size ty z.cells → w.grownBy w' none → w'.heap.size = w.heap.size + 1 → w'.drawn = w.drawn → K (a.put o.dst (.pointer (some ⟨w.heap.size, 0, none⟩))) w') : o.wp P a w K Q := by
  cases hq : P.info? ty with
  | none => simp [hq] at hz
  | some i =>
    have hz' : i.zero = some z := by simpa [hq] using hz
    unfold Oper.wp execOp
    simp only [ho, Instr.alloc, zeroValue, typeInfo, newVar, newRow]
    simp [hq, hz']
    exact h _ (Blk.new w ty z.cells) (World.grownBy_alloc w _ none) (by simp) rfl

theorem wpList_alloc_row (hgd : o.guard = none) (ty : TypeId) (ho : o.op = .alloc ty) (z : Value) (hz : (P.info? ty).bind (·.zero) = some z)
    (h : ∀ w', Blk w' w.heap.size ty z.cells → w.grownBy w' none → w'.heap.size = w.heap.size + 1 → w'.drawn = w.drawn → wpList P ops Q rest (a.put o.dst (.pointer (some ⟨w.heap.size, 0, none⟩))) w') : wpList P ops Q (o :: rest) a w :=
  wpList_plain hgd fun _ hK => wp_alloc_row ty ho z hz fun w' h2 h3 h4 h5 => hK _ _ (h w' h2 h3 h4 h5)

theorem wpList_copy_row (hgd : o.guard = none) (d s : Operand) (dT sT : TypeId)
    (ho : o.op = .call { callee := .builtin .copy, args := #[d, s], argTypes := #[dT, sT] }) (elem : TypeId) (hu : P.underlying dT = some (.slice elem)) (hsz : (P.info? elem).map (·.size) = some 1)
    (sp : Option Addr) (g off dLen dCap sLen sCap : Nat) (hd : a.eval d = .slice (some ⟨g, off, none⟩) dLen dCap) (hs : a.eval s = .slice sp sLen sCap)
    (cur : Array Value) (t : TypeId) (hg : Blk w g t cur) (cs : List Value) (hn : cs.length = Nat.min sLen dLen)
    (hr : Rd w sp cs) (hfit : off + cs.length ≤ cur.size) (h1 : ∀ v ∈ cs, v.oneCell' = true)
    (h : ∀ w', Blk w' g t (splice cur off cs.toArray) → w.grownBy w' (some g) → w'.heap.size = w.heap.size → w'.drawn = w.drawn → wpList P ops Q rest (a.put o.dst (goInt cs.length)) w') :
    wpList P ops Q (o :: rest) a w := by
  by_cases h0 : cs.length = 0
  · obtain rfl : cs = [] := List.eq_nil_of_length_eq_zero h0
    refine wpList_copy_nothing hgd d s dT sT ho elem hu hsz _ sp dLen dCap sLen sCap hd hs (by simpa using hn.symm) ?_
    refine h w ?_ ⟨rfl, rfl, rfl, Nat.le_refl _, fun _ _ _ => rfl⟩ rfl rfl
    unfold splice
    simpa using hg
  obtain ⟨ad, rfl, hsrc⟩ := hr (by omega)
  refine wpList_copy_own hgd d s dT sT ho elem hu hsz g off dLen dCap ad sLen sCap hd hs cur t hg cs hn hsrc hfit h1 ?_
  refine h _ ?_ (setRow_grown w g _) (by simp) rfl
  have := setRow_blk w g t cur (splice cur off cs.toArray) hg
  unfold splice at this ⊢
  simpa using this

theorem run_index_agg {t e : TypeId} {n : Nat} {d : TypeDesc} {i : TypeInfo} (hu : P.underlying t = some (.array n e)) (he : P.underlying e = some d) (hd : (match d with | .struct _ | .array _ _ => true | _ => false) = false)
    (hi : P.info? e = some i) (hsz : i.size = 1) (cs : Array Value) (k : IntKind) (j : Nat) (hj : j < n) (v : Value) (hv : cs[j]? = some v) (w : World) :
    (Instr.index t (.agg cs) (.int k (j : Int))).run P w = .ok v w := by
  have hagg : (isAgg e).run P w = .ok false w := by
    unfold isAgg
    rw [Sem.run_bind, run_underlying he w]
    cases d <;> simp_all
  have h1 : (0 : Int) ≤ (j : Int) ∧ (j : Int) < (n : Int) := by omega
  simp [Instr.index, asIntOf, run_underlying hu, h1, hj, sizeOf, typeInfo, hi, hsz, part, hagg, hv]

/-- a new variable: its block is g, which was not there -/
theorem wpA (hgd : o.guard = none) (ty : TypeId) (ho : o.op = .alloc ty) (z : Value) (hz : (P.info? ty).bind (·.zero) = some z)
    (h : ∀ (g : Nat) (w' : World), w.heap.size ≤ g → Blk w' g ty z.cells → Kept [] w w' → wpList P ops Q rest (a.put o.dst (.pointer (some ⟨g, 0, none⟩))) w') : wpList P ops Q (o :: rest) a w :=
  wpList_alloc_row hgd ty ho z hz fun w' h2 h3 _ _ => h _ w' (Nat.le_refl _) h2 (Kept.of_grown h3 (by simp))
/-- a whole variable is stored -/
theorem wpS (hgd : o.guard = none) (ty : TypeId) (x y : Operand) (ho : o.op = .store ty x y)
    (g : Nat) (hx : a.eval x = .pointer (some ⟨g, 0, none⟩)) (v : Value) (hy : a.eval y = v) (t : TypeId) (cs : Array Value) (hg : Blk w g t cs)
    (hi : (P.info? ty).map (·.size) = some v.cells.size) (hfit : v.cells.size = cs.size) (h1 : ∀ u ∈ v.cells.toList, u.oneCell' = true)
    (h : ∀ w', Blk w' g t v.cells → Kept [g] w w' → wpList P ops Q rest (a.put o.dst undef) w') : wpList P ops Q (o :: rest) a w :=
  wpList_store_row hgd ty x y ho g 0 hx v hy t cs hg hi (by omega) h1 fun w' h2 h3 _ _ => h w' (by rwa [splice_all _ _ hfit.symm] at h2) (Kept.of_grown h3 (by simp))
/-- a whole variable is loaded -/
theorem wpL (hgd : o.guard = none) (ty : TypeId) (x : Operand) (ho : o.op = .load ty x)
    (g : Nat) (hx : a.eval x = .pointer (some ⟨g, 0, none⟩)) (t : TypeId) (cs : Array Value) (d : TypeDesc) (hg : Blk w g t cs)
    (hu : P.underlying ty = some d) (hd : (match d with | .struct _ | .array _ _ => true | _ => false) = true) (hi : (P.info? ty).map (·.size) = some cs.size)
    (h : wpList P ops Q rest (a.put o.dst (.agg cs)) w) : wpList P ops Q (o :: rest) a w :=
  wpList_load_row hgd ty x ho g hx t cs (0, 0) d hg hu hd hi h
/-- copy -/
theorem wpC (hgd : o.guard = none) (d s : Operand) (dT sT : TypeId)
    (ho : o.op = .call { callee := .builtin .copy, args := #[d, s], argTypes := #[dT, sT] }) (elem : TypeId) (hu : P.underlying dT = some (.slice elem)) (hsz : (P.info? elem).map (·.size) = some 1)
    (sp : Option Addr) (g off dLen dCap sLen sCap : Nat) (hd : a.eval d = .slice (some ⟨g, off, none⟩) dLen dCap) (hs : a.eval s = .slice sp sLen sCap)
    (cur : Array Value) (t : TypeId) (hg : Blk w g t cur) (cs : List Value) (hn : cs.length = Nat.min sLen dLen)
    (hr : Rd w sp cs) (hfit : off + cs.length ≤ cur.size) (h1 : ∀ v ∈ cs, v.oneCell' = true) (m : Nat) (hm : cs.length = m)
    (h : ∀ w', Blk w' g t (splice cur off cs.toArray) → Kept [g] w w' → wpList P ops Q rest (a.put o.dst (.int .i64 (m : Int))) w') :
    wpList P ops Q (o :: rest) a w := by
  subst hm
  exact wpList_copy_row hgd d s dT sT ho elem hu hsz sp g off dLen dCap sLen sCap hd hs cur t hg cs hn hr hfit h1 fun w' h2 h3 _ _ => h w' h2 (Kept.of_grown h3 (by simp))
end
end
section
set_option maxHeartbeats 400000 in
theorem dTurn (w : World) (x : UInt32) (n : Int) (h0 : 0 ≤ n) (hn : n ≤ 32) :
    Calls Try.prog 58 #[.int .u32 (U32 x), .int .u64 n] w fun e w' => e = .returned (.int .u32 (U32 (rot x n.toNat))) ∧ w = w' := by
  obtain ⟨n, rfl⟩ := Int.eq_ofNat_of_zero_le h0
  go_enter Try.func58, Try.ntmps58
  have h2 : IntKind.u64.wrap (32 - (n : Int)) = 32 - (n : Int) := IntWalk.u64_in _ (by omega)
  have h3 : (32 - (n : Int)).toNat = 32 - n := by omega
  go_wp2
  go_ret
  exact ⟨rfl, rfl⟩

set_option maxHeartbeats 400000 in
theorem dS0 (w : World) (x : UInt32) :
    Calls Try.prog 45 #[.int .u32 (U32 x)] w fun e w' => e = .returned (.int .u32 (U32 (shaS0 x))) ∧ w = w' := by
  go_enter Try.func45, Try.ntmps45
  go_wp2_with fail
  (with_reducible refine (dTurn _ x 7 (by omega) (by omega)).mono ?_); rintro e w' ⟨rfl, rfl⟩
  go_wp2_with fail
  (with_reducible refine (dTurn _ x 18 (by omega) (by omega)).mono ?_); rintro e w' ⟨rfl, rfl⟩
  go_wp2_with fail
  go_ret
  exact ⟨rfl, rfl⟩

set_option maxHeartbeats 400000 in
theorem dS1 (w : World) (x : UInt32) :
    Calls Try.prog 46 #[.int .u32 (U32 x)] w fun e w' => e = .returned (.int .u32 (U32 (shaS1 x))) ∧ w = w' := by
  go_enter Try.func46, Try.ntmps46
  go_wp2_with fail
  (with_reducible refine (dTurn _ x 17 (by omega) (by omega)).mono ?_); rintro e w' ⟨rfl, rfl⟩
  go_wp2_with fail
  (with_reducible refine (dTurn _ x 19 (by omega) (by omega)).mono ?_); rintro e w' ⟨rfl, rfl⟩
  go_wp2_with fail
  go_ret
  exact ⟨rfl, rfl⟩

set_option maxHeartbeats 400000 in
theorem dB0 (w : World) (x : UInt32) :
    Calls Try.prog 49 #[.int .u32 (U32 x)] w fun e w' => e = .returned (.int .u32 (U32 (shaB0 x))) ∧ w = w' := by
  go_enter Try.func49, Try.ntmps49
  go_wp2_with fail
  (with_reducible refine (dTurn _ x 2 (by omega) (by omega)).mono ?_); rintro e w' ⟨rfl, rfl⟩
  go_wp2_with fail
  (with_reducible refine (dTurn _ x 13 (by omega) (by omega)).mono ?_); rintro e w' ⟨rfl, rfl⟩
  go_wp2_with fail
  (with_reducible refine (dTurn _ x 22 (by omega) (by omega)).mono ?_); rintro e w' ⟨rfl, rfl⟩
  go_wp2_with fail
  go_ret
  exact ⟨rfl, rfl⟩

set_option maxHeartbeats 400000 in
theorem dB1 (w : World) (x : UInt32) :
    Calls Try.prog 47 #[.int .u32 (U32 x)] w fun e w' => e = .returned (.int .u32 (U32 (shaB1 x))) ∧ w = w' := by
  go_enter Try.func47, Try.ntmps47
  go_wp2_with fail
  (with_reducible refine (dTurn _ x 6 (by omega) (by omega)).mono ?_); rintro e w' ⟨rfl, rfl⟩
  go_wp2_with fail
  (with_reducible refine (dTurn _ x 11 (by omega) (by omega)).mono ?_); rintro e w' ⟨rfl, rfl⟩
  go_wp2_with fail
  (with_reducible refine (dTurn _ x 25 (by omega) (by omega)).mono ?_); rintro e w' ⟨rfl, rfl⟩
  go_wp2_with fail
  go_ret
  exact ⟨rfl, rfl⟩

set_option maxHeartbeats 400000 in
theorem dCh (w : World) (x y z : UInt32) :
    Calls Try.prog 48 #[.int .u32 (U32 x), .int .u32 (U32 y), .int .u32 (U32 z)] w fun e w' => e = .returned (.int .u32 (U32 (shaCh x y z))) ∧ w = w' := by
  go_enter Try.func48, Try.ntmps48
  go_wp2
  go_ret
  exact ⟨rfl, rfl⟩

set_option maxHeartbeats 400000 in
theorem dMaj (w : World) (x y z : UInt32) :
    Calls Try.prog 50 #[.int .u32 (U32 x), .int .u32 (U32 y), .int .u32 (U32 z)] w fun e w' => e = .returned (.int .u32 (U32 (shaMaj x y z))) ∧ w = w' := by
  go_enter Try.func50, Try.ntmps50
  go_wp2
  go_ret
  exact ⟨rfl, rfl⟩

theorem info64 : (Try.prog.info? 85).bind (·.zero) = some (.agg (wcells (List.replicate 64 0))) := by kernel_rfl
theorem size64 : (Try.prog.info? 85).map (·.size) = some 64 := by kernel_rfl
theorem wcells_size (xs : List UInt32) : (wcells xs).size = xs.length := by simp [wcells]
theorem wcells_one (xs : List UInt32) : ∀ u ∈ (wcells xs).toList, u.oneCell' = true := by
  intro u hu
  simp [wcells, WV] at hu
  obtain ⟨a, _, rfl⟩ := hu
  rfl
theorem litK : shaK.map WV = [.int .u32 1116352408,
  .int .u32 1899447441,
  .int .u32 3049323471,
  .int .u32 3921009573,
  .int .u32 961987163,
  .int .u32 1508970993,
  .int .u32 2453635748,
  .int .u32 2870763221,
  .int .u32 3624381080,
  .int .u32 310598401,
  .int .u32 607225278,
  .int .u32 1426881987,
  .int .u32 1925078388,
  .int .u32 2162078206,
  .int .u32 2614888103,
  .int .u32 3248222580,
  .int .u32 3835390401,
  .int .u32 4022224774,
  .int .u32 264347078,
  .int .u32 604807628,
  .int .u32 770255983,
  .int .u32 1249150122,
  .int .u32 1555081692,
  .int .u32 1996064986,
  .int .u32 2554220882,
  .int .u32 2821834349,
  .int .u32 2952996808,
  .int .u32 3210313671,
  .int .u32 3336571891,
  .int .u32 3584528711,
  .int .u32 113926993,
  .int .u32 338241895,
  .int .u32 666307205,
  .int .u32 773529912,
  .int .u32 1294757372,
  .int .u32 1396182291,
  .int .u32 1695183700,
  .int .u32 1986661051,
  .int .u32 2177026350,
  .int .u32 2456956037,
  .int .u32 2730485921,
  .int .u32 2820302411,
  .int .u32 3259730800,
  .int .u32 3345764771,
  .int .u32 3516065817,
  .int .u32 3600352804,
  .int .u32 4094571909,
  .int .u32 275423344,
  .int .u32 430227734,
  .int .u32 506948616,
  .int .u32 659060556,
  .int .u32 883997877,
  .int .u32 958139571,
  .int .u32 1322822218,
  .int .u32 1537002063,
  .int .u32 1747873779,
  .int .u32 1955562222,
  .int .u32 2024104815,
  .int .u32 2227730452,
  .int .u32 2361852424,
  .int .u32 2428436474,
  .int .u32 2756734187,
  .int .u32 3204031479,
  .int .u32 3329325298] := by kernel_rfl
theorem oneK : ∀ u ∈ (Value.cells (.agg #[.int .u32 1116352408,
  .int .u32 1899447441,
  .int .u32 3049323471,
  .int .u32 3921009573,
  .int .u32 961987163,
  .int .u32 1508970993,
  .int .u32 2453635748,
  .int .u32 2870763221,
  .int .u32 3624381080,
  .int .u32 310598401,
  .int .u32 607225278,
  .int .u32 1426881987,
  .int .u32 1925078388,
  .int .u32 2162078206,
  .int .u32 2614888103,
  .int .u32 3248222580,
  .int .u32 3835390401,
  .int .u32 4022224774,
  .int .u32 264347078,
  .int .u32 604807628,
  .int .u32 770255983,
  .int .u32 1249150122,
  .int .u32 1555081692,
  .int .u32 1996064986,
  .int .u32 2554220882,
  .int .u32 2821834349,
  .int .u32 2952996808,
  .int .u32 3210313671,
  .int .u32 3336571891,
  .int .u32 3584528711,
  .int .u32 113926993,
  .int .u32 338241895,
  .int .u32 666307205,
  .int .u32 773529912,
  .int .u32 1294757372,
  .int .u32 1396182291,
  .int .u32 1695183700,
  .int .u32 1986661051,
  .int .u32 2177026350,
  .int .u32 2456956037,
  .int .u32 2730485921,
  .int .u32 2820302411,
  .int .u32 3259730800,
  .int .u32 3345764771,
  .int .u32 3516065817,
  .int .u32 3600352804,
  .int .u32 4094571909,
  .int .u32 275423344,
  .int .u32 430227734,
  .int .u32 506948616,
  .int .u32 659060556,
  .int .u32 883997877,
  .int .u32 958139571,
  .int .u32 1322822218,
  .int .u32 1537002063,
  .int .u32 1747873779,
  .int .u32 1955562222,
  .int .u32 2024104815,
  .int .u32 2227730452,
  .int .u32 2361852424,
  .int .u32 2428436474,
  .int .u32 2756734187,
  .int .u32 3204031479,
  .int .u32 3329325298])).toList, u.oneCell' = true := by decide
set_option maxHeartbeats 400000 in
set_option maxRecDepth 100000 in
theorem dNumbers (w : World) :
    Calls Try.prog 23 #[] w fun e w' => e = .returned (.agg (wcells shaK)) ∧ Kept [] w w' := by
  go_enter Try.func23, Try.ntmps23
  go_wp2_with (first
    | (refine wpList_alloc_row rfl _ rfl _ info64 ?_; intro w1 hb1 hg1 hz1 hd1)
    | (refine wpList_store_row rfl _ _ _ rfl _ _ rfl _ rfl _ _ hb1 size64 (Nat.le_of_eq (by kernel_rfl)) oneK ?_
       intro w2 hb2 hg2 hz2 hd2))
  rw [splice_all _ _ (by kernel_rfl)] at hb2
  refine bodyPost_ret (results_cell_row rfl _ _ _ _ _ _ _ rfl hb2 Try.underlying85 rfl size64) rfl ⟨?_, ?_⟩
  · show Ending.returned (.agg _) = _
    rw [wcells, litK]; rfl
  exact (Kept.of_grown hg1 (by simp)).then_ (Kept.of_grown (S := [w.heap.size]) hg2 (by simp)) (by simp)
end
section
theorem rd_byte {w : World} {a : Addr} {bs : List UInt8} (h : ∀ i v, (bs.map BV)[i]? = some v → w.cell? (a.add i) = some v) (i : Nat) (hi : i < bs.length) :
    w.cell? (a.add i) = some (.int .u8 (U8 (b8 bs i))) := by
  have := h i (.int .u8 (U8 (b8 bs i)))
  simp [BV, hi, b8] at this
  simpa [b8, hi] using this
theorem flip_ {P : Program} {f : FuncId} {args : Array Value} {w w0 : World} {E : Ending} (h : Calls P f args w fun e w' => e = E ∧ w = w') (hw : w = w0) : Calls P f args w fun e w' => e = E ∧ w' = w0 :=
  h.mono fun _ _ ⟨a, b⟩ => ⟨a, b ▸ hw⟩
theorem Blk.word' {w : World} {g : Nat} {t : TypeId} {xs : List UInt32} (h : Blk w g t (wcells xs)) {i o : Nat} (hi : i < xs.length) (ho : o = i) :
    w.cell? ⟨g, o, none⟩ = some (.int .u32 (U32 (w32 xs i))) := by subst ho; exact h.word hi
theorem Blk.words8 {w : World} {g : Nat} {t : TypeId} {xs : List UInt32} (h : Blk w g t (wcells xs)) (hl : xs.length = 8) :
    w.cell? ⟨g, 0, none⟩ = some (.int .u32 (U32 (w32 xs 0))) ∧ w.cell? ⟨g, 1, none⟩ = some (.int .u32 (U32 (w32 xs 1))) ∧
    w.cell? ⟨g, 2, none⟩ = some (.int .u32 (U32 (w32 xs 2))) ∧ w.cell? ⟨g, 3, none⟩ = some (.int .u32 (U32 (w32 xs 3))) ∧
    w.cell? ⟨g, 4, none⟩ = some (.int .u32 (U32 (w32 xs 4))) ∧ w.cell? ⟨g, 5, none⟩ = some (.int .u32 (U32 (w32 xs 5))) ∧
    w.cell? ⟨g, 6, none⟩ = some (.int .u32 (U32 (w32 xs 6))) ∧ w.cell? ⟨g, 7, none⟩ = some (.int .u32 (U32 (w32 xs 7))) :=
  ⟨h.word (by omega), h.word (by omega), h.word (by omega), h.word (by omega), h.word (by omega), h.word (by omega), h.word (by omega), h.word (by omega)⟩
theorem shaExt_step (w0 : List UInt32) (k : Nat) (hk : 16 ≤ k) : shaExt w0 (k + 1 - 16) = (shaExt w0 (k - 16)).set k (extVal (shaExt w0 (k - 16)) (k - 16)) := by
  obtain ⟨j, rfl⟩ : ∃ j, k = j + 16 := ⟨k - 16, by omega⟩
  rw [show j + 16 + 1 - 16 = j + 1 by omega, show j + 16 - 16 = j by omega]; rfl
theorem size8 {s : List UInt32} (h : s.length = 8) : (Try.prog.info? 84).map (·.size) = some (wcells s).size := by
  rw [wcells_size, h]; kernel_rfl
theorem info8 : (Try.prog.info? 84).bind (·.zero) = some (.agg (wcells (List.replicate 8 0))) := by kernel_rfl
theorem fit8 {s : List UInt32} (h : s.length = 8) : 0 + (wcells s).size ≤ (wcells (List.replicate 8 0)).size := by
  rw [wcells_size, wcells_size, h]; decide
theorem fit88 {s s' : List UInt32} (h : s.length = 8) (h' : s'.length = 8) : 0 + (wcells s).size ≤ (wcells s').size := by
  rw [wcells_size, wcells_size, h, h']; decide
theorem rd_byteS {w : World} {a : Addr} {bs : List UInt8} (h : ∀ i v, (bs.map BV)[i]? = some v → w.cell? (a.add i) = some v) (i : Nat) (hi : i < bs.length) (h0 : i ≠ 0) :
    w.cell? ⟨a.block, a.off + i, none⟩ = some (.int .u8 (U8 (b8 bs i))) := by
  have := rd_byte h i hi
  simpa [Addr.add, h0] using this

set_option maxRecDepth 100000 in
set_option maxHeartbeats 4000000 in
theorem dTake (w : World) (sb kb : Nat) (s : List UInt32) (a : Addr) (c : Nat) (bs : List UInt8) (hs8 : s.length = 8)
    (hs : Blk w sb 84 (wcells s)) (hk : Blk w kb 85 (wcells shaK)) (hr : ∀ i v, (bs.map BV)[i]? = some v → w.cell? (a.add i) = some v)
    (hl : 64 ≤ bs.length) (hm : bs.length ≤ maxLen) :
    Calls Try.prog 24 #[.pointer (some ⟨sb, 0, none⟩), .slice (some a) bs.length c, .pointer (some ⟨kb, 0, none⟩)] w
      fun e w' => e = .returned (.tuple #[]) ∧ Blk w' sb 84 (wcells (shaBlock s bs)) ∧ Kept [sb] w w' := by
  unfold maxLen at hm
  have HS8 := hide hs8; clear hs8
  have HS := hide hs; have HK := hide hk; have HR := hide hr; clear hs hk hr
  go_enter Try.func24, Try.ntmps24
  go_wp2_with (first
    | (refine wpList_alloc_row rfl _ rfl _ info64 ?_; intro w1 hb1 hg1 hz1 hd1))
  have HB := hide (p := Blk w1 w.heap.size 85 (wcells (shaFill bs 0))) hb1
  have HG := hide (Kept.of_grown (S := []) hg1 (by simp))
  clear hb1 hg1 hd1 hz1
  go_loopw [14] (fun i wr => ∃ k : Nat, k ≤ 16 ∧ i = .int .i64 k ∧ Blk wr w.heap.size 85 (wcells (shaFill bs k)) ∧ Kept [] w wr) (fun i _ => 16 - (intOf i).toNat)
  case atStart => exact ⟨0, by omega, rfl, HB.out, HG.out⟩
  case round =>
    obtain ⟨k, hk16, rfl, hbk, hkk⟩ := hrel
    have HBK := hide hbk; have HKK := hide hkk; clear hbk hkk HB HG
    by_cases hlt : k < 16
    ·
      -- <<
      have hsz : wr.heap.size ≥ w.heap.size := HKK.out.size
      have c0 := HKK.out.cell_some (rd_byte HR.out (4 * k) (by omega)) (by simp)
      have c1 := HKK.out.cell_some (rd_byteS HR.out (4 * k + 1) (by omega) (by omega)) (by simp)
      have c2 := HKK.out.cell_some (rd_byteS HR.out (4 * k + 2) (by omega) (by omega)) (by simp)
      have c3 := HKK.out.cell_some (rd_byteS HR.out (4 * k + 3) (by omega) (by omega)) (by simp)
      have cw := HBK.out.word (i := k) (by rw [shaFill_len]; omega)
      have fw := HBK.out.frozen k
      have w0 : IntKind.i64.wrap (4 * (k : Int)) = 4 * (k : Int) := IntWalk.i64_in _ (by omega)
      have l0 : 0 ≤ 4 * (k : Int) := by omega
      have u0 : 4 * (k : Int) < (bs.length : Int) := by omega
      have n0 : (4 * (k : Int)).toNat = 4 * k := by omega
      have w1 : IntKind.i64.wrap (4 * (k : Int) + 1) = 4 * (k : Int) + 1 := IntWalk.i64_in _ (by omega)
      have l1 : 0 ≤ 4 * (k : Int) + 1 := by omega
      have u1 : 4 * (k : Int) + 1 < (bs.length : Int) := by omega
      have n1 : (4 * (k : Int) + 1).toNat = 4 * k + 1 := by omega
      have w2 : IntKind.i64.wrap (4 * (k : Int) + 2) = 4 * (k : Int) + 2 := IntWalk.i64_in _ (by omega)
      have l2 : 0 ≤ 4 * (k : Int) + 2 := by omega
      have u2 : 4 * (k : Int) + 2 < (bs.length : Int) := by omega
      have n2 : (4 * (k : Int) + 2).toNat = 4 * k + 2 := by omega
      have w3 : IntKind.i64.wrap (4 * (k : Int) + 3) = 4 * (k : Int) + 3 := IntWalk.i64_in _ (by omega)
      have l3 : 0 ≤ 4 * (k : Int) + 3 := by omega
      have u3 : 4 * (k : Int) + 3 < (bs.length : Int) := by omega
      have n3 : (4 * (k : Int) + 3).toNat = 4 * k + 3 := by omega
      have k64 : (k : Int) < 64 := by omega
      go_wp2
      go_still_tail 35, (by kernel_rfl)
      change wpList _ _ _ _ _ wr.drew
      go_wp2
      go_roundw
      case rel => exact ⟨k + 1, by omega, by go_num, (HBK.out.setWord k _).drew, (HKK.out.setCell (.inr (Nat.le_refl _)) _).drew⟩
      case measure => simp [intOf]; omega
      -- >>
    have hk16 : k = 16 := by omega
    have HBX := hide (p := Blk wr w.heap.size 85 (wcells (shaExt (shaFill bs 16) 0))) (hk16 ▸ HBK.out)
    have hd : decide ((k : Int) < 16) = false := by simp; omega
    clear hk16
    go_wp2
    generalize HW0 : shaFill bs 16 = ws0 at *
    have hw0l : Hid (ws0.length = 64) := hide (by rw [← HW0]; exact shaFill_len _ _)
    have HW0' := hide HW0; clear HW0 HBK
    obtain ⟨wo, rfl⟩ : ∃ wo : World, wo = wr := ⟨_, rfl⟩
    go_loopw [8] (fun i wq => ∃ k : Nat, 16 ≤ k ∧ k ≤ 64 ∧ i = .int .i64 k ∧ Blk wq w.heap.size 85 (wcells (shaExt ws0 (k - 16))) ∧ Kept [] w wq) (fun i _ => 64 - (intOf i).toNat)
    case atStart => exact ⟨16, by omega, by omega, rfl, HBX.out, HKK.out⟩
    case round =>
      obtain ⟨k, hk1, hk2, rfl, hbk, hkk⟩ := hrel
      have HBK := hide hbk; have HKQ := hide hkk; clear hbk hkk HBX
      by_cases hlt : k < 64
      ·
        -- <<
        have hlen : (shaExt ws0 (k - 16)).length = 64 := shaExt_len _ hw0l.out _
        have d0 := HBK.out.word' (i := k - 16) (o := k - 16) (by omega) rfl
        have d1 := HBK.out.word' (i := k - 16 + 1) (o := k - 15) (by omega) (by omega)
        have d2 := HBK.out.word' (i := k - 16 + 9) (o := k - 7) (by omega) (by omega)
        have d3 := HBK.out.word' (i := k - 16 + 14) (o := k - 2) (by omega) (by omega)
        have d4 := HBK.out.word' (i := k) (o := k) (by omega) rfl
        have fw := HBK.out.frozen k
        have HLEN := hide hlen; clear hlen
        have q16 : IntKind.i64.wrap ((k : Int) - 16) = k - 16 := IntWalk.i64_in _ (by omega)
        have q15 : IntKind.i64.wrap ((k : Int) - 15) = k - 15 := IntWalk.i64_in _ (by omega)
        have q7 : IntKind.i64.wrap ((k : Int) - 7) = k - 7 := IntWalk.i64_in _ (by omega)
        have q2 : IntKind.i64.wrap ((k : Int) - 2) = k - 2 := IntWalk.i64_in _ (by omega)
        have p16 : (16 : Int) ≤ k := by omega
        have p15 : (15 : Int) ≤ k := by omega
        have p7 : (7 : Int) ≤ k := by omega
        have p2 : (2 : Int) ≤ k := by omega
        have r16 : (k : Int) - 16 < 64 := by omega
        have r15 : (k : Int) - 15 < 64 := by omega
        have r7 : (k : Int) - 7 < 64 := by omega
        have r2 : (k : Int) - 2 < 64 := by omega
        have k64 : (k : Int) < 64 := by omega
        have t16 : ((k : Int) - 16).toNat = k - 16 := by omega
        have t15 : ((k : Int) - 15).toNat = k - 15 := by omega
        have t7 : ((k : Int) - 7).toNat = k - 7 := by omega
        have t2 : ((k : Int) - 2).toNat = k - 2 := by omega
        go_wp2
        go_still_tail 23, (by kernel_rfl)
        still_call (flip_ (dS0 _ _) rfl)
        repeat still_step
        still_call (flip_ (dS1 _ _) rfl)
        repeat still_step
        refine wpStill_nil ?_
        change wpList _ _ _ _ _ wr.drew
        go_wp2
        go_roundw
        case rel => exact ⟨k + 1, by omega, by omega, by go_num, by rw [shaExt_step _ _ hk1]; exact (HBK.out.setWord k _).drew, (HKQ.out.setCell (.inr (Nat.le_refl _)) _).drew⟩
        case measure => simp [intOf]; omega
        -- >>
      have hk64 : k = 64 := by omega
      generalize hws : shaExt ws0 (k - 16) = ws at *
      have HWS := hide (p := ws = shaExt ws0 48) (by rw [← hws, hk64]); clear hws
      have hd2 : decide ((k : Int) < 64) = false := by simp; omega
      clear hk64
      have HSQ := hide (HS.out.kept HKQ.out (by simp))
      have HWL := hide (p := ws.length = 64) (by rw [HWS.out]; exact shaExt_len _ hw0l.out _)
      go_wp2_with (first
        | (refine wpList_load_row rfl 84 _ rfl sb rfl _ _ _ _ HSQ.out Try.underlying84 rfl (size8 HS8.out) ?_)
        | (refine wpList_alloc_row rfl _ rfl _ info8 ?_; intro w2 hb2 hg2 hz2 hd2)
        | (refine wpList_store_row rfl _ _ _ rfl _ _ rfl (.agg (wcells s)) rfl _ _ hb2 (size8 HS8.out) (fit8 HS8.out) (wcells_one s) ?_
           intro w3 hb3 hg3 hz3 hd3))
      rw [splice_all _ _ (by rw [Value.cells, Value.cells, wcells_size, wcells_size, HS8.out]; rfl)] at hb3
      have HV := hide (p := Blk w3 wr.heap.size 84 (wcells (shaRounds ws s 0))) hb3
      have K13 : Kept [] wr w3 := (Kept.of_grown hg2 (by simp)).then_ (Kept.of_grown (S := [wr.heap.size]) hg3 (by simp)) (by simp)
      have HKW := hide (HKQ.out.then_ K13 (by simp))
      have HWB := hide (HBK.out.kept K13 (by simp))
      have hv0 : w.heap.size < wr.heap.size := HBK.out.lt
      clear hb3 hb2 hg2 hz2 hd2 hg3 hz3 hd3 K13
      generalize wr.heap.size = V0 at *
      go_loopw [83] (fun i wv => ∃ j : Nat, j ≤ 64 ∧ i = .int .i64 j ∧ Blk wv V0 84 (wcells (shaRounds ws s j)) ∧ Blk wv w.heap.size 85 (wcells ws) ∧ Kept [] w wv) (fun i _ => 64 - (intOf i).toNat)
      case atStart => exact ⟨0, by omega, rfl, HV.out, HWB.out, HKW.out⟩
      case round =>
        obtain ⟨j, hj, rfl, hbv, hbw, hkv⟩ := hrel
        by_cases hlt : j < 64
        ·
          -- <<
          have hvl : (shaRounds ws s j).length = 8 := shaRounds_len _ _ HS8.out _
          have HSR := hide (p := shaRounds ws s (j + 1) = shaStep ws (shaRounds ws s j) j) rfl
          generalize shaRounds ws s j = v at *
          obtain ⟨c0, c1, c2, c3, c4, c5, c6, c7⟩ := hbv.words8 hvl
          have cw := hbw.word (i := j) (by rw [HWL.out]; omega)
          have ck := (HK.out.kept hkv (by simp)).word (i := j) (by show j < 64; omega)
          have j64 : (j : Int) < 64 := by omega
          have HBV := hide hbv; have HBW := hide hbw; have HKV := hide hkv; have HVL := hide hvl
          clear hbv hbw hkv hvl HV HWB HKW HKQ HSQ
          go_wp2
          refine wp_region_still_lit (by kernel_rfl) (by kernel_rfl) ?_
          repeat still_step
          still_call (flip_ (dB1 _ _) rfl)
          repeat still_step
          still_call (flip_ (dCh _ _ _ _) rfl)
          repeat still_step
          refine wpStill_nil ?_
          change Exit.then _ _ Exit.normal _ wr.drew
          have HBV1 := hide HBV.out.drew; have HBW1 := hide HBW.out.drew; have HKV1 := hide HKV.out.drew
          clear c0 c1 c2 c3 c4 c5 c6 c7 cw ck HBV HBW HKV
          generalize wr.drew = wd at *
          obtain ⟨c0, c1, c2, c3, c4, c5, c6, c7⟩ := HBV1.out.words8 HVL.out
          go_wp2
          refine wp_region_still_lit (by kernel_rfl) (by kernel_rfl) ?_
          repeat still_step
          still_call (flip_ (dB0 _ _) rfl)
          repeat still_step
          still_call (flip_ (dMaj _ _ _ _) rfl)
          repeat still_step
          refine wpStill_nil ?_
          change Exit.then _ _ Exit.normal _ wd.drew
          have HBV2 := hide HBV1.out.drew; have HBW2 := hide HBW1.out.drew; have HKV2 := hide HKV1.out.drew
          clear c0 c1 c2 c3 c4 c5 c6 c7 HBV1 HBW1 HKV1
          generalize wd.drew = we at *
          obtain ⟨c0, c1, c2, c3, c4, c5, c6, c7⟩ := HBV2.out.words8 HVL.out
          go_wp2_with (change wpList _ _ _ ({ dst := none, op := .store _ _ _, type := _, pos := _, after := _, guard := _ } :: _) _ _
                       generalize hG : wpList _ _ _ _ _ _ = G)
          rw [← hG]; clear hG G
          refine wpList_store_row rfl _ _ _ rfl V0 0 rfl (.agg (wcells (shaStep ws v j))) rfl _ _ HBV2.out (size8 rfl) (fit88 rfl HVL.out) (wcells_one _) ?_
          intro w3 hb3 hg3 hz3 hd3
          rw [splice_all _ _ (by rw [Value.cells, wcells_size, wcells_size, HVL.out]; rfl)] at hb3
          have K13 : Kept [V0] we w3 := Kept.of_grown hg3 (by simp)
          have HB3 := hide hb3
          clear hb3 hg3 hz3 hd3 c0 c1 c2 c3 c4 c5 c6 c7
          go_wp2
          go_roundw
          case rel => exact ⟨j + 1, by omega, by go_num, by rw [HSR.out]; exact HB3.out, HBW2.out.kept K13 (by simp; omega), HKV2.out.then_ K13 (by simp; omega)⟩
          case measure => simp [intOf]; omega
          -- >>
        have hj64 : j = 64 := by omega
        have HADD := hide (p := shaAdd (shaRounds ws s 64) s 8 = shaBlock s bs) (by unfold shaBlock; rw [HW0'.out, ← HWS.out])
        have hvl : (shaRounds ws s j).length = 8 := shaRounds_len _ _ HS8.out _
        rw [← hj64] at HADD
        generalize shaRounds ws s j = v at *
        have hd3 : decide ((j : Int) < 64) = false := by simp; omega
        clear hj64
        have HBV := hide hbv; have HVL := hide hvl
        have HSB := hide (HS.out.kept hkv (by simp))
        have HKV := hide (hkv.mono (S' := [sb]) (by simp))
        have hsb0 : sb < w.heap.size := HS.out.lt
        clear hbv hvl hbw hkv HV HWB HKW HKQ HSQ
        go_wp2
        obtain ⟨wp, rfl⟩ : ∃ wo : World, wo = wr := ⟨_, rfl⟩
        go_loopw [142] (fun i wz => ∃ j : Nat, j ≤ 8 ∧ i = .int .i64 j ∧ Blk wz V0 84 (wcells v) ∧ Blk wz sb 84 (wcells (shaAdd v s j)) ∧ Kept [sb] w wz) (fun i _ => 8 - (intOf i).toNat)
        case atStart => exact ⟨0, by omega, rfl, HBV.out, HSB.out, HKV.out⟩
        case round =>
          obtain ⟨j, hj, rfl, hbv, hbs, hkv⟩ := hrel
          have hal : (shaAdd v s j).length = 8 := shaAdd_len _ _ HS8.out _
          by_cases hlt : j < 8
          · have cv := hbv.word (i := j) (by rw [HVL.out]; omega)
            have cs := hbs.word (i := j) (by rw [hal]; omega)
            have fs := hbs.frozen j
            have j8 : (j : Int) < 8 := by omega
            have HBV2 := hide hbv; have HBS2 := hide hbs; have HKV2 := hide hkv
            clear hbv hbs hkv hal HBV HSB HKV
            go_wp2
            go_still_tail 11, (by kernel_rfl)
            change wpList _ _ _ _ _ wr.drew
            go_wp2
            go_roundw
            case rel => exact ⟨j + 1, by omega, by go_num, (HBV2.out.far (by simp; omega) _).drew, (HBS2.out.setWord j _).drew, (HKV2.out.setCell (.inl (by simp)) _).drew⟩
            case measure => simp [intOf]; omega
          have hj8 : j = 8 := by omega
          have HBS2 := hide hbs; have HKV2 := hide hkv
          rw [hj8, HADD.out] at HBS2
          clear hbv hbs hkv hal HBV HSB HKV
          have hd4 : decide ((j : Int) < 8) = false := by simp; omega
          clear hj8
          go_wp2
          go_end0
          exact ⟨rfl, HBS2.out, HKV2.out⟩
end
section
def shaInit : List UInt32 := [0x6a09e667, 0xbb67ae85, 0x3c6ef372, 0xa54ff53a, 0x510e527f, 0x9b05688c, 0x1f83d9ab, 0x5be0cd19]
def shaRun : Nat → List UInt32 → List UInt8 → List UInt32
  | 0, s, _ => s
  | k+1, s, m => shaRun k (shaBlock s m) (m.drop 64)
theorem shaBlock_len (s : List UInt32) (b : List UInt8) (h : s.length = 8) : (shaBlock s b).length = 8 := shaAdd_len _ _ h _
theorem shaRun_len : ∀ (k : Nat) (s : List UInt32) (m : List UInt8), s.length = 8 → (shaRun k s m).length = 8
  | 0, _, _, h => h
  | k+1, s, m, h => shaRun_len k _ _ (shaBlock_len s m h)
theorem shaRun_succ : ∀ (k : Nat) (s : List UInt32) (m : List UInt8), shaRun (k+1) s m = shaBlock (shaRun k s m) (m.drop (64 * k))
  | 0, _, _ => by simp [shaRun]
  | k+1, s, m => by
    rw [shaRun, shaRun_succ k, List.drop_drop, shaRun]
    congr 2
    omega
/-- the last block or two -/
def shaLast0 (rest : List UInt8) : List UInt8 := (rest ++ List.replicate (128 - rest.length) 0).set rest.length 0x80
def shaBits (n : Nat) : UInt64 := shl64 (UInt64.ofNat n) 3
def shaLast (L : List UInt8) (e : Nat) (d : UInt64) : Nat → List UInt8
  | 0 => L
  | i+1 => (shaLast L e d i).set (e - 1 - i) (c64to8 (shr64 d (8 * i)))
theorem shaLast_len (L : List UInt8) (e : Nat) (d : UInt64) (k : Nat) : (shaLast L e d k).length = L.length := by
  induction k with
  | zero => rfl
  | succ k ih => simp [shaLast, ih]
def shaOut (s : List UInt32) : Nat → List UInt8 → List UInt8
  | 0, h => h
  | i+1, h => ((((shaOut s i h).set (4*i) (c32to8 (shr32 (w32 s i) 24))).set (4*i+1) (c32to8 (shr32 (w32 s i) 16))).set (4*i+2) (c32to8 (shr32 (w32 s i) 8))).set (4*i+3) (c32to8 (w32 s i))
theorem shaOut_len (s : List UInt32) (h : List UInt8) (k : Nat) : (shaOut s k h).length = h.length := by
  induction k with
  | zero => rfl
  | succ k ih => simp [shaOut, ih]
def sha (p : List UInt8) : List UInt8 :=
  let a := p.length / 64
  let rest := p.drop (64 * a)
  let e := if rest.length < 56 then 64 else 128
  let L := shaLast (shaLast0 rest) e (shaBits p.length) 8
  shaOut (shaRun (e / 64) (shaRun a shaInit p) L) 8 (List.replicate 32 0)
theorem sha_len (p : List UInt8) : (sha p).length = 32 := by unfold sha; simp [shaOut_len]

theorem infoHash : (Try.prog.info? 36).bind (·.zero) = some (.agg (bcells (List.replicate 32 0))) := by kernel_rfl
theorem sizeHash : (Try.prog.info? 36).map (·.size) = some 32 := by kernel_rfl
theorem info128 : (Try.prog.info? 89).bind (·.zero) = some (.agg (bcells (List.replicate 128 0))) := by kernel_rfl
theorem initCells : wcells shaInit = #[.int .u32 1779033703, .int .u32 3144134277, .int .u32 1013904242, .int .u32 2773480762, .int .u32 1359893119, .int .u32 2600822924, .int .u32 528734635, .int .u32 1541459225] := by kernel_rfl

def lenV : Value → Nat | .slice _ n _ => n | _ => 0
theorem dTakeN (w : World) (sb kb : Nat) (s : List UInt32) (a : Addr) (n c : Nat) (bs : List UInt8) (hs8 : s.length = 8)
    (hs : Blk w sb 84 (wcells s)) (hk : Blk w kb 85 (wcells shaK)) (hr : ∀ i v, (bs.map BV)[i]? = some v → w.cell? (a.add i) = some v)
    (hn : bs.length = n) (hl : 64 ≤ n) (hm : n ≤ 140737488355328) :
    Calls Try.prog 24 #[.pointer (some ⟨sb, 0, none⟩), .slice (some a) n c, .pointer (some ⟨kb, 0, none⟩)] w
      fun e w' => e = .returned (.tuple #[]) ∧ Blk w' sb 84 (wcells (shaBlock s bs)) ∧ Kept [sb] w w' := by
  subst hn
  exact dTake w sb kb s a c bs hs8 hs hk hr hl (by unfold maxLen; omega)
theorem RdB.step64 {B k c' : Nat} {w : World} {a : Addr} {p : List UInt8} (h : RdB B w (some a) ((p.drop (64 * k)).map BV)) (hk : 64 * k + 64 ≤ p.length) (hc : p.length - 64 * k ≤ c') :
    RdB B w (if c' = 64 then some a else some ⟨a.block, a.off + 64, none⟩) ((p.drop (64 * (k + 1))).map BV) := by
  have h2 := h.drop 64 c' (by simp; omega) (by simp; omega)
  rw [← List.map_drop, List.drop_drop] at h2
  rw [show 64 * (k + 1) = 64 * k + 64 by omega]
  exact h2
theorem last0_cells (rest : List UInt8) :
    splice (bcells (List.replicate 128 0)) 0 (rest.map BV).toArray = bcells (rest ++ List.replicate (128 - rest.length) 0) := by
  unfold splice
  have e : (bcells (List.replicate 128 0)).toList = List.replicate 128 (BV 0) := by unfold bcells; rw [List.map_replicate]
  rw [e, List.drop_replicate]
  unfold bcells
  rw [List.map_append, List.map_replicate]
  simp only [List.take_zero, List.nil_append, Nat.zero_add, List.size_toArray, List.length_map]
theorem size1 : (Try.prog.info? 5).map (·.size) = some 1 := by kernel_rfl
theorem idxW (s : List UInt32) (hs : s.length = 8) (j : Nat) (hj : j < 8) (w : World) :
    (Instr.index 84 (.agg (wcells s)) (.int .i64 (j : Int))).run Try.prog w = .ok (.int .u32 (U32 (w32 s j))) w := by
  obtain ⟨i, hi, hz⟩ : ∃ i, Try.prog.info? 48 = some i ∧ i.size = 1 := by
    have h : (Try.prog.info? 48).map (·.size) = some 1 := by kernel_rfl
    cases hq : Try.prog.info? 48 with
    | none => rw [hq] at h; cases h
    | some i => rw [hq] at h; exact ⟨i, rfl, by simpa using h⟩
  exact run_index_agg (n := 8) Try.underlying84 Try.underlying48 rfl hi hz _ _ j hj _ (wcells_get _ _ (by omega)) w
theorem rd_at {w : World} {g : Nat} {t : TypeId} {L : List UInt8} (h : Blk w g t (bcells L)) (o : Nat) :
    ∀ i v, ((L.drop o).map BV)[i]? = some v → w.cell? ((⟨g, o, none⟩ : Addr).add i) = some v := by
  intro i v hv
  rw [add_mk, h.cell]
  rw [List.map_drop, List.getElem?_drop] at hv
  simpa [bcells] using hv
theorem sha_of (p rest L : List UInt8) (r E : Nat) (D : UInt64) (s1 s2 : List UInt32) (h1 : rest = p.drop (64 * (p.length / 64))) (hr : rest.length = r)
    (hE : E = if r < 56 then 64 else 128) (hD : D = shl64 (UInt64.ofNat p.length) 3) (hL : L = shaLast (shaLast0 rest) E D 8)
    (hs1 : s1 = shaRun (p.length / 64) shaInit p) (hs2 : s2 = shaRun (E / 64) s1 L) : shaOut s2 8 (List.replicate 32 0) = sha p := by
  subst hr hE hD hL hs2 hs1 h1; rfl
theorem initCellsV : Value.agg #[.int .u32 1779033703, .int .u32 3144134277, .int .u32 1013904242, .int .u32 2773480762, .int .u32 1359893119, .int .u32 2600822924, .int .u32 528734635, .int .u32 1541459225] = .agg (wcells shaInit) := by rw [initCells]
set_option maxRecDepth 100000 in
set_option maxHeartbeats 4000000 in
theorem dSum (w : World) (A : Option Addr) (c : Nat) (p : List UInt8) (hr : Rd w A (p.map BV)) (hc : p.length ≤ c) (hm : p.length ≤ 140737488355328) :
    Calls Try.prog 16 #[.slice A p.length c] w fun e w' => e = .returned (.agg (bcells (sha p))) ∧ Kept [] w w' := by
  have HR := hide hr.bound; clear hr
  go_enter Try.func16, Try.ntmps16
  go_wp2_with (first
    | (change wpList _ _ _ ({ dst := some 2, op := .alloc _, type := _, pos := _, after := _, guard := _ } :: _) _ _
       refine wpA rfl _ rfl _ infoHash ?_; intro H0 w1 hH hbH hk1)
    | (change wpList _ _ _ ({ dst := some 3, op := .alloc _, type := _, pos := _, after := _, guard := _ } :: _) _ _
       refine wpA rfl _ rfl _ info8 ?_; intro S0 w2 hS hbS hk2)
    | (change wpList _ _ _ ({ dst := none, op := .store 84 _ _, type := _, pos := _, after := _, guard := _ } :: _) _ _
       refine wpS rfl _ _ _ rfl S0 rfl (.agg (wcells shaInit)) initCellsV _ _ hbS (size8 rfl) rfl (wcells_one _) ?_
       intro w3 hbS3 hk3)
    | (go_at_call 23; refine (dNumbers _).mono ?_; rintro e w4 ⟨rfl, hk4⟩)
    | (change wpList _ _ _ ({ dst := some 4, op := .alloc _, type := _, pos := _, after := _, guard := _ } :: _) _ _
       refine wpA rfl _ rfl _ info64 ?_; intro K0 w5 hK hbK hk5)
    | (change wpList _ _ _ ({ dst := none, op := .store 85 _ _, type := _, pos := _, after := _, guard := _ } :: _) _ _
       refine wpS rfl _ _ _ rfl K0 rfl (.agg (wcells shaK)) rfl _ _ hbK size64 rfl (wcells_one _) ?_
       intro w6 hbK6 hk6))
  have hHS : H0 < S0 := Nat.lt_of_lt_of_le hbH.lt hS
  have hSK : S0 < K0 := Nat.lt_of_lt_of_le (Nat.lt_of_lt_of_le hbS3.lt hk4.size) hK
  have BH := hide (((((hbH.kept hk2 (by simp)).kept hk3 (by simp; omega)).kept hk4 (by simp)).kept hk5 (by simp)).kept hk6 (by simp; omega))
  have BS := hide (p := Blk w6 S0 84 (wcells (shaRun 0 shaInit p))) ((((hbS3.kept hk4 (by simp)).kept hk5 (by simp)).kept hk6 (by simp; omega)))
  have BK := hide hbK6
  have KW := hide ((((((hk1.trans hk2).then_ hk3 (by simp; omega)).trans hk4).trans hk5).then_ hk6 (by simp; omega)))
  have RP := hide (p := RdB w.heap.size w6 A ((p.drop (64 * 0)).map BV)) (HR.out.kept KW.out (by simp))
  clear hbH hbS hbS3 hbK hbK6 hk1 hk2 hk3 hk4 hk5 hk6 hS hK HR
  go_loopw [5] (fun v wr => ∃ (k : Nat) (A' : Option Addr), 64 * k ≤ p.length ∧ v = .slice A' (p.length - 64 * k) (c - 64 * k) ∧ RdB w.heap.size wr A' ((p.drop (64 * k)).map BV) ∧
      Blk wr S0 84 (wcells (shaRun k shaInit p)) ∧ Blk wr K0 85 (wcells shaK) ∧ Blk wr H0 36 (bcells (List.replicate 32 0)) ∧ Kept [] w wr) (fun v _ => lenV v)
  case atStart => exact ⟨0, A, by omega, rfl, RP.out, BS.out, BK.out, BH.out, KW.out⟩
  case round =>
    obtain ⟨k, A', hk, rfl, hrp, hbS, hbK, hbH, hkw⟩ := hrel
    clear BH BS BK KW RP
    by_cases hlt : 64 ≤ p.length - 64 * k
    · obtain ⟨a, rfl, hab, hcell⟩ := hrp (by simp; omega)
      have RP := hide hrp; have BS := hide hbS; have BK := hide hbK; have BH := hide hbH; have KW := hide hkw; have HC := hide hcell
      clear hrp hbS hbK hbH hkw hcell
      have l1 : (64 : Int) ≤ ((p.length - 64 * k : Nat) : Int) := by omega
      have l2 : (p.length - 64 * k) ≤ c - 64 * k := by omega
      go_wp2_with (go_at_call 24; refine (dTakeN _ _ _ _ _ _ _ (p.drop (64 * k)) (shaRun_len _ _ _ rfl) BS.out BK.out HC.out (by simp) hlt (by omega)).mono ?_; rintro e w7 ⟨rfl, hbS7, hk7⟩)
      go_roundw
      case rel =>
        exact ⟨k + 1, _, by omega, by rw [show p.length - 64 * (k + 1) = p.length - 64 * k - 64 by omega, show c - 64 * (k + 1) = c - 64 * k - 64 by omega],
          RdB.step64 (RP.out.kept hk7 (by simp; omega)) (by omega) (by omega), by rw [shaRun_succ]; exact hbS7, BK.out.kept hk7 (by simp; omega), BH.out.kept hk7 (by simp; omega), KW.out.then_ hk7 (by simp; omega)⟩
      case measure => simp [lenV]; omega
    obtain ⟨r, hr⟩ : ∃ r, p.length - 64 * k = r := ⟨_, rfl⟩
    have HR64 := hide (p := (p.drop (64 * k)).length = r) (by simp; exact hr)
    have hka : k = p.length / 64 := by omega
    have HS := hide (p := shaRun k shaInit p = shaRun (p.length / 64) shaInit p) (by rw [← hka])
    generalize hrest : p.drop (64 * k) = rest at *
    have HREST := hide (p := rest = p.drop (64 * (p.length / 64))) (by rw [← hrest, hka])
    clear hrest hka
    generalize shaRun k shaInit p = s1 at *
    have hs1 := hide (p := s1.length = 8) (by rw [HS.out]; exact shaRun_len _ _ _ rfl)
    have RP := hide hrp; have BS := hide hbS; have BK := hide hbK; have BH := hide hbH; have KW := hide hkw
    clear hrp hbS hbK hbH hkw
    have hr63 : r < 64 := by omega
    have hd : decide ((64 : Int) ≤ (r : Int)) = false := by simp; omega
    rw [hr]
    have HRR := hide hr; clear hr
    go_upto_if 30 with (first
      | (change wpList _ _ _ ({ dst := some 6, op := .alloc _, type := _, pos := _, after := _, guard := _ } :: _) _ _
         refine wpA rfl _ rfl _ info128 ?_; intro L0 w8 hL hbL hk8)
      | (at_builtin; fail)
      | (change wpList _ _ _ ({ dst := some 26, op := _, type := _, pos := _, after := _, guard := _ } :: _) _ _
         generalize hG : wpList _ _ _ _ _ _ = G))
    rw [← hG]; clear hG G
    have hK0 : K0 < L0 := Nat.lt_of_lt_of_le BK.out.lt hL
    refine wpC rfl _ _ _ _ rfl 5 Try.underlying71 size1 A' L0 0 128 128 r _ rfl rfl _ _ hbL (rest.map BV) (by rw [List.length_map, HR64.out]; exact (Nat.min_eq_left (by omega)).symm) (RP.out.rd.kept hk8 (by simp)) (by rw [List.length_map, HR64.out, show Value.cells (.agg (bcells (List.replicate 128 0))) = bcells (List.replicate 128 0) from rfl, bcells_size, List.length_replicate]; omega) (bv_one _) r (by simp [HR64.out]) ?_
    intro w9 hbL9 hk9
    rw [show Value.cells (.agg (bcells (List.replicate 128 0))) = bcells (List.replicate 128 0) from rfl, last0_cells] at hbL9
    have k9 : Kept [] wr w9 := hk8.then_ hk9 (by simp; omega)
    have BL := hide hbL9
    have BS9 := hide (BS.out.kept k9 (by simp)); have BK9 := hide (BK.out.kept k9 (by simp)); have BH9 := hide (BH.out.kept k9 (by simp)); have KW9 := hide (KW.out.then_ k9 (by simp))
    clear hbL9 hbL hk8 hk9 k9 BS BK BH KW RP
    have hll : (rest ++ List.replicate (128 - rest.length) (0 : UInt8)).length = 128 := by simp [HR64.out]; omega
    have cl := BL.out.byte' (i := r) (o := r) (by rw [hll]; omega) rfl
    have fl := BL.out.frozen r
    have hr128 : (r : Int) < 128 := by omega
    have HLL := hide hll; clear hll
    go_upto_if 30 with fail
    have BL0 := hide (p := Blk (w9.setCell ⟨L0, r, none⟩ (.int .u8 128)) L0 89 (bcells (shaLast0 rest))) (by
      have := BL.out.setByte r 128
      unfold shaLast0
      rw [HR64.out] at this ⊢
      exact this)
    have hll : (shaLast0 rest).length = 128 := by unfold shaLast0; rw [List.length_set]; exact HLL.out
    have BS9' := hide (BS9.out.far (p := ⟨L0, r, none⟩) (by simp; omega) (.int .u8 128))
    have BK9' := hide (BK9.out.far (p := ⟨L0, r, none⟩) (by simp; omega) (.int .u8 128))
    have BH9' := hide (BH9.out.far (p := ⟨L0, r, none⟩) (by simp; omega) (.int .u8 128))
    have KW9' := hide (KW9.out.setCell (p := ⟨L0, r, none⟩) (.inr (by show w.heap.size ≤ L0; omega)) (.int .u8 128))
    have HL2 := hide hll
    clear hll BS9 BK9 BH9 KW9 cl fl BL HLL
    generalize w9.setCell ⟨L0, r, none⟩ (.int .u8 128) = wa at *
    go_cut [8] (fun v8 w' => ∃ E : Nat, v8 = .int .i64 (E : Int) ∧ Hid (E = if r < 56 then 64 else 128) ∧ w' = wa)
    case first =>
      by_cases h56 : (56 : Int) ≤ r
      · go_wp2
        go_meet
        case rel => exact ⟨128, rfl, hide (by rw [if_neg (by omega)]), rfl⟩
      go_wp2
      go_meet
      case rel => exact ⟨64, rfl, hide (by rw [if_pos (by omega)]), rfl⟩
    case rest =>
      obtain ⟨E, rfl, HE, rfl⟩ := hcut
      have he1 : 64 ≤ E := by rw [HE.out]; split <;> omega
      have he2 : E ≤ 128 := by rw [HE.out]; split <;> omega
      have HE3 := hide (p := E = 64 ∨ E = 128) (by rw [HE.out]; split <;> omega)
      have hpl : p.length ≤ 140737488355328 := by omega
      have hconv : IntKind.u64.wrap (p.length : Int) = U64 (UInt64.ofNat p.length) := by
        rw [U64_lit _ (by omega)]; exact IntWalk.u64_in _ (by omega)
      go_wp2
      clear hconv
      obtain ⟨D, hD⟩ : ∃ D, D = shl64 (UInt64.ofNat p.length) 3 := ⟨_, rfl⟩
      rw [← hD]
      have HD := hide hD; clear hD
      obtain ⟨wo, rfl⟩ : ∃ wo : World, wo = wc := ⟨_, rfl⟩
      go_loopw [35] (fun v wq => ∃ j : Nat, j ≤ 8 ∧ v = .int .i64 (j : Int) ∧ Blk wq L0 89 (bcells (shaLast (shaLast0 rest) E D j)) ∧ Kept [L0] wo wq) (fun v _ => 8 - (intOf v).toNat)
      case atStart => exact ⟨0, by omega, rfl, BL0.out, Kept.refl _ _⟩
      case round =>
        obtain ⟨j, hj, rfl, hbl, hkl⟩ := hrel
        have hsl : (shaLast (shaLast0 rest) E D j).length = 128 := by rw [shaLast_len]; exact HL2.out
        by_cases hlt8 : j < 8
        · have x1 : IntKind.i64.wrap ((E : Int) - 1) = E - 1 := IntWalk.i64_in _ (by omega)
          have x2 : IntKind.i64.wrap ((E : Int) - 1 - j) = E - 1 - j := IntWalk.i64_in _ (by omega)
          have x3 : IntKind.i64.wrap (8 * (j : Int)) = 8 * j := IntWalk.i64_in _ (by omega)
          have x4 : (0 : Int) ≤ E - 1 - j := by omega
          have x5 : (E : Int) - 1 - j < 128 := by omega
          have x6 : ((E : Int) - 1 - j).toNat = E - 1 - j := by omega
          have x7 : (8 * (j : Int)).toNat = 8 * j := by omega
          have x8 : (0 : Int) ≤ 8 * (j : Int) := by omega
          have cl := hbl.byte' (i := E - 1 - j) (o := E - 1 - j) (by omega) rfl
          have fl := hbl.frozen (E - 1 - j)
          have HBL := hide hbl; have HKL := hide hkl; clear hbl hkl hsl
          go_wp2
          go_roundw
          case rel => exact ⟨j + 1, by omega, by go_num, HBL.out.setByte _ _, HKL.out.setCell (.inl (by simp)) _⟩
          case measure => simp [intOf]; omega
        have hj8 : j = 8 := by omega
        obtain ⟨L, hL⟩ : ∃ L, shaLast (shaLast0 rest) E D j = L := ⟨_, rfl⟩
        rw [hL] at hbl hsl
        have HL8 := hide (p := L = shaLast (shaLast0 rest) E D 8) (by rw [← hL, hj8])
        have hd8 : decide ((j : Int) < 8) = false := by simp; omega
        clear hL hj8
        have HBL := hide hbl; have HSL := hide hsl
        have BS2 := hide (BS9'.out.kept hkl (by simp; omega)); have BK2 := hide (BK9'.out.kept hkl (by simp; omega)); have BH2 := hide (BH9'.out.kept hkl (by simp; omega)); have KW2 := hide (KW9'.out.then_ hkl (by simp; omega))
        clear hbl hsl hkl BL0 BS9' BK9' BH9' KW9'
        go_wp2
        obtain ⟨wo2, rfl⟩ : ∃ wo : World, wo = wr := ⟨_, rfl⟩
        go_loopw [11] (fun v wq => ∃ j : Nat, 64 * j ≤ E ∧ v = .int .i64 (64 * (j : Int)) ∧ Blk wq S0 84 (wcells (shaRun j s1 L)) ∧ Kept [S0] wo2 wq) (fun v _ => E - (intOf v).toNat)
        case atStart => exact ⟨0, by omega, rfl, BS2.out, Kept.refl _ _⟩
        case round =>
          obtain ⟨j2, hj2, rfl, hbs, hks⟩ := hrel
          by_cases hlt9 : 64 * j2 < E
          · have y1 : 64 * (j2 : Int) < E := by omega
            have y2 : 0 ≤ 64 * (j2 : Int) := by omega
            have y3 : 64 * (j2 : Int) ≤ 128 := by omega
            have y4 : (64 * (j2 : Int)).toNat = 64 * j2 := by omega
            have HBS := hide hbs; have HKS := hide hks
            have HBL2 := hide (HBL.out.kept hks (by simp; omega)); have HBK2 := hide (BK2.out.kept hks (by simp; omega))
            clear hbs hks
            have hE64 : 64 * j2 + 64 ≤ 128 := by omega
            go_wp2_with fail
            (with_reducible refine (dTakeN _ _ _ _ _ _ _ (L.drop (64 * j2)) (shaRun_len _ _ _ hs1.out) HBS.out HBK2.out (rd_at HBL2.out _) (by rw [List.length_drop, HSL.out]) (by omega) (by omega)).mono ?_)
            rintro e w10 ⟨rfl, hbS10, hk10⟩
            go_wp2
            go_roundw
            case rel => exact ⟨j2 + 1, by have := HE3.out; omega, by rw [show 64 * ((j2 + 1 : Nat) : Int) = 64 * (j2 : Int) + 64 by omega], by rw [shaRun_succ]; exact hbS10, HKS.out.then_ hk10 (by simp)⟩
            case measure => simp [intOf]; omega
          have hjE : j2 = E / 64 := by
            rcases Nat.lt_or_ge r 56 with h | h
            · have := HE.out; rw [if_pos h] at this; omega
            have := HE.out; rw [if_neg (by omega)] at this; omega
          obtain ⟨s2, hs2⟩ : ∃ s2, shaRun j2 s1 L = s2 := ⟨_, rfl⟩
          have HS2 := hide (p := s2 = shaRun (E / 64) s1 L) (by rw [← hs2, hjE])
          have HS2L := hide (p := s2.length = 8) (by rw [← hs2]; exact shaRun_len _ _ _ hs1.out)
          rw [hs2] at hbs
          have hd9 : decide (64 * (j2 : Int) < E) = false := by simp; omega
          have y2 : 0 ≤ 64 * (j2 : Int) := by omega
          have BS3 := hide hbs
          have BH3 := hide (BH2.out.kept hks (by simp; omega)); have KW3 := hide (KW2.out.then_ hks (by simp; omega))
          clear hs2 hjE hbs hks BS2 BK2 BH2 KW2 HBL
          go_wp2_with (change wpList _ _ _ ({ dst := some 57, op := .load _ _, type := _, pos := _, after := _, guard := _ } :: _) _ _
                       refine wpL rfl _ _ rfl S0 rfl _ _ _ BS3.out Try.underlying84 rfl (size8 HS2L.out) ?_)
          obtain ⟨wo3, rfl⟩ : ∃ wo : World, wo = wr := ⟨_, rfl⟩
          go_loopw [58] (fun v wq => ∃ j : Nat, j ≤ 8 ∧ v = .int .i64 (j : Int) ∧ Blk wq H0 36 (bcells (shaOut s2 j (List.replicate 32 0))) ∧ Kept [H0] wo3 wq) (fun v _ => 8 - (intOf v).toNat)
          case atStart => exact ⟨0, by omega, rfl, BH3.out, Kept.refl _ _⟩
          case round =>
            obtain ⟨j3, hj3, rfl, hbh, hkh⟩ := hrel
            have hol : (shaOut s2 j3 (List.replicate 32 0)).length = 32 := by rw [shaOut_len, List.length_replicate]
            by_cases hlt10 : j3 < 8
            · have z0 : IntKind.i64.wrap (4 * (j3 : Int)) = 4 * j3 := IntWalk.i64_in _ (by omega)
              have z1 : IntKind.i64.wrap (4 * (j3 : Int) + 1) = 4 * j3 + 1 := IntWalk.i64_in _ (by omega)
              have z2 : IntKind.i64.wrap (4 * (j3 : Int) + 2) = 4 * j3 + 2 := IntWalk.i64_in _ (by omega)
              have z3 : IntKind.i64.wrap (4 * (j3 : Int) + 3) = 4 * j3 + 3 := IntWalk.i64_in _ (by omega)
              have a0 : 0 ≤ 4 * (j3 : Int) := by omega
              have a1 : 0 ≤ 4 * (j3 : Int) + 1 := by omega
              have a2 : 0 ≤ 4 * (j3 : Int) + 2 := by omega
              have a3 : 0 ≤ 4 * (j3 : Int) + 3 := by omega
              have b0 : 4 * (j3 : Int) < 32 := by omega
              have b1 : 4 * (j3 : Int) + 1 < 32 := by omega
              have b2 : 4 * (j3 : Int) + 2 < 32 := by omega
              have b3 : 4 * (j3 : Int) + 3 < 32 := by omega
              have t0 : (4 * (j3 : Int)).toNat = 4 * j3 := by omega
              have t1 : (4 * (j3 : Int) + 1).toNat = 4 * j3 + 1 := by omega
              have t2 : (4 * (j3 : Int) + 2).toNat = 4 * j3 + 2 := by omega
              have t3 : (4 * (j3 : Int) + 3).toNat = 4 * j3 + 3 := by omega
              have c0 := hbh.byte' (i := 4 * j3) (o := 4 * j3) (by omega) rfl
              have c1 := hbh.byte' (i := 4 * j3 + 1) (o := 4 * j3 + 1) (by omega) rfl
              have c2 := hbh.byte' (i := 4 * j3 + 2) (o := 4 * j3 + 2) (by omega) rfl
              have c3 := hbh.byte' (i := 4 * j3 + 3) (o := 4 * j3 + 3) (by omega) rfl
              have f0 := hbh.frozen (4 * j3)
              have f1 := hbh.frozen (4 * j3 + 1)
              have f2 := hbh.frozen (4 * j3 + 2)
              have f3 := hbh.frozen (4 * j3 + 3)
              have hidx := idxW s2 HS2L.out j3 hlt10
              have HBH := hide hbh; have HKH := hide hkh; clear hbh hkh hol
              go_wp2
              go_roundw
              case rel => exact ⟨j3 + 1, by omega, by go_num, (((HBH.out.setByte _ _).setByte _ _).setByte _ _).setByte _ _, (((HKH.out.setCell (.inl (by simp)) _).setCell (.inl (by simp)) _).setCell (.inl (by simp)) _).setCell (.inl (by simp)) _⟩
              case measure => simp [intOf]; omega
            have hj8' : j3 = 8 := by omega
            have HOUT := hide (p := shaOut s2 j3 (List.replicate 32 0) = sha p) (by
              rw [hj8']; exact sha_of p rest L r E D s1 s2 HREST.out HR64.out HE.out HD.out HL8.out HS.out HS2.out)
            rw [HOUT.out] at hbh
            have HBH := hide hbh
            have HKW := hide (KW3.out.then_ hkh (by simp; omega))
            have hd10 : decide ((j3 : Int) < 8) = false := by simp; omega
            clear hbh hkh hol hj8'
            go_wp2_with (first
              | (change wpList _ _ _ ({ dst := some 89, op := .load _ _, type := _, pos := _, after := _, guard := _ } :: _) _ _
                 refine wpL rfl _ _ rfl H0 rfl _ _ _ HBH.out Try.underlying36 rfl (by rw [bcells_size, sha_len]; exact sizeHash) ?_)
              | (change wpList _ _ _ ({ dst := none, op := .store 36 _ _, type := _, pos := _, after := _, guard := _ } :: _) _ _
                 refine wpS rfl _ _ _ rfl H0 rfl (.agg (bcells (sha p))) rfl _ _ HBH.out (by rw [Value.cells, bcells_size, sha_len]; exact sizeHash) rfl (bcells_one _) ?_
                 intro w11 hb11 hk11))
            refine bodyPost_ret (results_cell_row rfl _ _ _ _ _ _ _ rfl hb11 Try.underlying36 rfl (by rw [Value.cells, bcells_size, sha_len]; exact sizeHash)) rfl ⟨rfl, ?_⟩
            exact HKW.out.then_ hk11 (by simp; omega)
end
section

end
section
/-- what an element type is: its zero, its cells, its bytes -/
structure ElemT (P : Program) (t e : TypeId) (z : Value) (size bytes : Nat) : Prop where
  slice : P.underlying t = some (.slice e)
  info : ∃ i, P.info? e = some i ∧ i.zero = some z ∧ i.size = size ∧ i.bytes = bytes
  zsize : z.cells.size = size
  pos : 0 < size

theorem ElemT.mk' {P : Program} {t e : TypeId} {z : Value} {size bytes : Nat} (h1 : P.underlying t = some (.slice e))
    (h2 : (P.info? e).map (fun i => (i.zero, i.size, i.bytes)) = some (some z, size, bytes)) (h3 : z.cells.size = size) (h4 : 0 < size) : ElemT P t e z size bytes := by
  refine ⟨h1, ?_, h3, h4⟩
  cases hq : P.info? e with
  | none => rw [hq] at h2; cases h2
  | some i =>
    rw [hq] at h2
    simp only [Option.map_some, Option.some.injEq, Prod.mk.injEq] at h2
    exact ⟨i, rfl, h2.1, h2.2.1, h2.2.2⟩

section
variable {P : Program} {ops : Array Oper} {rest : List Oper} {o : Oper} {a : Go.Act} {w : World} {Q : Exit → Go.Act → World → Prop}

end

/-- where a cut of a slice begins -/
def cutA (A : Option Addr) (c l size : Nat) : Option Addr := if c = l then A else A.map (·.add (l * size))
theorem Rd.cut {w : World} {A : Option Addr} {xs : List Value} (h : Rd w A xs) (c l : Nat) (hc : xs.length ≤ c) : Rd w (cutA A c l 1) (xs.drop l) := by
  intro hl
  rw [List.length_drop] at hl
  have h2 := h.drop l c (by omega) hc
  unfold cutA
  rw [Nat.mul_one]
  exact h2 (by rw [List.length_drop]; omega)
theorem RdB.cut {B : Nat} {w : World} {A : Option Addr} {xs : List Value} (h : RdB B w A xs) (c l : Nat) (hc : xs.length ≤ c) : RdB B w (cutA A c l 1) (xs.drop l) := by
  intro hl
  rw [List.length_drop] at hl
  have h2 := h.drop l c (by omega) hc
  unfold cutA
  rw [Nat.mul_one]
  exact h2 (by rw [List.length_drop]; omega)
section
variable {P : Program}
theorem run_cut (w : World) {t e : TypeId} {z : Value} {size bytes : Nat} (ht : ElemT P t e z size bytes) (A : Option Addr) (n c : Nat) (kl kh : IntKind) (l h : Nat) (hl : l ≤ h) (hh : h ≤ c) :
    (Instr.sliceAt t (.slice A n c) (some (.int kl (l : Int))) (some (.int kh (h : Int))) none).run P w = .ok (.slice (cutA A c l size) (h - l) (c - l)) w := by
  obtain ⟨i, hi, _, hsz, _⟩ := ht.info
  have a1 : (0 : Int) ≤ (h : Int) ∧ (h : Int) ≤ (c : Int) := by omega
  have a2 : (0 : Int) ≤ (l : Int) ∧ (l : Int) ≤ (h : Int) := by omega
  simp [Instr.sliceAt, Instr.slice, run_underlying ht.slice, Instr.sliceBounds, Instr.sliceBound, asIntOf, hl, hh, sizeOf, typeInfo, hi, hsz, cutA]
end

/-! ### bytes -/
theorem byteT : ElemT Try.prog 71 5 (.int .u8 0) 1 1 := ElemT.mk' Try.underlying71 (by kernel_rfl) rfl (by omega)

/-- a slice of bytes of one's own, in a block from N on -/
def OwnS (N : Nat) (w : World) (v : Value) (xs : List UInt8) : Prop := w.ownsRow N 5 1 v xs.length (xs.map BV)
theorem OwnS.nil (N : Nat) (w : World) : OwnS N w (.slice none 0 0) [] := World.ownsRow_nil w N _ 1
theorem OwnS.kept {N : Nat} {w w' : World} {v : Value} {xs : List UInt8} {S : List Nat} (h : OwnS N w v xs) (hk : Kept S w w') (hS : ∀ g, v.ownBlock = some g → g ∉ S) : OwnS N w' v xs := by
  refine ⟨h.1, ?_⟩
  rcases h.2 with h2 | ⟨g, cap, cur, rfl, hb, hg, r⟩
  · exact .inl h2
  exact .inr ⟨g, cap, cur, rfl, hb, Blk.kept (t := 5) hg hk (hS g rfl), r⟩
theorem OwnS.lo {N : Nat} {w : World} {v : Value} {xs : List UInt8} (h : OwnS N w v xs) {g : Nat} (hg : v.ownBlock = some g) : N ≤ g := (h.lt g hg).1
theorem OwnS.form {N : Nat} {w : World} {v : Value} {xs : List UInt8} (h : OwnS N w v xs) : ∃ A c, v = .slice A xs.length c ∧ Rd w A (xs.map BV) ∧ xs.length ≤ c ∧ c ≤ maxLen ∧ (∀ a, A = some a → N ≤ a.block) := by
  rcases h.2 with ⟨rfl, h0⟩ | ⟨g, cap, cur, rfl, hb, hg, hnc, hcm, hcs, htake⟩
  · refine ⟨none, 0, by rw [h0], fun hl => ?_, by omega, by simp [maxLen], by simp⟩
    rw [List.length_map] at hl; omega
  refine ⟨some ⟨g, 0, none⟩, cap, rfl, fun _ => ⟨_, rfl, fun i v hv => ?_⟩, hnc, hcm, fun a ha => by injection ha with ha; subst ha; exact hb⟩
  exact World.ownsRow.cells h (g := g) rfl i v hv
theorem OwnS.mono {N N' : Nat} {w : World} {v : Value} {xs : List UInt8} (h : OwnS N w v xs) (hN : N' ≤ N) : OwnS N' w v xs := by
  refine ⟨h.1, ?_⟩
  rcases h.2 with h2 | ⟨g, cap, cur, rfl, hb, r⟩
  · exact .inl h2
  exact .inr ⟨g, cap, cur, rfl, by omega, r⟩
section
variable {ops : Array Oper} {rest : List Oper} {o : Oper} {a : Go.Act} {w : World} {Q : Exit → Go.Act → World → Prop}
end
theorem run_cut8 (w : World) (A : Option Addr) (n c : Nat) (kl kh : IntKind) (l h : Int) (h0 : 0 ≤ l) (h1 : l ≤ h) (h2 : h ≤ (c : Int)) :
    (Instr.sliceAt 71 (.slice A n c) (some (.int kl l)) (some (.int kh h)) none).run Try.prog w = .ok (.slice (cutA A c l.toNat 1) (h.toNat - l.toNat) (c - l.toNat)) w := by
  obtain ⟨l, rfl⟩ := Int.eq_ofNat_of_zero_le h0
  obtain ⟨h, rfl⟩ := Int.eq_ofNat_of_zero_le (Int.le_trans h0 h1)
  exact run_cut w byteT A n c kl kh l h (by omega) (by omega)
end
section

end
section
attribute [local go_sem high] run_cut8
end
section
theorem dSumN (w : World) (A : Option Addr) (n c : Nat) (p : List UInt8) (hn : p.length = n) (hr : Rd w A (p.map BV)) (hc : n ≤ c) (hm : n ≤ 140737488355328) :
    Calls Try.prog 16 #[.slice A n c] w fun e w' => e = .returned (.agg (bcells (sha p))) ∧ Kept [] w w' := by
  subst hn; exact dSum w A c p hr hc hm
end
section
theorem Kept.cum {g : Gh} {h : Heap} {w w' : World} (hk : Kept [] w w') : Cum (entry g h w) g h w' :=
  ⟨hk.os, hk.tape, hk.output, hk.size, fun k hlt _ => hk.block k hlt (by simp), fun _ hf => .inl hf, fun _ _ h => h, fun _ _ h => .inl h, fun _ => rfl⟩
theorem WI.kept {g : Gh} {h : Heap} {w w' : World} (hw : WI g h w) (hk : Kept [] w w') : WI g h w' := by
  have hb : ∀ k, k < w.heap.size → w'.heap[k]? = w.heap[k]? := fun k hlt => hk.block k hlt (by simp)
  refine ⟨fun a v ha => ?_, fun i cs hi => ?_, hw.inj, hw.boxM, fun t r hr => ?_, hw.ownB, hw.ownI, fun t r hr => (hw.muta t r hr).same (by obtain ⟨_, h1, _⟩ := hw.own t r hr; exact hb _ (block_lt h1))⟩
  · rw [cell_eq (hb _ (hw.mem_lt ha))]; exact hw.mem a v ha
  · obtain ⟨ys, t, h1, h2⟩ := hw.box i cs hi
    exact ⟨ys, t, by rw [hb _ (block_lt h1)]; exact h1, h2⟩
  obtain ⟨cur, h1, h2⟩ := hw.own t r hr
  exact ⟨cur, by rw [hb _ (block_lt h1)]; exact h1, h2⟩
/-- a contract out of a walk that keeps all -/
theorem Holds.ofKept {P : Program} {f : FuncId} {args : List W} {v : V} (hc : Callable P f)
    (H : ∀ (g : Gh) (w : World) (xs : List Value), All2 (RelW g) args xs → WI g [] w → ∃ y, RelV g v y ∧ Calls P f xs.toArray w fun e w' => e = .returned y ∧ Kept [] w w') : Holds P f args [] (fun r h' => r = v ∧ h' = []) := by
  refine ⟨hc, fun g w xs _ ha hw => ?_⟩
  obtain ⟨y, hy, hcall⟩ := H g w xs ha hw
  refine hcall.mono ?_
  rintro e w' ⟨rfl, hk⟩
  exact ⟨y, v, [], g, rfl, ⟨rfl, rfl⟩, hy, hw.kept hk, hk.cum⟩
/-- what an argument of bytes is -/
theorem byt_arg {g : Gh} {w : World} {bs : List UInt8} {y : Value} (hw : WI g [] w) (h : RelW g (.byt bs) y) : ∃ A n c, y = .slice A n c ∧ bs.length = n ∧ n ≤ c ∧ Rd w A (bs.map BV) := by
  obtain ⟨_, hy⟩ := RelD.lst_inv h.1
  rcases hy with ⟨rfl, hb, _⟩ | ⟨a, n, c, rfl, _, hl, hc, _, hM⟩
  · have : bs = [] := by simpa [Go.Proofs.Ytgeelaafmnedmaa.byt] using hb
    subst this
    exact ⟨none, 0, 0, rfl, rfl, Nat.le_refl _, fun h => by simp at h⟩
  refine ⟨some a, n, c, rfl, by rw [Nat.mul_one, byt_len] at hl; exact hl.symm, hc, fun _ => ⟨a, rfl, fun i v hv => ?_⟩⟩
  simp only [List.getElem?_map, Option.map_eq_some_iff] at hv
  obtain ⟨b, hb, rfl⟩ := hv
  obtain ⟨u, hu, hr⟩ := hM i (.val (.int .u8 b.toNat)) (by simp [Go.Proofs.Ytgeelaafmnedmaa.byt, hb])
  cases hr
  exact hw.mem _ _ hu
theorem agg_byt {g : Gh} (bs : List UInt8) : RelV g (.w (.agg ((byt bs).map D.toC))) (.agg (bcells bs)) := by
  refine ⟨bcells bs, rfl, ?_⟩
  have : (bcells bs).toList = bs.map BV := by simp [bcells]
  rw [this]
  clear this
  induction bs with
  | nil => exact .nil
  | cons b bs ih => exact .cons ⟨rfl, rfl⟩ ih
theorem callable {f : FuncId} {fn : Func} {c : Code} (hf : Try.prog.funcs[f]? = some fn) (hb : fn.body = some c) (hn : (fn.name == "runtime.NumGoroutine") = false) : Callable Try.prog f := callable_of hf hb hn
theorem dsum_h (p : List UInt8) (hp : p.length ≤ 140737488355328) : Holds Try.prog 16 [.byt p] [] (fun r h' => r = .w (.agg ((byt (sha p)).map D.toC)) ∧ h' = []) := by
  refine Holds.ofKept (callable Try.func16 rfl (by decide +kernel)) fun g w xs ha hw => ?_
  obtain ⟨y, xs', rfl, h1, h2⟩ := ha.cons_inv
  obtain rfl := h2.nil_inv
  obtain ⟨A, n, c, rfl, hn, hc, hr⟩ := byt_arg hw h1
  exact ⟨_, agg_byt _, dSumN w A n c p hn hr hc (by omega)⟩
end
section
/-- a digest -/
structure Hs where
  b : List UInt8
  len : b.length = 32
deriving DecidableEq
theorem Hs.ext' {a b : Hs} (h : a.b = b.b) : a = b := by cases a; cases b; simp only at h; subst h; rfl
def hsC (h : Hs) : List C := (byt h.b).map D.toC
def hs0 : Hs := ⟨List.replicate 32 0, rfl⟩
@[go_sem] theorem hsC_len {h : Hs} : (hsC h).length = 32 := by unfold hsC; rw [List.length_map, byt_len, h.len]
def vdC (ov : Bool) (w y n : Int) (h : Hs) : List C := .val (.bool ov) :: .val (.int .i64 w) :: .val (.int .i64 y) :: .val (.int .i64 n) :: hsC h
section
variable {ov ov' : Bool} {w y n w' y' n' : Int} {h h' : Hs} {V' : V → Prop} {K : C → Prop} {ks : List Id} {m : Nat}
@[go_sem] theorem vd_l : (vdC ov w y n h).length = 36 := by unfold vdC; simp only [List.length_cons, hsC_len]
theorem hs_map {f : C → C} (hf : ∀ x, f (.val x) = .val x) : (hsC h).map f = hsC h := by
  unfold hsC byt
  rw [List.map_map, List.map_map, List.map_map]
  exact List.map_congr_left fun b _ => hf _
theorem vd_map {f : C → C} (hf : ∀ x, f (.val x) = .val x) : (vdC ov w y n h).map f = vdC ov w y n h := by
  unfold vdC
  simp only [List.map_cons, hf, hs_map hf]
@[go_sem] theorem vd_k {bi : Id → Bool} {bt : Tag → Bool} : (vdC ov w y n h).map (C.clean bi bt) = vdC ov w y n h := vd_map fun _ => rfl
@[go_sem] theorem vd_r : (vdC ov w y n h).map (C.ren ks m) = vdC ov w y n h := vd_map fun _ => rfl
@[go_sem] theorem hs_k {bi : Id → Bool} {bt : Tag → Bool} : (hsC h).map (C.clean bi bt) = hsC h := hs_map fun _ => rfl
@[go_sem] theorem hs_r : (hsC h).map (C.ren ks m) = hsC h := hs_map fun _ => rfl
theorem hs_known : (hsC h).all known = true := by
  unfold hsC byt
  rw [List.map_map, List.all_map]
  simp only [List.all_eq_true]
  intro b _; rfl
@[go_sem] theorem hs_n : (hsC h).all known = true := hs_known
@[go_sem] theorem vd_n : (vdC ov w y n h).all known = true := by
  unfold vdC
  simp only [List.all_cons, hs_known, go_sem, Bool.and_true, Bool.true_and]
@[go_sem ↓ 1300] theorem vd_m0 : (∃ c, (vdC ov w y n h)[0]? = some c ∧ K c) = K (.val (.bool ov)) := ex_some rfl
@[go_sem 1300] theorem vd_u0 {x : Bool} : (vdC ov w y n h).set 0 (.val (.bool x)) = (vdC x w y n h) := nr rfl
@[go_sem ↓ 1300] theorem vd_m1 : (∃ c, (vdC ov w y n h)[1]? = some c ∧ K c) = K (.val (.int .i64 w)) := ex_some rfl
@[go_sem 1300] theorem vd_u1 {x : Int} : (vdC ov w y n h).set 1 (.val (.int .i64 x)) = (vdC ov x y n h) := nr rfl
@[go_sem ↓ 1300] theorem vd_m2 : (∃ c, (vdC ov w y n h)[2]? = some c ∧ K c) = K (.val (.int .i64 y)) := ex_some rfl
@[go_sem 1300] theorem vd_u2 {x : Int} : (vdC ov w y n h).set 2 (.val (.int .i64 x)) = (vdC ov w x n h) := nr rfl
@[go_sem ↓ 1300] theorem vd_m3 : (∃ c, (vdC ov w y n h)[3]? = some c ∧ K c) = K (.val (.int .i64 n)) := ex_some rfl
@[go_sem 1300] theorem vd_u3 {x : Int} : (vdC ov w y n h).set 3 (.val (.int .i64 x)) = (vdC ov w y x h) := nr rfl
@[go_sem ↓ 1300] theorem vd_p : aPt (some true) 36 (vdC ov w y n h) 0 V' = V' (.w (.agg (vdC ov w y n h))) := by
  have e : ((vdC ov w y n h).drop 0).take 36 = vdC ov w y n h := by rw [List.drop_zero, List.take_of_length_le (by rw [vd_l]; omega)]
  simp only [aPt, vd_l, e, Nat.reduceAdd, Nat.reduceLeDiff, true_and]
@[go_sem 1300] theorem hs_td : List.take 32 (List.drop 0 (hsC h)) = hsC h := by rw [List.drop_zero, List.take_of_length_le (by rw [hsC_len]; omega)]
@[go_sem 1300] theorem vd_td : List.take 36 (List.drop 0 (vdC ov w y n h)) = vdC ov w y n h := by rw [List.drop_zero, List.take_of_length_le (by rw [vd_l]; omega)]
@[go_sem 1300] theorem vd_s4 : spl (vdC ov w y n h) 4 (hsC h') = vdC ov w y n h' := by
  have e : vdC ov w y n h = [.val (.bool ov), .val (.int .i64 w), .val (.int .i64 y), .val (.int .i64 n)] ++ hsC h := rfl
  rw [e, show (4 : Nat) = ([.val (.bool ov), .val (.int .i64 w), .val (.int .i64 y), .val (.int .i64 n)] : List C).length + 0 from rfl, spl_appR (by rw [hsC_len, hsC_len]; omega), spl_all (by rw [hsC_len, hsC_len])]
  rfl
@[go_sem 1300] theorem vd_o : spl (vdC ov w y n h) 0 (vdC ov' w' y' n' h') = vdC ov' w' y' n' h' := spl_all (by rw [vd_l, vd_l])
@[go_sem 1300] theorem hs_o : spl (hsC h) 0 (hsC h') = hsC h' := spl_all (by rw [hsC_len, hsC_len])
@[go_sem ↓] theorem vd_w {l : List V} {hp : Heap} {i : Id} {off : Nat} {cs : List C} : St.stow ⟨l, hp⟩ i off cs (vdC ov w y n h) = ⟨l, hset hp i (spl cs off (vdC ov w y n h))⟩ := by
  rw [stow_big (by rw [vd_l]; omega), vd_k]
@[go_sem ↓] theorem hs_w {l : List V} {hp : Heap} {i : Id} {off : Nat} {cs : List C} : St.stow ⟨l, hp⟩ i off cs (hsC h) = ⟨l, hset hp i (spl cs off (hsC h))⟩ := by
  rw [stow_big (by rw [hsC_len]; omega), hs_k]
@[go_sem 1400] theorem vd_z : (.val (.bool ov) :: .val (.int .i64 w) :: .val (.int .i64 y) :: .val (.int .i64 n) :: hsC h : List C) = vdC ov w y n h := nr rfl
@[go_sem 1400] theorem hs_z : ([.val (.int .u8 0), .val (.int .u8 0), .val (.int .u8 0), .val (.int .u8 0), .val (.int .u8 0), .val (.int .u8 0), .val (.int .u8 0), .val (.int .u8 0), .val (.int .u8 0), .val (.int .u8 0), .val (.int .u8 0), .val (.int .u8 0), .val (.int .u8 0), .val (.int .u8 0), .val (.int .u8 0), .val (.int .u8 0), .val (.int .u8 0), .val (.int .u8 0), .val (.int .u8 0), .val (.int .u8 0), .val (.int .u8 0), .val (.int .u8 0), .val (.int .u8 0), .val (.int .u8 0), .val (.int .u8 0), .val (.int .u8 0), .val (.int .u8 0), .val (.int .u8 0), .val (.int .u8 0), .val (.int .u8 0), .val (.int .u8 0), .val (.int .u8 0)] : List C) = hsC hs0 := nr rfl
@[congr] theorem cg_aEqA4 {q q' : Option (List (Option IntKind))} {cs ds cs' ds' : List C} {J : Bool → Prop} (h0 : q = q') (h1 : cs = cs') (h2 : ds = ds') : aEqA q cs ds J = aEqA q' cs' ds' J := by subst h0; subst h1; subst h2; rfl
end
/-- the digest of bytes -/
def shaH (p : List UInt8) : Hs := ⟨sha p, sha_len p⟩
theorem sha_hs (p : List UInt8) : (byt (sha p)).map D.toC = hsC (shaH p) := by simp only [hsC, shaH]
end
section
theorem encS_len (s : Sta) : (encS s).length ≤ 100 := by
  have hn := num_len (zz s.frame)
  unfold encS
  simp only [List.length_append, encC_len, s.len, List.length_cons, List.length_nil]
  have : (le4 s.seed).length = 4 := rfl
  omega
theorem vhash_h (s : Sta) (h1 : -9223372036854775808 ≤ s.frame) (h2 : s.frame ≤ 9223372036854775807) : Holds Try.prog 10 [.agg ((sd s).map D.toC)] [] (fun r h' => r = .w (.agg (hsC (shaH (encS s)))) ∧ h' = []) := by
  have he := encode_h13 s h1 h2
  have hd := dsum_h (encS s) (by have := encS_len s; omega)
  rw [sha_hs] at hd
  refine holds_of_awp Try.func10 rfl (by decide +kernel) mixed Try.ntmps10 Try.results10 ?_
  refine zE ?_
  refine zs ?_;try exact trivial
  refine a_call [] (he) ok0 ?_ ?_ ?_
  · refine zs ?_;try exact trivial
  · refine zs ?_;try exact trivial
  rintro _ _ ⟨rfl, rfl⟩
  refine zs ?_;try exact trivial
  refine a_call [] (hd) ok0 ?_ ?_ ?_
  · refine zs ?_;try exact trivial
  · refine zs ?_;try exact trivial
  rintro _ _ ⟨rfl, rfl⟩
  refine zs ?_;try exact trivial
end
section
/-- a verdict's cells -/
abbrev vdR (d : Ct) : List C := vdC (vdP d).2.2 (vdP d).1 (vdP d).2.1 (d.pairs.length : Int) (shaH (encS d.st))
theorem endS_frame (cap : Int) (s : Sta) : (endS cap s).frame = s.frame + 1 := by unfold endS; split <;> rfl
theorem step_frame (code : List (Int × Int)) (cap fuel : Int) (s : Sta) (i0 i1 : UInt16) (h : ∀ x ∈ s.cells, B32 x) : 0 ≤ (stepP code cap fuel s i0 i1).1.frame ∧ (stepP code cap fuel s i0 i1).1.frame ≤ 601 := by
  have hz : 0 ≤ (stz 0 0).frame ∧ (stz 0 0).frame ≤ 601 := ⟨Int.le_refl _, by show (0 : Int) ≤ 601; omega⟩
  unfold stepP
  split
  · exact hz
  rename_i hg
  split
  · exact hz
  rename_i hi
  split
  · exact hz
  have hg' : gameP code cap fuel = 0 := by simpa using hg
  have hi' : isP s = true := by cases hh : isP s <;> simp_all
  obtain ⟨f0, f1, _⟩ := isP_spec hi'
  show 0 ≤ (stepM code cap fuel.toNat s i0 i1).frame ∧ (stepM code cap fuel.toNat s i0 i1).frame ≤ 601
  unfold stepM
  rw [endS_frame]
  split
  · have := runM_B (gameP_spec hg').1 fuel.toNat (mac0 s i0 i1) ⟨fun x hx => (by cases hx), h, f0, f1⟩ (by show (0 : Int) ≤ 0; omega)
    have a := this.fr0
    have b := this.fr1
    omega
  omega
theorem foS_frame {code : List (Int × Int)} {cap fuel : Int} {seed : UInt32} {f : Nat → UInt16 × UInt16} : ∀ n, 0 ≤ (foS code cap fuel (startS seed) f n).frame ∧ (foS code cap fuel (startS seed) f n).frame ≤ 601
  | 0 => ⟨Int.le_refl _, by show (0 : Int) ≤ 601; omega⟩
  | n + 1 => by
    exact step_frame _ _ _ _ _ _ (foS_B (start_B _) n)
theorem Inv18.fr {c : Ct} (h : Inv18 c) : -9223372036854775808 ≤ c.st.frame ∧ c.st.frame ≤ 9223372036854775807 := by
  rw [h.st]; have := foS_frame (code := c.code) (cap := c.cap) (fuel := c.fuel) (seed := c.seed) (f := pz c.in0 c.in1) c.pairs.length; omega
section
variable (code : List (Int × Int)) (cap fuel : Int) (l : List Ev) (hcl : code.length ≤ 9223372036854775807)
include hcl
set_option maxRecDepth 20000 in
set_option maxHeartbeats 4000000 in
theorem judge_ok (hl : l.length ≤ 1000) (hg : gameP code cap fuel = 0) (hE : (ovE (ctNew code cap fuel) 0 l).2 = 0) : Holds Try.prog 5 [.game code cap fuel, .c (.lst .no none 6 (evs l))] [] (fun r h' => r = .tup [.agg (vdR (ovC (ctNew code cap fuel) l)), .int .i64 0, .int .i64 0] ∧ h' = []) := by
  have hn := taken_h code cap fuel l hcl hl hg
  have hI := (inv_new hg).ov (l := l)
  have hev := ov_len (l := l) (c := ctNew code cap fuel)
  have h0 : (ctNew code cap fuel).events.length = 0 := rfl
  obtain ⟨g1, g2, g3⟩ := ov_game (l := l) (c := ctNew code cap fuel)
  have g4 : (ovC (ctNew code cap fuel) l).cap = cap := g2
  generalize ovC (ctNew code cap fuel) l = d at hn hI hev g4
  have hs := state_h d
  have hp := pairs_h d (by have := hI.le; have := hI.e0; omega)
  have hh := vhash_h d.st hI.fr.1 hI.fr.2
  have ht := status_h d
  have hr := dresult_h d.st cap fuel .no none code
  refine holds_of_awp Try.func5 rfl (by decide +kernel) mixed Try.ntmps5 Try.results5 ?_
  refine zE ?_
  refine zs ?_;try exact trivial
  refine a_call [] (hn) ok0 ?_ ?_ ?_
  · refine zs ?_;try exact trivial
  · refine zs ?_;try exact trivial
  rintro _ _ ⟨_, h1⟩
  obtain ⟨rfl, rfl⟩ := h1 hE
  refine zc ?_;try exact trivial
  refine a_call [.loc [13, 0, 16, 0, 14]] (hs) (ok1 rfl) ?_ ?_ ?_
  · refine zs ?_;try exact trivial
  · refine zs ?_;try exact trivial
  rintro _ _ ⟨rfl, rfl⟩
  refine zc ?_;try exact trivial
  refine a_drawC (⟨[.undef, V.cell (.lst .no none 6 (evs l)), V.cell (.ptr (.loc [2]) 0), .undef, V.cell (.ptr (.loc [4]) 0), V.int .i64 0, V.int .i64 0, V.cell (.ptr (.loc [13, 0, 16, 0, 14]) 0), V.cell (.ptr (.loc [8]) 0), U, U, U, U, U, U, U, U, U, U, U, U, U, U, U, U, U, U, U, U, U, U, U, U, U, U, U, U, U, U, U, U, U, U, U, U, U, U, U, U, U, U, .undef], [(.loc [13, 0, 16, 0, 14], ctB (.loc [13, 0, 16, 0, 14]) d), (.loc [8], (sd d.st).map D.toC), (.loc [4], vdC false 0 0 (d.pairs.length : Int) (shaH (encS d.st))), (.loc [2], [.lst .no none 2 (ins code), .val (.int .i64 cap), .val (.int .i64 fuel)])]⟩) (.take 0 (.both [(1, .take 2 (.both [(3, .both [(4, .both [(5, .both [(6, .done)])])])])), (3, .both [(1, .take 2 (.both [(4, .both [(5, .both [(6, .done)])])]))])])) (by kernel_rfl) (by kernel_rfl) ?_ ?_
  · refine zc ?_;try exact trivial
    repeat' (with_reducible apply And.intro)
    all_goals (
      refine a_call [.loc [13, 0, 16, 0, 14]] hp (ok1 rfl) ?_ ?_ ?_
      · refine zs ?_;try exact trivial
      · refine zs ?_;try exact trivial
      rintro _ _ ⟨rfl, rfl⟩
      refine zc ?_;try exact trivial
      refine a_call [] hh ok0 ?_ ?_ ?_
      · refine zs ?_;try exact trivial
      · refine zs ?_;try exact trivial
      rintro _ _ ⟨rfl, rfl⟩
      refine zc ?_;try exact trivial
      all_goals trace_state)
  refine zc ?_;try exact trivial
  refine a_call [.loc [13, 0, 16, 0, 14]] (ht) (ok1 rfl) ?_ ?_ ?_
  · refine zs ?_;try exact trivial
  · refine zs ?_;try exact trivial
  rintro _ _ ⟨rfl, rfl⟩
  unfold statC
  refine zc ?_;try exact trivial
  refine c_b (fun o => ?_) (fun o => ?_)
  · refine zc ?_;try exact trivial
    refine a_draw (.take 0 (.take 2 (.take 4 (.both [(1, .both [(3, .both [(5, .take 6 (.both [(7, .take 8 (.both [(9, .done)]))]))]), (5, .take 6 (.both [(3, .both [(7, .take 8 (.both [(9, .done)]))]), (7, .both [(3, .take 8 (.both [(9, .done)]))])]))]), (3, .both [(1, .both [(5, .take 6 (.both [(7, .take 8 (.both [(9, .done)]))]))]), (5, .both [(1, .take 6 (.both [(7, .take 8 (.both [(9, .done)]))]))])]), (5, .both [(1, .take 6 (.both [(3, .both [(7, .take 8 (.both [(9, .done)]))]), (7, .both [(3, .take 8 (.both [(9, .done)]))])])), (3, .both [(1, .take 6 (.both [(7, .take 8 (.both [(9, .done)]))]))])])])))) (by kernel_rfl) (by kernel_rfl) ?_
    refine zc ?_;try exact trivial
    repeat' (with_reducible apply And.intro)
    all_goals (refine zc ?_; try exact trivial)
    have e : vdP d = (d.winner, d.why, true) := by unfold vdP; rw [if_pos o]
    all_goals (show leCs (vdC (vdP d).2.2 (vdP d).1 (vdP d).2.1 (d.pairs.length : Int) (shaH (encS d.st))) _; rw [e]; exact leCs_refl _)
  refine zc ?_;try exact trivial
  refine a_call [] (hr) ok0 ?_ ?_ ?_
  · refine zs ?_;try exact trivial
  · refine zs ?_;try exact trivial
  rintro _ _ ⟨rfl, rfl⟩
  have e : vdP d = resP d.st cap := by unfold vdP; rw [if_neg (by rw [o]; simp), g4]
  refine zc ?_;try exact trivial
  all_goals (show leCs (vdC (vdP d).2.2 (vdP d).1 (vdP d).2.1 (d.pairs.length : Int) (shaH (encS d.st))) _; rw [e]; exact leCs_refl _)
end
end
section
section
variable (code : List (Int × Int)) (cap fuel : Int) (l : List Ev) (hcl : code.length ≤ 9223372036854775807)
include hcl
end
end
section
section
variable (code : List (Int × Int)) (cap fuel : Int) (l : List Ev) (hcl : code.length ≤ 9223372036854775807)
include hcl
end
end
section
section
variable (code : List (Int × Int)) (cap fuel : Int) (l : List Ev) (hcl : code.length ≤ 9223372036854775807)
include hcl
end
end
section
structure Act where
  kind : Int
  seat : Int
  off : Int
  inp : UInt16
  e : Ev
theorem bits_and (a : Int) (k m : Nat) (hm : m = 2 ^ k - 1) (h1 : k ≤ 62) : (BitVec.ofInt IntKind.i64.bits a &&& BitVec.ofInt IntKind.i64.bits (m : Int)).toNat = (a % ((2 ^ k : Nat) : Int)).toNat := by
  show (BitVec.ofInt 64 a &&& BitVec.ofInt 64 (m : Int)).toNat = _
  have hp : 2 ^ k ≤ 2 ^ 62 := Nat.pow_le_pow_right (by omega) h1
  have hq : (2 : Nat) ^ 62 = 4611686018427387904 := rfl
  have h0 : 0 < 2 ^ k := Nat.two_pow_pos k
  rw [BitVec.toNat_and, BitVec.toNat_ofInt, BitVec.toNat_ofInt]
  have e1 : ((m : Int) % ((2 ^ 64 : Nat) : Int)).toNat = 2 ^ k - 1 := by omega
  rw [e1, Nat.and_two_pow_sub_one_eq_mod]
  have hd : ((2 ^ k : Nat) : Int) ∣ ((2 ^ 64 : Nat) : Int) := by
    refine Int.natCast_dvd_natCast.2 (Nat.pow_dvd_pow 2 (by omega))
  have e2 : a % ((2 ^ 64 : Nat) : Int) % ((2 ^ k : Nat) : Int) = a % ((2 ^ k : Nat) : Int) := Int.emod_emod_of_dvd a hd
  have p1 : 0 ≤ a % ((2 ^ 64 : Nat) : Int) := Int.emod_nonneg a (by omega)
  have e3 : (((a % ((2 ^ 64 : Nat) : Int)).toNat % 2 ^ k : Nat) : Int) = a % ((2 ^ k : Nat) : Int) := by
    rw [Int.natCast_emod, Int.toNat_of_nonneg p1]
    exact e2
  omega
@[go_sem ↓ 1200] theorem i64_m1 {a : Int} {V' : V → Prop} : aInt .and .i64 a .i64 1 V' = V' (.int .i64 (a % 2)) := by
  rw [e_and]
  have h := bits_and a 1 1 rfl (by omega)
  have e : ((1 : Nat) : Int) = 1 := rfl
  have e2 : ((2 ^ 1 : Nat) : Int) = 2 := rfl
  rw [e, e2] at h
  rw [h, wrap_i64 (by omega) (by omega), Int.toNat_of_nonneg (by omega)]
end
section

end
section

end
section
def k21 : List Ev := [⟨1, 1, 2, 0, 0, 0⟩, ⟨4, 1, 0, 0, 0, 0⟩]
theorem k21_g : gameP [] 5 5 = 0 := by decide
theorem k21_e : (ovE (ctNew [] 5 5) 0 k21).2 = 0 := by decide
theorem k21_v : vdP (ovC (ctNew [] 5 5) k21) = (1, 3, true) := by decide
theorem k21_p : (ovC (ctNew [] 5 5) k21).pairs.length = 0 := by decide
set_option maxRecDepth 20000 in
set_option maxHeartbeats 4000000 in
theorem known_h21 : Holds Try.prog 4 [] [] (fun r h' => r = V.bool true ∧ h' = []) := by
  have hn := judge_ok [] 5 5 k21 (by simp) (by simp [k21]) k21_g k21_e
  unfold vdR at hn
  rw [k21_v, k21_p] at hn
  generalize encS (ovC (ctNew [] 5 5) k21).st = E at hn
  have ek : evs k21 = [.val (.int .i64 1), .val (.int .i64 1), .val (.int .i64 2), .val (.int .i64 0), .val (.int .u16 0), .val (.int .i64 0), .val (.int .i64 4), .val (.int .i64 1), .val (.int .i64 0), .val (.int .i64 0), .val (.int .u16 0), .val (.int .i64 0)] := rfl
  rw [ek] at hn
  refine holds_of_awp Try.func4 rfl (by decide +kernel) mixed Try.ntmps4 Try.results4 ?_
  refine zE ?_
  refine zc ?_;try exact trivial
  refine a_call [] (hn) ok0 ?_ ?_ ?_
  · refine zs ?_;try exact trivial
  · refine zs ?_;try exact trivial
  rintro _ _ ⟨rfl, rfl⟩
  refine zc ?_;try exact trivial
section
variable (code : List (Int × Int)) (cap fuel : Int) (l : List Act) (hcl : code.length ≤ 9223372036854775807)
include hcl
end
end
section
@[go_sem] theorem ins_fd : ins fdL = [.val (.int .i64 2), .val (.int .i64 0), .val (.int .i64 16), .val (.int .i64 0), .val (.int .i64 4), .val (.int .i64 0), .val (.int .i64 3), .val (.int .i64 0), .val (.int .i64 2), .val (.int .i64 1), .val (.int .i64 16), .val (.int .i64 1), .val (.int .i64 4), .val (.int .i64 0), .val (.int .i64 3), .val (.int .i64 1)] := nr rfl
def tgF : Nat → Tag
  | 0 => .made [51]
  | _ + 1 => .slot [77]
@[go_sem ↓ 1250] theorem e_IAp0 {V' : V → Prop} {x y : Value} {o : Own} {nl : Option Bool} {t : TypeId} : aIA (some (none, t, 1)) (.cell (.lst o nl 1 [.val x, .val y])) 0 V' = V' (.cell (.mem [.val x, .val y])) := by simp [aIA]
@[go_sem ↓ 1250] theorem e_IAp1 {V' : V → Prop} {x y : Value} {o : Own} {nl : Option Bool} {t : TypeId} : aIA (some (none, t, 1)) (.cell (.lst o nl 1 [.val x, .val y])) 1 V' = V' (.cell (.mem [.val y])) := by simp [aIA]
set_option maxRecDepth 20000 in
set_option maxHeartbeats 16000000 in
theorem judgeFold_h (a b : List UInt16) (limit quits : Int) (hal : a.length ≤ 9223372036854775807) (hbl : b.length ≤ 9223372036854775807) :
    Holds Try.prog 3 [.c (.lst .no none 1 (ls fU a)), .c (.lst .no none 1 (ls fU b)), .int .i64 limit, .int .i64 quits] [] (fun r h' => r = V.bool true ∧ h' = []) := by
  refine holds_of_awp Try.func3 rfl (by decide +kernel) mixed Try.ntmps3 Try.results3 ?_
  refine zE ?_
  cases d1 : decide ((a.length : Int) = (b.length : Int))
  · simp (maxSteps:=2000000) (disch:=omega) only [go_sem,Nat.reduceAdd,Nat.reduceSub,Nat.reduceMul,Nat.reduceBEq,Nat.reduceEqDiff,Nat.reduceLT,Nat.reduceLeDiff,Nat.reduceDiv,reduceIte,reduceCtorEq, d1, decide_not, Bool.not_false]
    refine a_call [] (known_h21) ok0 ?_ ?_ ?_
    · refine zs ?_;try exact trivial
    · refine zs ?_;try exact trivial
    rintro _ _ ⟨rfl, rfl⟩
    refine zc ?_;try exact trivial
  cases d2 : decide (60 < (a.length : Int))
  · cases d3 : decide (limit < 1)
    · cases d4 : decide (60 < limit)
      · have hab : a.length = b.length := by have := of_decide_eq_true d1; omega
        have ha60 : a.length ≤ 60 := by have := of_decide_eq_false d2; omega
        have hl1 := of_decide_eq_false d3
        have hl2 := of_decide_eq_false d4
        simp (maxSteps:=2000000) (disch:=omega) only [go_sem,Nat.reduceAdd,Nat.reduceSub,Nat.reduceMul,Nat.reduceBEq,Nat.reduceEqDiff,Nat.reduceLT,Nat.reduceLeDiff,Nat.reduceDiv,reduceIte,reduceCtorEq, d1, d2, d3, d4, decide_not, Bool.not_true]
        -- LOOP
        refine a_loopk (fun i : Nat => ⟨[V.cell (.lst .no none 1 (ls fU a)), V.cell (.lst .no none 1 (ls fU b)), V.int .i64 limit, V.int .i64 quits, U, U, U, U, V.bool false, V.cell (.ptr (.loc [9]) 0), V.cell (.lst (.tag (tgF i)) none 6 (evs (fdV a b i))), V.int .i64 (sx a i), V.int .i64 (sx b i), V.int .i64 ((i : Int)), V.int .i64 ((i : Int)), U, U, U, U, U, U, U, U, U, U, U, U, U, U, U, U, U, U, U, U, U, U, U, U, U, U, U, U, U, U, U, U, U, U, U, U, U, U, U, U, U, U, U, U, U, U, U, U, U, U, U, U, U, U, U, U, U, U, U, U, U, U, U, U, U, U, U, U, U, U, U, U, U, U, U, U, U, U, U, U, U, U, U, U, U, U, U, U, U, U, U, U, U, U, U, U, U, U, U, U, U, U, U, U, U, U, U, U, U, U, U, U, U, U, U, U, U, U, U, U, U, U, U, U, U, U, U, U, U, U, U, U, U, U, U, U, U, U, U, U, U, U, U, U, U, U, U, U, U, U, U, U, U, U, U, U, U, U, U, U, U, U, U, U, U, U, U, U, U, U, U, U, U, .undef], [(.loc [9], [.lst .no none 2 (ins fdL), .val (.int .i64 limit), .val (.int .i64 20)])]⟩) (fun i => i ≤ a.length ∧ (i : Int) ≤ limit) (fun i => a.length - i) 0 ⟨by omega, by omega⟩ ?_ ?_
        · rw [show tgF 0 = .made [51] from rfl, show evs (fdV a b 0) = [.val (.int .i64 1), .val (.int .i64 4), .val (.int .i64 6), .val (.int .i64 0), .val (.int .u16 0), .val (.int .i64 1)] from rfl, show sx a 0 = 0 from rfl, show sx b 0 = 0 from rfl]
          try (refine zc ?_; try exact trivial)
        · rintro i ⟨hi, hil⟩
          have hsa := sx_b a i
          have hsb := sx_b b i
          have hfl := fdV_len a b i
          have hrow : evs (fdV a b (i + 1)) = evs (fdV a b i) ++ [.val (.int .i64 3), .val (.int .i64 4), .val (.int .i64 0), .val (.int .i64 (i : Int)), .val (.int .u16 (U16 (a.getD i 0))), .val (.int .i64 0), .val (.int .i64 3), .val (.int .i64 6), .val (.int .i64 0), .val (.int .i64 (i : Int)), .val (.int .u16 (U16 (b.getD i 0))), .val (.int .i64 0)] := by
            show evs (fdV a b i ++ [_, _]) = _
            simp [evs, evD]
          by_cases hgo : i < a.length ∧ (i : Int) < limit
          · obtain ⟨g1, g2⟩ := hgo
            have d5 : decide ((i : Int) < (a.length : Int)) = true := decide_eq_true (by omega)
            have d6 : decide ((i : Int) < limit) = true := decide_eq_true g2
            have hib : i < b.length := by omega
            have hlo := U16_lo (a.getD i 0)
            have hhi := U16_hi (a.getD i 0)
            have hlob := U16_lo (b.getD i 0)
            have hhib := U16_hi (b.getD i 0)
            have htg : tgF i = .made [51] ∨ tgF i = .slot [77] := by cases i; exact .inl rfl; exact .inr rfl
            generalize tgF i = τ at htg
            rcases htg with rfl | rfl
            · simp (maxSteps:=2000000) (disch:=omega) only [go_sem,Nat.reduceAdd,Nat.reduceSub,Nat.reduceMul,Nat.reduceBEq,Nat.reduceEqDiff,Nat.reduceLT,Nat.reduceLeDiff,Nat.reduceDiv,reduceIte,reduceCtorEq, d5, d6]
              refine a_drawC (⟨[V.cell (.lst .no none 1 (ls fU a)), V.cell (.lst .no none 1 (ls fU b)), V.int .i64 limit, V.int .i64 quits, U, U, U, U, V.bool false, V.cell (.ptr (.loc [9]) 0), V.cell (.lst (.tag (.slot [77])) none 6 (evs (fdV a b i) ++ [.val (.int .i64 3), .val (.int .i64 4), .val (.int .i64 0), .val (.int .i64 (i : Int)), .val (.int .u16 (U16 (a.getD i 0))), .val (.int .i64 0), .val (.int .i64 3), .val (.int .i64 6), .val (.int .i64 0), .val (.int .i64 (i : Int)), .val (.int .u16 (U16 (b.getD i 0))), .val (.int .i64 0)])), V.int .i64 (sx a i), V.int .i64 (sx b i), V.int .i64 ((i : Int)), V.int .i64 ((i : Int)), U, U, U, U, U, U, U, U, U, U, U, U, U, U, U, U, U, U, U, U, U, U, U, U, U, U, U, U, U, U, U, U, U, U, U, U, U, U, U, U, U, U, U, U, U, U, U, U, U, U, U, U, U, U, U, U, U, U, U, U, U, U, U, U, U, U, U, U, U, U, U, U, U, U, U, U, U, U, U, U, U, U, U, U, U, U, U, U, U, U, U, U, U, U, U, U, U, U, U, U, U, U, U, U, U, U, U, U, U, U, U, U, U, U, U, U, U, U, U, U, U, U, U, U, U, U, U, U, U, U, U, U, U, U, U, U, U, U, U, U, U, U, U, U, U, U, U, U, U, U, U, U, U, U, U, U, U, U, U, U, U, U, U, U, U, U, U, U, U, U, U, U, U, .undef], [(.loc [9], [.lst .no none 2 (ins fdL), .val (.int .i64 limit), .val (.int .i64 20)])]⟩) (.take 0 (.take 1 (.take 2 (.take 3 (.take 4 (.take 7 (.take 8 (.take 9 (.take 10 (.both [(5, .both [(6, .both [(11, .both [(12, .both [(13, .both [(14, .take 15 (.done))])])])]), (11, .both [(6, .both [(12, .both [(13, .both [(14, .take 15 (.done))])])]), (12, .both [(6, .both [(13, .both [(14, .take 15 (.done))])])])])]), (11, .both [(5, .both [(6, .both [(12, .both [(13, .both [(14, .take 15 (.done))])])]), (12, .both [(6, .both [(13, .both [(14, .take 15 (.done))])])])]), (12, .both [(5, .both [(6, .both [(13, .both [(14, .take 15 (.done))])])])])])])))))))))) (by kernel_rfl) (by kernel_rfl) ?_ ?_
              · refine zc ?_;try exact trivial
                repeat' (with_reducible apply And.intro)
                all_goals first | omega | exact leCs_refl _ | trace_state
              rw [← hrow]
              refine zc ?_;try exact trivial
              refine a_quiet (by kernel_rfl) (by kernel_rfl) (by kernel_rfl) ?_
              refine zc ?_;try exact trivial
              refine ⟨i + 1, by omega, ⟨by omega, by omega⟩, ?_⟩
              rw [show tgF (i + 1) = .slot [77] from rfl, show sx a (i + 1) = sx a i + U16 (a.getD i 0) from rfl, show sx b (i + 1) = sx b i + U16 (b.getD i 0) from rfl]
              try (refine zc ?_; try exact trivial)
            simp (maxSteps:=2000000) (disch:=omega) only [go_sem,Nat.reduceAdd,Nat.reduceSub,Nat.reduceMul,Nat.reduceBEq,Nat.reduceEqDiff,Nat.reduceLT,Nat.reduceLeDiff,Nat.reduceDiv,reduceIte,reduceCtorEq, d5, d6]
            refine a_drawC (⟨[V.cell (.lst .no none 1 (ls fU a)), V.cell (.lst .no none 1 (ls fU b)), V.int .i64 limit, V.int .i64 quits, U, U, U, U, V.bool false, V.cell (.ptr (.loc [9]) 0), V.cell (.lst (.tag (.slot [77])) none 6 (evs (fdV a b i) ++ [.val (.int .i64 3), .val (.int .i64 4), .val (.int .i64 0), .val (.int .i64 (i : Int)), .val (.int .u16 (U16 (a.getD i 0))), .val (.int .i64 0), .val (.int .i64 3), .val (.int .i64 6), .val (.int .i64 0), .val (.int .i64 (i : Int)), .val (.int .u16 (U16 (b.getD i 0))), .val (.int .i64 0)])), V.int .i64 (sx a i), V.int .i64 (sx b i), V.int .i64 ((i : Int)), V.int .i64 ((i : Int)), U, U, U, U, U, U, U, U, U, U, U, U, U, U, U, U, U, U, U, U, U, U, U, U, U, U, U, U, U, U, U, U, U, U, U, U, U, U, U, U, U, U, U, U, U, U, U, U, U, U, U, U, U, U, U, U, U, U, U, U, U, U, U, U, U, U, U, U, U, U, U, U, U, U, U, U, U, U, U, U, U, U, U, U, U, U, U, U, U, U, U, U, U, U, U, U, U, U, U, U, U, U, U, U, U, U, U, U, U, U, U, U, U, U, U, U, U, U, U, U, U, U, U, U, U, U, U, U, U, U, U, U, U, U, U, U, U, U, U, U, U, U, U, U, U, U, U, U, U, U, U, U, U, U, U, U, U, U, U, U, U, U, U, U, U, U, U, U, U, U, U, U, U, .undef], [(.loc [9], [.lst .no none 2 (ins fdL), .val (.int .i64 limit), .val (.int .i64 20)])]⟩) (.take 0 (.take 1 (.take 2 (.take 3 (.take 4 (.take 7 (.take 8 (.take 9 (.take 10 (.both [(5, .both [(6, .both [(11, .both [(12, .both [(13, .both [(14, .take 15 (.done))])])])]), (11, .both [(6, .both [(12, .both [(13, .both [(14, .take 15 (.done))])])]), (12, .both [(6, .both [(13, .both [(14, .take 15 (.done))])])])])]), (11, .both [(5, .both [(6, .both [(12, .both [(13, .both [(14, .take 15 (.done))])])]), (12, .both [(6, .both [(13, .both [(14, .take 15 (.done))])])])]), (12, .both [(5, .both [(6, .both [(13, .both [(14, .take 15 (.done))])])])])])])))))))))) (by kernel_rfl) (by kernel_rfl) ?_ ?_
            · refine zc ?_;try exact trivial
              repeat' (with_reducible apply And.intro)
              all_goals first | omega | exact leCs_refl _ | trace_state
            rw [← hrow]
            refine zc ?_;try exact trivial
            refine a_quiet (by kernel_rfl) (by kernel_rfl) (by kernel_rfl) ?_
            refine zc ?_;try exact trivial
            refine ⟨i + 1, by omega, ⟨by omega, by omega⟩, ?_⟩
            rw [show tgF (i + 1) = .slot [77] from rfl, show sx a (i + 1) = sx a i + U16 (a.getD i 0) from rfl, show sx b (i + 1) = sx b i + U16 (b.getD i 0) from rfl]
            try (refine zc ?_; try exact trivial)
          clear hrow
          have hcl : fdL.length ≤ 9223372036854775807 := by decide
          have hg := fd_g (lim := limit) (by omega) (by omega)
          obtain ⟨e1, e2⟩ := fd_ov a b (lim := limit) (by omega) (by omega) i hil
          by_cases hov : (i : Int) = limit
          · have d7 : decide ((i : Int) = limit) = true := decide_eq_true hov
            obtain ⟨f1, f2⟩ := fd_end a b (lim := limit) (by omega) (by omega) i hov
            have hj := judge_ok fdL limit 20 (fdV a b i) hcl (by rw [hfl]; omega) hg e1
            rw [e2] at hj
            unfold vdR at hj
            rw [f1, f2] at hj
            generalize shaH (encS (fdC a b limit i).st) = H at hj
            generalize evs (fdV a b i) = E at hj
            simp only at hj
            have hsw : (sx a i < sx b i ∧ (if sx a i < sx b i then (1 : Int) else 0) = 1) ∨ (¬ sx a i < sx b i ∧ (if sx a i < sx b i then (1 : Int) else 0) = 0) := by by_cases q : sx a i < sx b i; exact .inl ⟨q, if_pos q⟩; exact .inr ⟨q, if_neg q⟩
            generalize (if sx a i < sx b i then (1 : Int) else 0) = w at hj hsw
            generalize tgF i = τ
            cases d5 : decide ((i : Int) < (a.length : Int))
            · have d6 : True := trivial
              cases d8 : decide (quits % 2 = 1)
              · simp (maxSteps:=2000000) (disch:=omega) only [go_sem,Nat.reduceAdd,Nat.reduceSub,Nat.reduceMul,Nat.reduceBEq,Nat.reduceEqDiff,Nat.reduceLT,Nat.reduceLeDiff,Nat.reduceDiv,reduceIte,reduceCtorEq, d5, d7, d8, decide_true, decide_false, decide_not, Bool.not_true, Bool.not_false, Int.reduceLT, Int.reduceLE, Int.reduceToNat, Int.reduceEq, Int.reduceSub]
                refine a_call [] (hj) ok0 ?_ ?_ ?_
                · refine zs ?_;try exact trivial
                · refine zs ?_;try exact trivial
                rintro _ _ ⟨rfl, rfl⟩
                simp (maxSteps:=2000000) (disch:=omega) only [go_sem,Nat.reduceAdd,Nat.reduceSub,Nat.reduceMul,Nat.reduceBEq,Nat.reduceEqDiff,Nat.reduceLT,Nat.reduceLeDiff,Nat.reduceDiv,reduceIte,reduceCtorEq, d7, decide_true, decide_false, decide_not, Bool.not_true, Bool.not_false, Int.reduceLT, Int.reduceLE, Int.reduceToNat, Int.reduceEq, Int.reduceSub]
                rcases hsw with ⟨q, rfl⟩ | ⟨q, rfl⟩
                · have d9 : decide (sx a i < sx b i) = true := decide_eq_true q
                  simp (maxSteps:=2000000) (disch:=omega) only [go_sem,Nat.reduceAdd,Nat.reduceSub,Nat.reduceMul,Nat.reduceBEq,Nat.reduceEqDiff,Nat.reduceLT,Nat.reduceLeDiff,Nat.reduceDiv,reduceIte,reduceCtorEq, d9, decide_true, decide_false, decide_not, Bool.not_true, Bool.not_false, Int.reduceLT, Int.reduceLE, Int.reduceToNat, Int.reduceEq, Int.reduceSub]
                  refine a_call [] (known_h21) ok0 ?_ ?_ ?_
                  · refine zs ?_;try exact trivial
                  · refine zs ?_;try exact trivial
                  rintro _ _ ⟨rfl, rfl⟩
                  refine zc ?_;try exact trivial
                have d9 : decide (sx a i < sx b i) = false := decide_eq_false q
                simp (maxSteps:=2000000) (disch:=omega) only [go_sem,Nat.reduceAdd,Nat.reduceSub,Nat.reduceMul,Nat.reduceBEq,Nat.reduceEqDiff,Nat.reduceLT,Nat.reduceLeDiff,Nat.reduceDiv,reduceIte,reduceCtorEq, d9, decide_true, decide_false, decide_not, Bool.not_true, Bool.not_false, Int.reduceLT, Int.reduceLE, Int.reduceToNat, Int.reduceEq, Int.reduceSub]
                refine a_call [] (known_h21) ok0 ?_ ?_ ?_
                · refine zs ?_;try exact trivial
                · refine zs ?_;try exact trivial
                rintro _ _ ⟨rfl, rfl⟩
                refine zc ?_;try exact trivial
              simp (maxSteps:=2000000) (disch:=omega) only [go_sem,Nat.reduceAdd,Nat.reduceSub,Nat.reduceMul,Nat.reduceBEq,Nat.reduceEqDiff,Nat.reduceLT,Nat.reduceLeDiff,Nat.reduceDiv,reduceIte,reduceCtorEq, d5, d7, d8, decide_true, decide_false, decide_not, Bool.not_true, Bool.not_false, Int.reduceLT, Int.reduceLE, Int.reduceToNat, Int.reduceEq, Int.reduceSub]
              refine a_call [] (hj) ok0 ?_ ?_ ?_
              · refine zs ?_;try exact trivial
              · refine zs ?_;try exact trivial
              rintro _ _ ⟨rfl, rfl⟩
              simp (maxSteps:=2000000) (disch:=omega) only [go_sem,Nat.reduceAdd,Nat.reduceSub,Nat.reduceMul,Nat.reduceBEq,Nat.reduceEqDiff,Nat.reduceLT,Nat.reduceLeDiff,Nat.reduceDiv,reduceIte,reduceCtorEq, d7, decide_true, decide_false, decide_not, Bool.not_true, Bool.not_false, Int.reduceLT, Int.reduceLE, Int.reduceToNat, Int.reduceEq, Int.reduceSub]
              rcases hsw with ⟨q, rfl⟩ | ⟨q, rfl⟩
              · have d9 : decide (sx a i < sx b i) = true := decide_eq_true q
                simp (maxSteps:=2000000) (disch:=omega) only [go_sem,Nat.reduceAdd,Nat.reduceSub,Nat.reduceMul,Nat.reduceBEq,Nat.reduceEqDiff,Nat.reduceLT,Nat.reduceLeDiff,Nat.reduceDiv,reduceIte,reduceCtorEq, d9, decide_true, decide_false, decide_not, Bool.not_true, Bool.not_false, Int.reduceLT, Int.reduceLE, Int.reduceToNat, Int.reduceEq, Int.reduceSub]
                refine a_call [] (known_h21) ok0 ?_ ?_ ?_
                · refine zs ?_;try exact trivial
                · refine zs ?_;try exact trivial
                rintro _ _ ⟨rfl, rfl⟩
                refine zc ?_;try exact trivial
              have d9 : decide (sx a i < sx b i) = false := decide_eq_false q
              simp (maxSteps:=2000000) (disch:=omega) only [go_sem,Nat.reduceAdd,Nat.reduceSub,Nat.reduceMul,Nat.reduceBEq,Nat.reduceEqDiff,Nat.reduceLT,Nat.reduceLeDiff,Nat.reduceDiv,reduceIte,reduceCtorEq, d9, decide_true, decide_false, decide_not, Bool.not_true, Bool.not_false, Int.reduceLT, Int.reduceLE, Int.reduceToNat, Int.reduceEq, Int.reduceSub]
              refine a_call [] (known_h21) ok0 ?_ ?_ ?_
              · refine zs ?_;try exact trivial
              · refine zs ?_;try exact trivial
              rintro _ _ ⟨rfl, rfl⟩
              refine zc ?_;try exact trivial
            have d6 : decide ((i : Int) < limit) = false := decide_eq_false (by have := of_decide_eq_true d5; omega)
            cases d8 : decide (quits % 2 = 1)
            · simp (maxSteps:=2000000) (disch:=omega) only [go_sem,Nat.reduceAdd,Nat.reduceSub,Nat.reduceMul,Nat.reduceBEq,Nat.reduceEqDiff,Nat.reduceLT,Nat.reduceLeDiff,Nat.reduceDiv,reduceIte,reduceCtorEq, d5, d6, d7, d8, decide_true, decide_false, decide_not, Bool.not_true, Bool.not_false, Int.reduceLT, Int.reduceLE, Int.reduceToNat, Int.reduceEq, Int.reduceSub]
              refine a_call [] (hj) ok0 ?_ ?_ ?_
              · refine zs ?_;try exact trivial
              · refine zs ?_;try exact trivial
              rintro _ _ ⟨rfl, rfl⟩
              simp (maxSteps:=2000000) (disch:=omega) only [go_sem,Nat.reduceAdd,Nat.reduceSub,Nat.reduceMul,Nat.reduceBEq,Nat.reduceEqDiff,Nat.reduceLT,Nat.reduceLeDiff,Nat.reduceDiv,reduceIte,reduceCtorEq, d7, decide_true, decide_false, decide_not, Bool.not_true, Bool.not_false, Int.reduceLT, Int.reduceLE, Int.reduceToNat, Int.reduceEq, Int.reduceSub]
              rcases hsw with ⟨q, rfl⟩ | ⟨q, rfl⟩
              · have d9 : decide (sx a i < sx b i) = true := decide_eq_true q
                simp (maxSteps:=2000000) (disch:=omega) only [go_sem,Nat.reduceAdd,Nat.reduceSub,Nat.reduceMul,Nat.reduceBEq,Nat.reduceEqDiff,Nat.reduceLT,Nat.reduceLeDiff,Nat.reduceDiv,reduceIte,reduceCtorEq, d9, decide_true, decide_false, decide_not, Bool.not_true, Bool.not_false, Int.reduceLT, Int.reduceLE, Int.reduceToNat, Int.reduceEq, Int.reduceSub]
                refine a_call [] (known_h21) ok0 ?_ ?_ ?_
                · refine zs ?_;try exact trivial
                · refine zs ?_;try exact trivial
                rintro _ _ ⟨rfl, rfl⟩
                refine zc ?_;try exact trivial
              have d9 : decide (sx a i < sx b i) = false := decide_eq_false q
              simp (maxSteps:=2000000) (disch:=omega) only [go_sem,Nat.reduceAdd,Nat.reduceSub,Nat.reduceMul,Nat.reduceBEq,Nat.reduceEqDiff,Nat.reduceLT,Nat.reduceLeDiff,Nat.reduceDiv,reduceIte,reduceCtorEq, d9, decide_true, decide_false, decide_not, Bool.not_true, Bool.not_false, Int.reduceLT, Int.reduceLE, Int.reduceToNat, Int.reduceEq, Int.reduceSub]
              refine a_call [] (known_h21) ok0 ?_ ?_ ?_
              · refine zs ?_;try exact trivial
              · refine zs ?_;try exact trivial
              rintro _ _ ⟨rfl, rfl⟩
              refine zc ?_;try exact trivial
            simp (maxSteps:=2000000) (disch:=omega) only [go_sem,Nat.reduceAdd,Nat.reduceSub,Nat.reduceMul,Nat.reduceBEq,Nat.reduceEqDiff,Nat.reduceLT,Nat.reduceLeDiff,Nat.reduceDiv,reduceIte,reduceCtorEq, d5, d6, d7, d8, decide_true, decide_false, decide_not, Bool.not_true, Bool.not_false, Int.reduceLT, Int.reduceLE, Int.reduceToNat, Int.reduceEq, Int.reduceSub]
            refine a_call [] (hj) ok0 ?_ ?_ ?_
            · refine zs ?_;try exact trivial
            · refine zs ?_;try exact trivial
            rintro _ _ ⟨rfl, rfl⟩
            simp (maxSteps:=2000000) (disch:=omega) only [go_sem,Nat.reduceAdd,Nat.reduceSub,Nat.reduceMul,Nat.reduceBEq,Nat.reduceEqDiff,Nat.reduceLT,Nat.reduceLeDiff,Nat.reduceDiv,reduceIte,reduceCtorEq, d7, decide_true, decide_false, decide_not, Bool.not_true, Bool.not_false, Int.reduceLT, Int.reduceLE, Int.reduceToNat, Int.reduceEq, Int.reduceSub]
            rcases hsw with ⟨q, rfl⟩ | ⟨q, rfl⟩
            · have d9 : decide (sx a i < sx b i) = true := decide_eq_true q
              simp (maxSteps:=2000000) (disch:=omega) only [go_sem,Nat.reduceAdd,Nat.reduceSub,Nat.reduceMul,Nat.reduceBEq,Nat.reduceEqDiff,Nat.reduceLT,Nat.reduceLeDiff,Nat.reduceDiv,reduceIte,reduceCtorEq, d9, decide_true, decide_false, decide_not, Bool.not_true, Bool.not_false, Int.reduceLT, Int.reduceLE, Int.reduceToNat, Int.reduceEq, Int.reduceSub]
              refine a_call [] (known_h21) ok0 ?_ ?_ ?_
              · refine zs ?_;try exact trivial
              · refine zs ?_;try exact trivial
              rintro _ _ ⟨rfl, rfl⟩
              refine zc ?_;try exact trivial
            have d9 : decide (sx a i < sx b i) = false := decide_eq_false q
            simp (maxSteps:=2000000) (disch:=omega) only [go_sem,Nat.reduceAdd,Nat.reduceSub,Nat.reduceMul,Nat.reduceBEq,Nat.reduceEqDiff,Nat.reduceLT,Nat.reduceLeDiff,Nat.reduceDiv,reduceIte,reduceCtorEq, d9, decide_true, decide_false, decide_not, Bool.not_true, Bool.not_false, Int.reduceLT, Int.reduceLE, Int.reduceToNat, Int.reduceEq, Int.reduceSub]
            refine a_call [] (known_h21) ok0 ?_ ?_ ?_
            · refine zs ?_;try exact trivial
            · refine zs ?_;try exact trivial
            rintro _ _ ⟨rfl, rfl⟩
            refine zc ?_;try exact trivial
          have d7 : decide ((i : Int) = limit) = false := decide_eq_false hov
          cases d8 : decide (quits % 2 = 1)
          · obtain ⟨f1, f2⟩ := fd_mid a b (lim := limit) (by omega) (by omega) i (by omega)
            have hj := judge_ok fdL limit 20 (fdV a b i) hcl (by rw [hfl]; omega) hg e1
            rw [e2] at hj
            unfold vdR at hj
            rw [f1, f2] at hj
            generalize shaH (encS (fdC a b limit i).st) = H at hj
            generalize evs (fdV a b i) = E at hj
            simp only at hj
            generalize tgF i = τ
            cases d5 : decide ((i : Int) < (a.length : Int))
            · have d6 : True := trivial
              simp (maxSteps:=2000000) (disch:=omega) only [go_sem,Nat.reduceAdd,Nat.reduceSub,Nat.reduceMul,Nat.reduceBEq,Nat.reduceEqDiff,Nat.reduceLT,Nat.reduceLeDiff,Nat.reduceDiv,reduceIte,reduceCtorEq, d5, d7, d8, decide_true, decide_false, decide_not, Bool.not_true, Bool.not_false, Int.reduceLT, Int.reduceLE, Int.reduceToNat, Int.reduceEq, Int.reduceSub]
              refine a_call [] (hj) ok0 ?_ ?_ ?_
              · refine zs ?_;try exact trivial
              · refine zs ?_;try exact trivial
              rintro _ _ ⟨rfl, rfl⟩
              simp (maxSteps:=2000000) (disch:=omega) only [go_sem,Nat.reduceAdd,Nat.reduceSub,Nat.reduceMul,Nat.reduceBEq,Nat.reduceEqDiff,Nat.reduceLT,Nat.reduceLeDiff,Nat.reduceDiv,reduceIte,reduceCtorEq, d7, d8, decide_true, decide_false, decide_not, Bool.not_true, Bool.not_false, Int.reduceLT, Int.reduceLE, Int.reduceToNat, Int.reduceEq, Int.reduceSub]
              refine a_call [] (known_h21) ok0 ?_ ?_ ?_
              · refine zs ?_;try exact trivial
              · refine zs ?_;try exact trivial
              rintro _ _ ⟨rfl, rfl⟩
              refine zc ?_;try exact trivial
            have d6 : decide ((i : Int) < limit) = false := decide_eq_false (by have := of_decide_eq_true d5; omega)
            simp (maxSteps:=2000000) (disch:=omega) only [go_sem,Nat.reduceAdd,Nat.reduceSub,Nat.reduceMul,Nat.reduceBEq,Nat.reduceEqDiff,Nat.reduceLT,Nat.reduceLeDiff,Nat.reduceDiv,reduceIte,reduceCtorEq, d5, d6, d7, d8, decide_true, decide_false, decide_not, Bool.not_true, Bool.not_false, Int.reduceLT, Int.reduceLE, Int.reduceToNat, Int.reduceEq, Int.reduceSub]
            refine a_call [] (hj) ok0 ?_ ?_ ?_
            · refine zs ?_;try exact trivial
            · refine zs ?_;try exact trivial
            rintro _ _ ⟨rfl, rfl⟩
            simp (maxSteps:=2000000) (disch:=omega) only [go_sem,Nat.reduceAdd,Nat.reduceSub,Nat.reduceMul,Nat.reduceBEq,Nat.reduceEqDiff,Nat.reduceLT,Nat.reduceLeDiff,Nat.reduceDiv,reduceIte,reduceCtorEq, d7, d8, decide_true, decide_false, decide_not, Bool.not_true, Bool.not_false, Int.reduceLT, Int.reduceLE, Int.reduceToNat, Int.reduceEq, Int.reduceSub]
            refine a_call [] (known_h21) ok0 ?_ ?_ ?_
            · refine zs ?_;try exact trivial
            · refine zs ?_;try exact trivial
            rintro _ _ ⟨rfl, rfl⟩
            refine zc ?_;try exact trivial
          have hq : quits / 2 % 2 = 0 ∨ quits / 2 % 2 = 1 := by omega
          have htg : tgF i = .made [51] ∨ tgF i = .slot [77] := by cases i; exact .inl rfl; exact .inr rfl
          generalize tgF i = τ at htg
          rcases hq with hq | hq
          · have hqn : (quits / 2 % 2).toNat = 0 := by omega
            obtain ⟨f0, f1, f2⟩ := fd_quit a b (lim := limit) (by omega) (by omega) i (by omega) 4 (by omega)
            have hj := judge_ok fdL limit 20 (fdV a b i ++ [⟨4, 4, 0, 0, 0, 0⟩]) hcl (by simp [hfl]; omega) hg f0
            unfold vdR at hj
            rw [f1, f2] at hj
            generalize shaH (encS (ovC (ctNew fdL limit 20) (fdV a b i ++ [⟨4, 4, 0, 0, 0, 0⟩])).st) = H at hj
            have eX : evs (fdV a b i ++ [⟨4, 4, 0, 0, 0, 0⟩]) = evs (fdV a b i) ++ [.val (.int .i64 4), .val (.int .i64 4), .val (.int .i64 0), .val (.int .i64 0), .val (.int .u16 0), .val (.int .i64 0)] := by simp [evs, evD, U16]
            rw [eX] at hj
            simp only [if_true, Int.reduceEq, if_false] at hj
            rcases htg with rfl | rfl
            · skip
              cases d5 : decide ((i : Int) < (a.length : Int))
              · have d6 : True := trivial
                simp (maxSteps:=2000000) (disch:=omega) only [go_sem,Nat.reduceAdd,Nat.reduceSub,Nat.reduceMul,Nat.reduceBEq,Nat.reduceEqDiff,Nat.reduceLT,Nat.reduceLeDiff,Nat.reduceDiv,reduceIte,reduceCtorEq, d5, d7, d8, hq, decide_true, decide_false, decide_not, Bool.not_true, Bool.not_false, Int.reduceLT, Int.reduceLE, Int.reduceToNat, Int.reduceEq, Int.reduceSub]
                refine ⟨by omega, ?_⟩
                refine a_call [] (hj) ok0 ?_ ?_ ?_
                · refine zs ?_;try exact trivial
                · refine zs ?_;try exact trivial
                rintro _ _ ⟨rfl, rfl⟩
                simp (maxSteps:=2000000) (disch:=omega) only [go_sem,Nat.reduceAdd,Nat.reduceSub,Nat.reduceMul,Nat.reduceBEq,Nat.reduceEqDiff,Nat.reduceLT,Nat.reduceLeDiff,Nat.reduceDiv,reduceIte,reduceCtorEq, d7, d8, hq, decide_true, decide_false, decide_not, Bool.not_true, Bool.not_false, Int.reduceLT, Int.reduceLE, Int.reduceToNat, Int.reduceEq, Int.reduceSub]
                refine a_call [] (known_h21) ok0 ?_ ?_ ?_
                · refine zs ?_;try exact trivial
                · refine zs ?_;try exact trivial
                rintro _ _ ⟨rfl, rfl⟩
                refine zc ?_;try exact trivial
              have d6 : decide ((i : Int) < limit) = false := decide_eq_false (by have := of_decide_eq_true d5; omega)
              simp (maxSteps:=2000000) (disch:=omega) only [go_sem,Nat.reduceAdd,Nat.reduceSub,Nat.reduceMul,Nat.reduceBEq,Nat.reduceEqDiff,Nat.reduceLT,Nat.reduceLeDiff,Nat.reduceDiv,reduceIte,reduceCtorEq, d5, d6, d7, d8, hq, decide_true, decide_false, decide_not, Bool.not_true, Bool.not_false, Int.reduceLT, Int.reduceLE, Int.reduceToNat, Int.reduceEq, Int.reduceSub]
              refine ⟨by omega, ?_⟩
              refine a_call [] (hj) ok0 ?_ ?_ ?_
              · refine zs ?_;try exact trivial
              · refine zs ?_;try exact trivial
              rintro _ _ ⟨rfl, rfl⟩
              simp (maxSteps:=2000000) (disch:=omega) only [go_sem,Nat.reduceAdd,Nat.reduceSub,Nat.reduceMul,Nat.reduceBEq,Nat.reduceEqDiff,Nat.reduceLT,Nat.reduceLeDiff,Nat.reduceDiv,reduceIte,reduceCtorEq, d7, d8, hq, decide_true, decide_false, decide_not, Bool.not_true, Bool.not_false, Int.reduceLT, Int.reduceLE, Int.reduceToNat, Int.reduceEq, Int.reduceSub]
              refine a_call [] (known_h21) ok0 ?_ ?_ ?_
              · refine zs ?_;try exact trivial
              · refine zs ?_;try exact trivial
              rintro _ _ ⟨rfl, rfl⟩
              refine zc ?_;try exact trivial
            skip
            cases d5 : decide ((i : Int) < (a.length : Int))
            · have d6 : True := trivial
              simp (maxSteps:=2000000) (disch:=omega) only [go_sem,Nat.reduceAdd,Nat.reduceSub,Nat.reduceMul,Nat.reduceBEq,Nat.reduceEqDiff,Nat.reduceLT,Nat.reduceLeDiff,Nat.reduceDiv,reduceIte,reduceCtorEq, d5, d7, d8, hq, decide_true, decide_false, decide_not, Bool.not_true, Bool.not_false, Int.reduceLT, Int.reduceLE, Int.reduceToNat, Int.reduceEq, Int.reduceSub]
              refine ⟨by omega, ?_⟩
              refine a_call [] (hj) ok0 ?_ ?_ ?_
              · refine zs ?_;try exact trivial
              · refine zs ?_;try exact trivial
              rintro _ _ ⟨rfl, rfl⟩
              simp (maxSteps:=2000000) (disch:=omega) only [go_sem,Nat.reduceAdd,Nat.reduceSub,Nat.reduceMul,Nat.reduceBEq,Nat.reduceEqDiff,Nat.reduceLT,Nat.reduceLeDiff,Nat.reduceDiv,reduceIte,reduceCtorEq, d7, d8, hq, decide_true, decide_false, decide_not, Bool.not_true, Bool.not_false, Int.reduceLT, Int.reduceLE, Int.reduceToNat, Int.reduceEq, Int.reduceSub]
              refine a_call [] (known_h21) ok0 ?_ ?_ ?_
              · refine zs ?_;try exact trivial
              · refine zs ?_;try exact trivial
              rintro _ _ ⟨rfl, rfl⟩
              refine zc ?_;try exact trivial
            have d6 : decide ((i : Int) < limit) = false := decide_eq_false (by have := of_decide_eq_true d5; omega)
            simp (maxSteps:=2000000) (disch:=omega) only [go_sem,Nat.reduceAdd,Nat.reduceSub,Nat.reduceMul,Nat.reduceBEq,Nat.reduceEqDiff,Nat.reduceLT,Nat.reduceLeDiff,Nat.reduceDiv,reduceIte,reduceCtorEq, d5, d6, d7, d8, hq, decide_true, decide_false, decide_not, Bool.not_true, Bool.not_false, Int.reduceLT, Int.reduceLE, Int.reduceToNat, Int.reduceEq, Int.reduceSub]
            refine ⟨by omega, ?_⟩
            refine a_call [] (hj) ok0 ?_ ?_ ?_
            · refine zs ?_;try exact trivial
            · refine zs ?_;try exact trivial
            rintro _ _ ⟨rfl, rfl⟩
            simp (maxSteps:=2000000) (disch:=omega) only [go_sem,Nat.reduceAdd,Nat.reduceSub,Nat.reduceMul,Nat.reduceBEq,Nat.reduceEqDiff,Nat.reduceLT,Nat.reduceLeDiff,Nat.reduceDiv,reduceIte,reduceCtorEq, d7, d8, hq, decide_true, decide_false, decide_not, Bool.not_true, Bool.not_false, Int.reduceLT, Int.reduceLE, Int.reduceToNat, Int.reduceEq, Int.reduceSub]
            refine a_call [] (known_h21) ok0 ?_ ?_ ?_
            · refine zs ?_;try exact trivial
            · refine zs ?_;try exact trivial
            rintro _ _ ⟨rfl, rfl⟩
            refine zc ?_;try exact trivial
          have hqn : (quits / 2 % 2).toNat = 1 := by omega
          obtain ⟨f0, f1, f2⟩ := fd_quit a b (lim := limit) (by omega) (by omega) i (by omega) 6 (by omega)
          have hj := judge_ok fdL limit 20 (fdV a b i ++ [⟨4, 6, 0, 0, 0, 0⟩]) hcl (by simp [hfl]; omega) hg f0
          unfold vdR at hj
          rw [f1, f2] at hj
          generalize shaH (encS (ovC (ctNew fdL limit 20) (fdV a b i ++ [⟨4, 6, 0, 0, 0, 0⟩])).st) = H at hj
          have eX : evs (fdV a b i ++ [⟨4, 6, 0, 0, 0, 0⟩]) = evs (fdV a b i) ++ [.val (.int .i64 4), .val (.int .i64 6), .val (.int .i64 0), .val (.int .i64 0), .val (.int .u16 0), .val (.int .i64 0)] := by simp [evs, evD, U16]
          rw [eX] at hj
          simp only [if_true, Int.reduceEq, if_false] at hj
          rcases htg with rfl | rfl
          · skip
            cases d5 : decide ((i : Int) < (a.length : Int))
            · have d6 : True := trivial
              simp (maxSteps:=2000000) (disch:=omega) only [go_sem,Nat.reduceAdd,Nat.reduceSub,Nat.reduceMul,Nat.reduceBEq,Nat.reduceEqDiff,Nat.reduceLT,Nat.reduceLeDiff,Nat.reduceDiv,reduceIte,reduceCtorEq, d5, d7, d8, hq, decide_true, decide_false, decide_not, Bool.not_true, Bool.not_false, Int.reduceLT, Int.reduceLE, Int.reduceToNat, Int.reduceEq, Int.reduceSub]
              refine ⟨by omega, ?_⟩
              refine a_call [] (hj) ok0 ?_ ?_ ?_
              · refine zs ?_;try exact trivial
              · refine zs ?_;try exact trivial
              rintro _ _ ⟨rfl, rfl⟩
              simp (maxSteps:=2000000) (disch:=omega) only [go_sem,Nat.reduceAdd,Nat.reduceSub,Nat.reduceMul,Nat.reduceBEq,Nat.reduceEqDiff,Nat.reduceLT,Nat.reduceLeDiff,Nat.reduceDiv,reduceIte,reduceCtorEq, d7, d8, hq, decide_true, decide_false, decide_not, Bool.not_true, Bool.not_false, Int.reduceLT, Int.reduceLE, Int.reduceToNat, Int.reduceEq, Int.reduceSub]
              refine a_call [] (known_h21) ok0 ?_ ?_ ?_
              · refine zs ?_;try exact trivial
              · refine zs ?_;try exact trivial
              rintro _ _ ⟨rfl, rfl⟩
              refine zc ?_;try exact trivial
            have d6 : decide ((i : Int) < limit) = false := decide_eq_false (by have := of_decide_eq_true d5; omega)
            simp (maxSteps:=2000000) (disch:=omega) only [go_sem,Nat.reduceAdd,Nat.reduceSub,Nat.reduceMul,Nat.reduceBEq,Nat.reduceEqDiff,Nat.reduceLT,Nat.reduceLeDiff,Nat.reduceDiv,reduceIte,reduceCtorEq, d5, d6, d7, d8, hq, decide_true, decide_false, decide_not, Bool.not_true, Bool.not_false, Int.reduceLT, Int.reduceLE, Int.reduceToNat, Int.reduceEq, Int.reduceSub]
            refine ⟨by omega, ?_⟩
            refine a_call [] (hj) ok0 ?_ ?_ ?_
            · refine zs ?_;try exact trivial
            · refine zs ?_;try exact trivial
            rintro _ _ ⟨rfl, rfl⟩
            simp (maxSteps:=2000000) (disch:=omega) only [go_sem,Nat.reduceAdd,Nat.reduceSub,Nat.reduceMul,Nat.reduceBEq,Nat.reduceEqDiff,Nat.reduceLT,Nat.reduceLeDiff,Nat.reduceDiv,reduceIte,reduceCtorEq, d7, d8, hq, decide_true, decide_false, decide_not, Bool.not_true, Bool.not_false, Int.reduceLT, Int.reduceLE, Int.reduceToNat, Int.reduceEq, Int.reduceSub]
            refine a_call [] (known_h21) ok0 ?_ ?_ ?_
            · refine zs ?_;try exact trivial
            · refine zs ?_;try exact trivial
            rintro _ _ ⟨rfl, rfl⟩
            refine zc ?_;try exact trivial
          skip
          cases d5 : decide ((i : Int) < (a.length : Int))
          · have d6 : True := trivial
            simp (maxSteps:=2000000) (disch:=omega) only [go_sem,Nat.reduceAdd,Nat.reduceSub,Nat.reduceMul,Nat.reduceBEq,Nat.reduceEqDiff,Nat.reduceLT,Nat.reduceLeDiff,Nat.reduceDiv,reduceIte,reduceCtorEq, d5, d7, d8, hq, decide_true, decide_false, decide_not, Bool.not_true, Bool.not_false, Int.reduceLT, Int.reduceLE, Int.reduceToNat, Int.reduceEq, Int.reduceSub]
            refine ⟨by omega, ?_⟩
            refine a_call [] (hj) ok0 ?_ ?_ ?_
            · refine zs ?_;try exact trivial
            · refine zs ?_;try exact trivial
            rintro _ _ ⟨rfl, rfl⟩
            simp (maxSteps:=2000000) (disch:=omega) only [go_sem,Nat.reduceAdd,Nat.reduceSub,Nat.reduceMul,Nat.reduceBEq,Nat.reduceEqDiff,Nat.reduceLT,Nat.reduceLeDiff,Nat.reduceDiv,reduceIte,reduceCtorEq, d7, d8, hq, decide_true, decide_false, decide_not, Bool.not_true, Bool.not_false, Int.reduceLT, Int.reduceLE, Int.reduceToNat, Int.reduceEq, Int.reduceSub]
            refine a_call [] (known_h21) ok0 ?_ ?_ ?_
            · refine zs ?_;try exact trivial
            · refine zs ?_;try exact trivial
            rintro _ _ ⟨rfl, rfl⟩
            refine zc ?_;try exact trivial
          have d6 : decide ((i : Int) < limit) = false := decide_eq_false (by have := of_decide_eq_true d5; omega)
          simp (maxSteps:=2000000) (disch:=omega) only [go_sem,Nat.reduceAdd,Nat.reduceSub,Nat.reduceMul,Nat.reduceBEq,Nat.reduceEqDiff,Nat.reduceLT,Nat.reduceLeDiff,Nat.reduceDiv,reduceIte,reduceCtorEq, d5, d6, d7, d8, hq, decide_true, decide_false, decide_not, Bool.not_true, Bool.not_false, Int.reduceLT, Int.reduceLE, Int.reduceToNat, Int.reduceEq, Int.reduceSub]
          refine ⟨by omega, ?_⟩
          refine a_call [] (hj) ok0 ?_ ?_ ?_
          · refine zs ?_;try exact trivial
          · refine zs ?_;try exact trivial
          rintro _ _ ⟨rfl, rfl⟩
          simp (maxSteps:=2000000) (disch:=omega) only [go_sem,Nat.reduceAdd,Nat.reduceSub,Nat.reduceMul,Nat.reduceBEq,Nat.reduceEqDiff,Nat.reduceLT,Nat.reduceLeDiff,Nat.reduceDiv,reduceIte,reduceCtorEq, d7, d8, hq, decide_true, decide_false, decide_not, Bool.not_true, Bool.not_false, Int.reduceLT, Int.reduceLE, Int.reduceToNat, Int.reduceEq, Int.reduceSub]
          refine a_call [] (known_h21) ok0 ?_ ?_ ?_
          · refine zs ?_;try exact trivial
          · refine zs ?_;try exact trivial
          rintro _ _ ⟨rfl, rfl⟩
          refine zc ?_;try exact trivial
        -- POOL
      simp (maxSteps:=2000000) (disch:=omega) only [go_sem,Nat.reduceAdd,Nat.reduceSub,Nat.reduceMul,Nat.reduceBEq,Nat.reduceEqDiff,Nat.reduceLT,Nat.reduceLeDiff,Nat.reduceDiv,reduceIte,reduceCtorEq, d1, d2, d3, d4, decide_not, Bool.not_true]
      refine a_call [] (known_h21) ok0 ?_ ?_ ?_
      · refine zs ?_;try exact trivial
      · refine zs ?_;try exact trivial
      rintro _ _ ⟨rfl, rfl⟩
      refine zc ?_;try exact trivial
    simp (maxSteps:=2000000) (disch:=omega) only [go_sem,Nat.reduceAdd,Nat.reduceSub,Nat.reduceMul,Nat.reduceBEq,Nat.reduceEqDiff,Nat.reduceLT,Nat.reduceLeDiff,Nat.reduceDiv,reduceIte,reduceCtorEq, d1, d2, d3, decide_not, Bool.not_true]
    refine a_call [] (known_h21) ok0 ?_ ?_ ?_
    · refine zs ?_;try exact trivial
    · refine zs ?_;try exact trivial
    rintro _ _ ⟨rfl, rfl⟩
    refine zc ?_;try exact trivial
  simp (maxSteps:=2000000) (disch:=omega) only [go_sem,Nat.reduceAdd,Nat.reduceSub,Nat.reduceMul,Nat.reduceBEq,Nat.reduceEqDiff,Nat.reduceLT,Nat.reduceLeDiff,Nat.reduceDiv,reduceIte,reduceCtorEq, d1, d2, decide_not, Bool.not_true]
  refine a_call [] (known_h21) ok0 ?_ ?_ ?_
  · refine zs ?_;try exact trivial
  · refine zs ?_;try exact trivial
  rintro _ _ ⟨rfl, rfl⟩
  refine zc ?_;try exact trivial
end
end Go.Proofs.Ytgeelaafmnedmaa
/- The row of the law gauntletlaw21.JudgeFold. -/
open Go Go.RowKit Go.ChangeShapes Go.WideShapes Go.ChangeAt
namespace Go.Proofs.Ytgeelaafmnedmaa.judgeFold
set_option linter.unusedVariables false
set_option maxRecDepth 100000 in
theorem lifted (os : Os) (started : os.Started) (H : Type) (enc : TypeId × Value → H) :
    ReturnsInHanded {} Try.checked os 3 .any (Rows.judgeFoldSpec.pre6 enc Try.prog Try.f3 Rows.judgeFoldRow.domain false) (Rows.judgeFoldSpec.post enc Try.prog Try.f3 false true false false) := by
  refine returnsInHanded_of_change_sized (C := Try.checked) rowOwn started (by kernel_rfl) Try.func3
    (ChangeSpec.witness6 (enc := enc) (C := Try.checked) false ⟨#[], #[.slice none 0 0, .slice none 0 0, .int .i64 0, .int .i64 0], []⟩ 8 (by kernel_rfl) (by kernel_rfl) (by kernel_rfl) (by kernel_rfl)) ?_
  intro W base args ds gs before hval0 hW hcnd hsz0 _
  have hsz : (DataW.weightsEach Try.prog (Try.f3.params.toList ++ Rows.judgeFoldSpec.plain.varTypes Try.prog) (ds ++ gs)).all (· ≤ reachBytes) = true := hsz0
  have hval : ∀ (j : Nat) t v, Try.f3.params[j]? = some t → args[j]? = some v → Value.okWide Try.prog W .any base t v := hval0
  have hW' := hW
  obtain ⟨p, q, hA0, hV, rfl, hfz, hnd⟩ := hW
  have hA : DataW.TrodAll enc Try.prog W 0 (fun _ => true) true Try.f3.params.toList args.toList ds p := hA0
  rw [Try.params3] at hA hval hsz
  obtain ⟨v0, vs0, d0, ds0, pp0, q0, hargs, rfl, rfl, h0, r0⟩ := trodAll_cons hA
  obtain ⟨v1, vs1, d1, ds1, pp1, q1, rfl, rfl, rfl, h1, r1⟩ := trodAll_cons r0
  obtain ⟨v2, vs2, d2, ds2, pp2, q2, rfl, rfl, rfl, h2, r2⟩ := trodAll_cons r1
  obtain ⟨v3, vs3, d3, ds3, pp3, q3, rfl, rfl, rfl, h3, r3⟩ := trodAll_cons r2
  obtain ⟨rfl, rfl, rfl⟩ := trodAll_nil r3
  obtain rfl : args = #[v0, v1, v2, v3] := by cases args; simp_all
  obtain ⟨rfl, rfl⟩ := trodVars_none hV
  have k0 := h0
  have lt0 := places_lt h0
  obtain ⟨l0, hr0, hl0⟩ := open_u16s (hval 0 22 v0 rfl rfl) h0
  have k1 := h1
  have lt1 := places_lt h1
  obtain ⟨l1, hr1, hl1⟩ := open_u16s (hval 1 22 v1 rfl rfl) h1
  have k2 := h2
  have lt2 := places_lt h2
  obtain ⟨z2, hr2, hlo2, hhi2⟩ := open_i64n Try.underlying3 (hval 2 3 v2 rfl rfl) h2
  have k3 := h3
  have lt3 := places_lt h3
  obtain ⟨z3, hr3, hlo3, hhi3⟩ := open_i64n Try.underlying3 (hval 3 3 v3 rfl rfl) h3
  clear hA0 hval0 hsz0 hsz
  refine ((judgeFold_h l0 l1 z2 z3 hl0 hl1).calls W (globNone rfl W) (.cons hr0 (.cons hr1 (.cons hr2 (.cons hr3 .nil))))).mono fun e W' ⟨he, kept⟩ => ?_
  have bel := kept.below
  subst he
  exact ⟨_, rfl, _, _, _, [], _, [], hW', trodAll_mk1 (shut_bool Try.underlying4 _), (trodAll_cons_mk (Below.trod rowLaid (by kernel_rfl) (of_decide_eq_true (by kernel_rfl)) k0 bel lt0) (trodAll_cons_mk (Below.trod rowLaid (by kernel_rfl) (of_decide_eq_true (by kernel_rfl)) k1 bel lt1) (trodAll_cons_mk (Below.trod rowLaid (by kernel_rfl) (of_decide_eq_true (by kernel_rfl)) k2 bel lt2) (trodAll_cons_mk (Below.trod rowLaid (by kernel_rfl) (of_decide_eq_true (by kernel_rfl)) k3 bel lt3) trodAll_mk0)))), rfl, bel.frame _, fun h => by cases h⟩
theorem over : Rows.judgeFoldRow.holds Try.pinned (OpenSpec.ofChange Rows.judgeFoldSpec) :=
  OpenClaim.holds_of_wide 3 Try.f3 rfl rfl rfl rfl rfl rfl rfl ⟨rfl, rfl, rfl, rfl, rfl⟩ rfl rfl rfl rfl rfl (by kernel_rfl) Try.func3 (by kernel_rfl)
    (of_decide_eq_true (by kernel_rfl)) (by unfold Func.isWrapper; first | (rw [if_pos (by decide +kernel)]; kernel_rfl) | (rw [if_neg (by decide +kernel)]; exact ⟨rfl, rfl⟩))
    (fun os started H enc _ => lifted os started H enc)
end Go.Proofs.Ytgeelaafmnedmaa.judgeFold
namespace Go.Proofs.Ytgeelaafmnedmaa
/-- The row. -/
theorem judgeFold_holds : Rows.JudgeFoldSaid := judgeFold.over
#print axioms judgeFold_holds
end Go.Proofs.Ytgeelaafmnedmaa
