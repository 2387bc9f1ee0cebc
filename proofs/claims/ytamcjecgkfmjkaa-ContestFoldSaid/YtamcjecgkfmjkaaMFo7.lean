/- Parts of a proof: Chapter 18: how a match goes on, input by input, The law ContestFold: the plain part, Chapter 11, the other one: the states behind so many pairs of inputs, and the last of them, Chapter 18: a match that has begun, The law ContestFold in the logic: the walk, The row of the law gauntletlaw18.ContestFold. -/
import Derived.Test.YtamcjecgkfmjkaaMFo6
import Derived.Test.YtamcjecgkfmjkaaMFo4
/- Chapter 18: how a match goes on, input by input. -/
open Go Go.RowKit
namespace Go.Proofs.Ytamcjecgkfmjkaa
set_option linter.unusedSimpArgs false
set_option linter.unusedVariables false
/-- two players in a match that goes on, frame by frame -/
structure Go18 (code : List (Int × Int)) (cap fuel p0 p1 : Int) (i0 i1 : List UInt16) (ps : List (UInt16 × UInt16)) (st : Sta) (k : Nat) (c : Ct) : Prop where
  code : c.code = code
  cap : c.cap = cap
  fuel : c.fuel = fuel
  p0 : c.p0 = p0
  p1 : c.p1 = p1
  opn : c.opn = true
  over : c.over = false
  in0 : c.in0 = i0
  in1 : c.in1 = i1
  pairs : c.pairs = ps
  st : c.st = st
  ev : c.events.length = k
  l0 : c.l0 = 0
  l1 : c.l1 = 0
section
variable {code : List (Int × Int)} {cap fuel p0 p1 : Int} {i0 i1 : List UInt16} {ps : List (UInt16 × UInt16)} {st : Sta} {k : Nat} {c : Ct}
theorem Go18.seat0 (h : Go18 code cap fuel p0 p1 i0 i1 ps st k c) : seatP c p0 = 0 := by unfold seatP; rw [if_pos h.p0]
theorem Go18.seat1 (h : Go18 code cap fuel p0 p1 i0 i1 ps st k c) (hne : p0 ≠ p1) : seatP c p1 = 1 := by unfold seatP; rw [if_neg (by rw [h.p0]; exact hne), if_pos h.p1]
theorem Go18.act0 (h : Go18 code cap fuel p0 p1 i0 i1 ps st k c) (ho : st.over = false) : actP c p0 = 0 := by
  unfold actP; rw [h.opn, h.over, h.st, ho, h.seat0, if_neg (by simp), if_neg (by simp), if_neg (by omega)]
theorem Go18.act1 (h : Go18 code cap fuel p0 p1 i0 i1 ps st k c) (hne : p0 ≠ p1) (ho : st.over = false) : actP c p1 = 0 := by
  unfold actP; rw [h.opn, h.over, h.st, ho, h.seat1 hne, if_neg (by simp), if_neg (by simp), if_neg (by omega)]
theorem may_in (c : Ct) (p f : Int) (x : UInt16) : mayP18 c ⟨3, p, 0, f, x, 0⟩ = mayInputP c ⟨3, p, 0, f, x, 0⟩ := by
  unfold mayP18 may1P bareB; simp
theorem win_ok {cap : Int} {mine other : List UInt16} {p f : Int} {x : UInt16} (h0 : f = mine.length) (h1 : (mine.length : Int) < cap) (h2 : (mine.length : Int) - other.length < 8) : winP cap mine other ⟨3, p, 0, f, x, 0⟩ = 0 := by
  subst h0
  unfold winP
  rw [if_neg (by simp only; omega), if_neg (by simp only; omega), if_neg (by simp only; omega), if_neg (by simp only; omega)]
theorem win_far {cap : Int} {mine other : List UInt16} {p f : Int} {x : UInt16} (h0 : f = mine.length) (h1 : (mine.length : Int) < cap) (h2 : 8 ≤ (mine.length : Int) - other.length) : winP cap mine other ⟨3, p, 0, f, x, 0⟩ = 13 := by
  subst h0
  unfold winP
  rw [if_neg (by simp only; omega), if_neg (by simp only; omega), if_neg (by simp only; omega), if_pos (by simp only; omega)]
/-- the first player does something -/
theorem Go18.in_0 (h : Go18 code cap fuel p0 p1 i0 i1 ps st k c) (x : UInt16) (ev : Ev) (he : ev.player = p0) (hx : ev.inp = x) :
    Go18 code cap fuel p0 p1 (i0 ++ [x]) i1 (cuP code cap fuel (i0 ++ [x]) i1 (min (i0 ++ [x]).length i1.length - ps.length) ps st).1 (cuP code cap fuel (i0 ++ [x]) i1 (min (i0 ++ [x]).length i1.length - ps.length) ps st).2 (k + 1) ((inputP c ev).add ev) := by
  have hs : seatP c ev.player = 0 := by rw [he]; exact h.seat0
  have e0 : inputP0 c ev = { c with in0 := c.in0 ++ [ev.inp] } := by unfold inputP0; rw [if_pos hs]
  have e1 : inputP c ev = goP { c with in0 := c.in0 ++ [ev.inp] } := by unfold inputP; rw [e0]
  rw [e1]
  obtain ⟨h1, h2, h3, h4, h5, h6, h7, h8, h9, h10, h11, h12, h13, h14⟩ := h
  subst hx
  refine ⟨h1, h2, h3, h4, h5, h6, h7, ?_, h9, ?_, ?_, ?_, h13, h14⟩
  · show c.in0 ++ [ev.inp] = _; rw [h8]
  · unfold goP Ct.add; simp only [h1, h2, h3, h8, h9, h10, h11]
  · unfold goP Ct.add; simp only [h1, h2, h3, h8, h9, h10, h11]
  · show (c.events ++ [ev]).length = _; rw [List.length_append, h12]; rfl
theorem Go18.in_1 (h : Go18 code cap fuel p0 p1 i0 i1 ps st k c) (hne : p0 ≠ p1) (x : UInt16) (ev : Ev) (he : ev.player = p1) (hx : ev.inp = x) :
    Go18 code cap fuel p0 p1 i0 (i1 ++ [x]) (cuP code cap fuel i0 (i1 ++ [x]) (min i0.length (i1 ++ [x]).length - ps.length) ps st).1 (cuP code cap fuel i0 (i1 ++ [x]) (min i0.length (i1 ++ [x]).length - ps.length) ps st).2 (k + 1) ((inputP c ev).add ev) := by
  have hs : seatP c ev.player = 1 := by rw [he]; exact h.seat1 hne
  have e0 : inputP0 c ev = { c with in1 := c.in1 ++ [ev.inp] } := by unfold inputP0; rw [if_neg (by omega)]
  have e1 : inputP c ev = goP { c with in1 := c.in1 ++ [ev.inp] } := by unfold inputP; rw [e0]
  rw [e1]
  obtain ⟨h1, h2, h3, h4, h5, h6, h7, h8, h9, h10, h11, h12, h13, h14⟩ := h
  subst hx
  refine ⟨h1, h2, h3, h4, h5, h6, h7, h8, ?_, ?_, ?_, ?_, h13, h14⟩
  · show c.in1 ++ [ev.inp] = _; rw [h9]
  · unfold goP Ct.add; simp only [h1, h2, h3, h8, h9, h10, h11]
  · unfold goP Ct.add; simp only [h1, h2, h3, h8, h9, h10, h11]
  · show (c.events ++ [ev]).length = _; rw [List.length_append, h12]; rfl
/-- .. taken by Apply -/
theorem Go18.apply_in (h : Go18 code cap fuel p0 p1 i0 i1 ps st k c) (hg : gameP code cap fuel = 0) (hB : ∀ x ∈ st.cells, B32 x) (l0 : i0.length ≤ 1000) (l1 : i1.length ≤ 1000) (lp : ps.length ≤ 1000) (lk : k ≤ 100000) (p f : Int) (x : UInt16) (hm : mayP18 c ⟨3, p, 0, f, x, 0⟩ = 0) (hs : 0 ≤ seatP c p) :
    Holds Try.prog 13 [.ptr (.arg 0) 0, .ev ⟨3, p, 0, f, x, 0⟩] [(.arg 0, ctB (.arg 0) c)] (fun r h' => r = .int .i64 0 ∧ h' = [(.arg 0, ctB (.arg 0) ((inputP c ⟨3, p, 0, f, x, 0⟩).add ⟨3, p, 0, f, x, 0⟩))]) := by
  have m0 : c.in0.length ≤ 1000000 := by rw [h.in0]; omega
  have m1 : c.in1.length ≤ 1000000 := by rw [h.in1]; omega
  refine applyY3_h c (inputP c ⟨3, p, 0, f, x, 0⟩) p 0 f 0 x m0 m1 hm ?_ (input_h c ⟨3, p, 0, f, x, 0⟩ m0 m1 (by rw [h.pairs]; omega) hs (by rw [h.code, h.cap, h.fuel]; exact hg) (by rw [h.st]; exact hB))
  have e : (inputP c ⟨3, p, 0, f, x, 0⟩).events = c.events := by unfold inputP goP inputP0; split <;> rfl
  rw [e, h.ev]; omega
theorem cu0 {a b : List UInt16} : cuP code cap fuel a b 0 ps st = (ps, st) := rfl
theorem cu1 {a b : List UInt16} (ho : st.over = false) (hl : ps.length < min a.length b.length) : cuP code cap fuel a b 1 ps st = (ps ++ [(a.getD ps.length 0, b.getD ps.length 0)], (stepP code cap fuel st (a.getD ps.length 0) (b.getD ps.length 0)).1) := by
  unfold cuP; rw [if_pos ⟨ho, hl⟩]; rfl
/-- both did their frame -/
theorem Go18.both (h : Go18 code cap fuel p0 p1 i0 i1 ps st k c) (hne : p0 ≠ p1) (hl : i0.length = ps.length) (hl1 : i1.length = ps.length) (ho : st.over = false) (x y : UInt16) (f : Int) :
    Go18 code cap fuel p0 p1 (i0 ++ [x]) i1 ps st (k + 1) ((inputP c ⟨3, p0, 0, f, x, 0⟩).add ⟨3, p0, 0, f, x, 0⟩) ∧
    Go18 code cap fuel p0 p1 (i0 ++ [x]) (i1 ++ [y]) (ps ++ [(x, y)]) (stepP code cap fuel st x y).1 (k + 2) ((inputP ((inputP c ⟨3, p0, 0, f, x, 0⟩).add ⟨3, p0, 0, f, x, 0⟩) ⟨3, p1, 0, f, y, 0⟩).add ⟨3, p1, 0, f, y, 0⟩) := by
  have a := h.in_0 x ⟨3, p0, 0, f, x, 0⟩ rfl rfl
  rw [show min (i0 ++ [x]).length i1.length - ps.length = 0 by simp; omega, cu0] at a
  have b := a.in_1 hne y ⟨3, p1, 0, f, y, 0⟩ rfl rfl
  rw [show min (i0 ++ [x]).length (i1 ++ [y]).length - ps.length = 1 by simp; omega, cu1 ho (by simp; omega)] at b
  have e1 : (i0 ++ [x]).getD ps.length 0 = x := by rw [← hl]; simp
  have e2 : (i1 ++ [y]).getD ps.length 0 = y := by rw [← hl1]; simp
  rw [e1, e2] at b
  exact ⟨a, b⟩
end
/-- a game without instructions -/
theorem step_nil {cap fuel : Int} {s : Sta} {x y : UInt16} (hg : gameP [] cap fuel = 0) (hi : isP s = true) (hz : ¬ U32 s.seed = 0) (ho : s.over = false) (hf : s.frame + 1 < cap) : (stepP [] cap fuel s x y).1 = s.wFrame (s.frame + 1) := by
  unfold stepP
  rw [if_neg (by rw [hg]; simp), if_neg (by rintro (h | h); rw [hi] at h; cases h; exact hz h), if_neg (by rintro (h | h); rw [ho] at h; cases h; omega)]
  show stepM [] cap fuel.toNat s x y = _
  unfold stepM
  have e : ∀ f, runM [] f (mac0 s x y) = (0, mac0 s x y) := fun f => by cases f <;> exact if_neg (by rintro ⟨h, _⟩; exact absurd h (by show ¬ (0 : Int) < 0; omega))
  rw [e, if_pos rfl]
  unfold endS
  have h2 : ((0, mac0 s x y) : Int × Mac).2.st = s := rfl
  rw [h2, if_neg (fun h => by have := h.1; omega)]
end Go.Proofs.Ytamcjecgkfmjkaa

/- The law ContestFold: the plain part. -/
open Go Go.RowKit
namespace Go.Proofs.Ytamcjecgkfmjkaa
set_option linter.unusedSimpArgs false
set_option linter.unusedVariables false
/-- the plain fold of the game over pairs of inputs -/
def foS (code : List (Int × Int)) (cap fuel : Int) (s : Sta) (f : Nat → UInt16 × UInt16) : Nat → Sta
  | 0 => s
  | n + 1 => (stepP code cap fuel (foS code cap fuel s f n) (f n).1 (f n).2).1
section
variable {code : List (Int × Int)} {cap fuel : Int} {s : Sta} {f g : Nat → UInt16 × UInt16}
theorem foS_congr : ∀ {n : Nat}, (∀ j, j < n → f j = g j) → foS code cap fuel s f n = foS code cap fuel s g n
  | 0, _ => rfl
  | n + 1, h => by
    show (stepP code cap fuel (foS code cap fuel s f n) (f n).1 (f n).2).1 = _
    rw [foS_congr fun j hj => h j (by omega), h n (by omega)]; rfl
theorem foS_B (hB : ∀ x ∈ s.cells, B32 x) : ∀ n, ∀ x ∈ (foS code cap fuel s f n).cells, B32 x
  | 0 => hB
  | n + 1 => step_B32 _ _ _ _ _ _ (foS_B hB n)
end
theorem start_B (seed : UInt32) : ∀ x ∈ (startS seed).cells, B32 x := fun x hx => by
  have : x = 0 := List.eq_of_mem_replicate hx
  rw [this]; exact B32_0
def pz (a b : List UInt16) (j : Nat) : UInt16 × UInt16 := (a.getD j 0, b.getD j 0)
def pzs (a b : List UInt16) (m : Nat) : List (UInt16 × UInt16) := (List.range m).map (pz a b)
theorem pzs_len {a b : List UInt16} {m : Nat} : (pzs a b m).length = m := by simp [pzs]
theorem pzs_succ {a b : List UInt16} {m : Nat} : pzs a b (m + 1) = pzs a b m ++ [pz a b m] := by simp [pzs, List.range_succ]
theorem take_succ' {a : List UInt16} {i : Nat} (h : i < a.length) : a.take (i + 1) = a.take i ++ [a.getD i 0] := by
  rw [List.take_add_one, List.getElem?_eq_getElem h, List.getD_eq_getElem?_getD, List.getElem?_eq_getElem h]; rfl
theorem getD_take' {a : List UInt16} {i j : Nat} (h : j < i) : (a.take i).getD j 0 = a.getD j 0 := by
  rw [List.getD_eq_getElem?_getD, List.getElem?_take_of_lt h, List.getD_eq_getElem?_getD]
/-- two players in a match that goes on, whoever tells first -/
structure Fold18 (code : List (Int × Int)) (cap fuel : Int) (seed : UInt32) (a b : List UInt16) (i k : Nat) (c : Ct) : Prop where
  go : Go18 code cap fuel 5 4 (a.take i) (b.take k) (pzs a b (min i k)) (foS code cap fuel (startS seed) (pz a b) (min i k)) (i + k + 1) c
  no : ∀ j, j < min i k → (foS code cap fuel (startS seed) (pz a b) j).over = false
  ia : i ≤ a.length
  kb : k ≤ b.length
  far : i ≤ k + 8 ∧ k ≤ i + 8
section
variable {code : List (Int × Int)} {cap fuel : Int} {seed : UInt32} {a b : List UInt16} {i k : Nat} {c : Ct}
theorem Fold18.m0 (h : Fold18 code cap fuel seed a b i k c) (hi : i < a.length) (hm : mayP18 c ⟨3, 5, 0, (i : Int), a.getD i 0, 0⟩ = 0) :
    (foS code cap fuel (startS seed) (pz a b) (min i k)).over = false ∧ i < k + 8 := by
  rw [may_in] at hm
  unfold mayInputP at hm
  simp only at hm
  have hact : actP c 5 = 0 := by
    by_cases q : actP c 5 = 0
    · exact q
    · rw [if_pos q] at hm; exact hm
  have ho : (foS code cap fuel (startS seed) (pz a b) (min i k)).over = false := by
    rw [← h.go.st]
    cases q : c.st.over
    · rfl
    · unfold actP at hact
      rw [h.go.opn, h.go.over, q, if_neg (by simp), if_pos (by simp)] at hact
      cases hact
  refine ⟨ho, ?_⟩
  have li : (a.take i).length = i := by rw [List.length_take]; omega
  have lk : (b.take k).length = k := by rw [List.length_take]; have := h.kb; omega
  rw [if_neg (by omega), h.go.seat0, if_pos rfl, h.go.in0, h.go.in1] at hm
  unfold winP at hm
  simp only [li, lk] at hm
  split at hm
  · cases hm
  · split at hm
    · cases hm
    · split at hm
      · cases hm
      · split at hm
        · cases hm
        · omega
theorem Fold18.m1 (h : Fold18 code cap fuel seed a b i k c) (hk : k < b.length) (hm : mayP18 c ⟨3, 4, 0, (k : Int), b.getD k 0, 0⟩ = 0) :
    (foS code cap fuel (startS seed) (pz a b) (min i k)).over = false ∧ k < i + 8 := by
  rw [may_in] at hm
  unfold mayInputP at hm
  simp only at hm
  have hact : actP c 4 = 0 := by
    by_cases q : actP c 4 = 0
    · exact q
    · rw [if_pos q] at hm; exact hm
  have ho : (foS code cap fuel (startS seed) (pz a b) (min i k)).over = false := by
    rw [← h.go.st]
    cases q : c.st.over
    · rfl
    · unfold actP at hact
      rw [h.go.opn, h.go.over, q, if_neg (by simp), if_pos (by simp)] at hact
      cases hact
  refine ⟨ho, ?_⟩
  have li : (a.take i).length = i := by rw [List.length_take]; have := h.ia; omega
  have lk : (b.take k).length = k := by rw [List.length_take]; omega
  rw [if_neg (by omega), h.go.seat1 (by omega), if_neg (by omega), h.go.in0, h.go.in1] at hm
  unfold winP at hm
  simp only [li, lk] at hm
  split at hm
  · cases hm
  · split at hm
    · cases hm
    · split at hm
      · cases hm
      · split at hm
        · cases hm
        · omega
theorem Fold18.in0 (h : Fold18 code cap fuel seed a b i k c) (hi : i < a.length) (hm : mayP18 c ⟨3, 5, 0, (i : Int), a.getD i 0, 0⟩ = 0) :
    Fold18 code cap fuel seed a b (i + 1) k ((inputP c ⟨3, 5, 0, (i : Int), a.getD i 0, 0⟩).add ⟨3, 5, 0, (i : Int), a.getD i 0, 0⟩) := by
  obtain ⟨ho, hf⟩ := h.m0 hi hm
  have g := h.go.in_0 (a.getD i 0) ⟨3, 5, 0, (i : Int), a.getD i 0, 0⟩ rfl rfl
  have kb := h.kb
  rw [← take_succ' hi, pzs_len] at g
  have li : (a.take (i + 1)).length = i + 1 := by rw [List.length_take]; omega
  have lk : (b.take k).length = k := by rw [List.length_take]; omega
  rw [li, lk] at g
  refine ⟨?_, ?_, hi, kb, ⟨by omega, by have := h.far; omega⟩⟩
  · by_cases q : i < k
    · rw [show min (i + 1) k - min i k = 1 by omega, cu1 ho (by rw [pzs_len, li, lk]; omega), pzs_len, show min i k = i by omega, getD_take' (by omega), getD_take' (by omega)] at g
      rw [show min (i + 1) k = i + 1 by omega, pzs_succ, show i + 1 + k + 1 = i + k + 1 + 1 by omega]
      exact g
    · rw [show min (i + 1) k - min i k = 0 by omega, cu0] at g
      rw [show min (i + 1) k = min i k by omega, show i + 1 + k + 1 = i + k + 1 + 1 by omega]
      exact g
  · intro j hj
    by_cases q : j < min i k
    · exact h.no j q
    · rw [show j = min i k by omega]; exact ho
theorem Fold18.in1 (h : Fold18 code cap fuel seed a b i k c) (hk : k < b.length) (hm : mayP18 c ⟨3, 4, 0, (k : Int), b.getD k 0, 0⟩ = 0) :
    Fold18 code cap fuel seed a b i (k + 1) ((inputP c ⟨3, 4, 0, (k : Int), b.getD k 0, 0⟩).add ⟨3, 4, 0, (k : Int), b.getD k 0, 0⟩) := by
  obtain ⟨ho, hf⟩ := h.m1 hk hm
  have g := h.go.in_1 (by omega) (b.getD k 0) ⟨3, 4, 0, (k : Int), b.getD k 0, 0⟩ rfl rfl
  have ia := h.ia
  rw [← take_succ' hk, pzs_len] at g
  have li : (a.take i).length = i := by rw [List.length_take]; omega
  have lk : (b.take (k + 1)).length = k + 1 := by rw [List.length_take]; omega
  rw [li, lk] at g
  refine ⟨?_, ?_, ia, hk, ⟨by have := h.far; omega, by omega⟩⟩
  · by_cases q : k < i
    · rw [show min i (k + 1) - min i k = 1 by omega, cu1 ho (by rw [pzs_len, li, lk]; omega), pzs_len, show min i k = k by omega, getD_take' (by omega), getD_take' (by omega)] at g
      rw [show min i (k + 1) = k + 1 by omega, pzs_succ, show i + (k + 1) + 1 = i + k + 1 + 1 by omega]
      exact g
    · rw [show min i (k + 1) - min i k = 0 by omega, cu0] at g
      rw [show min i (k + 1) = min i k by omega, show i + (k + 1) + 1 = i + k + 1 + 1 by omega]
      exact g
  · intro j hj
    by_cases q : j < min i k
    · exact h.no j q
    · rw [show j = min i k by omega]; exact ho
theorem Fold18.y0 (h : Fold18 code cap fuel seed a b i k c) (hg : gameP code cap fuel = 0) (ha : a.length ≤ 60) (hb : b.length ≤ 60) (hi : i < a.length) (hm : mayP18 c ⟨3, 5, 0, (i : Int), a.getD i 0, 0⟩ = 0) :
    Holds Try.prog 13 [.ptr (.arg 0) 0, .ev ⟨3, 5, 0, (i : Int), a.getD i 0, 0⟩] [(.arg 0, ctB (.arg 0) c)] (fun r h' => r = .int .i64 0 ∧ h' = [(.arg 0, ctB (.arg 0) ((inputP c ⟨3, 5, 0, (i : Int), a.getD i 0, 0⟩).add ⟨3, 5, 0, (i : Int), a.getD i 0, 0⟩))]) := by
  have := h.ia
  have := h.kb
  exact h.go.apply_in hg (foS_B (start_B _) _) (by rw [List.length_take]; omega) (by rw [List.length_take]; omega) (by rw [pzs_len]; omega) (by omega) 5 i _ hm (by rw [h.go.seat0]; omega)
theorem Fold18.y1 (h : Fold18 code cap fuel seed a b i k c) (hg : gameP code cap fuel = 0) (ha : a.length ≤ 60) (hb : b.length ≤ 60) (hk : k < b.length) (hm : mayP18 c ⟨3, 4, 0, (k : Int), b.getD k 0, 0⟩ = 0) :
    Holds Try.prog 13 [.ptr (.arg 0) 0, .ev ⟨3, 4, 0, (k : Int), b.getD k 0, 0⟩] [(.arg 0, ctB (.arg 0) c)] (fun r h' => r = .int .i64 0 ∧ h' = [(.arg 0, ctB (.arg 0) ((inputP c ⟨3, 4, 0, (k : Int), b.getD k 0, 0⟩).add ⟨3, 4, 0, (k : Int), b.getD k 0, 0⟩))]) := by
  have := h.ia
  have := h.kb
  exact h.go.apply_in hg (foS_B (start_B _) _) (by rw [List.length_take]; omega) (by rw [List.length_take]; omega) (by rw [pzs_len]; omega) (by omega) 4 k _ hm (by rw [h.go.seat1 (by omega)]; omega)
theorem Fold18.n0 (h : Fold18 code cap fuel seed a b i k c) (ha : a.length ≤ 60) (hb : b.length ≤ 60) (hm : mayP18 c ⟨3, 5, 0, (i : Int), a.getD i 0, 0⟩ ≠ 0) :
    Holds Try.prog 13 [.ptr (.arg 0) 0, .ev ⟨3, 5, 0, (i : Int), a.getD i 0, 0⟩] [(.arg 0, ctB (.arg 0) c)] (fun r h' => r = .int .i64 (mayP18 c ⟨3, 5, 0, (i : Int), a.getD i 0, 0⟩) ∧ h' = [(.arg 0, ctB (.arg 0) c)]) :=
  applyN3_h c 5 0 i 0 _ (by rw [h.go.in0, List.length_take]; omega) (by rw [h.go.in1, List.length_take]; omega) hm
theorem Fold18.n1 (h : Fold18 code cap fuel seed a b i k c) (ha : a.length ≤ 60) (hb : b.length ≤ 60) (hm : mayP18 c ⟨3, 4, 0, (k : Int), b.getD k 0, 0⟩ ≠ 0) :
    Holds Try.prog 13 [.ptr (.arg 0) 0, .ev ⟨3, 4, 0, (k : Int), b.getD k 0, 0⟩] [(.arg 0, ctB (.arg 0) c)] (fun r h' => r = .int .i64 (mayP18 c ⟨3, 4, 0, (k : Int), b.getD k 0, 0⟩) ∧ h' = [(.arg 0, ctB (.arg 0) c)]) :=
  applyN3_h c 4 0 k 0 _ (by rw [h.go.in0, List.length_take]; omega) (by rw [h.go.in1, List.length_take]; omega) hm
end
def ctSeed (code : List (Int × Int)) (cap fuel seed : Int) : Ct := (openP (ctNew code cap fuel) ⟨1, 5, 4, 0, 0, seed⟩).add ⟨1, 5, 4, 0, 0, seed⟩
theorem fold_0 (code : List (Int × Int)) (cap fuel seed : Int) (a b : List UInt16) : Fold18 code cap fuel (UInt32.ofNat seed.toNat) a b 0 0 (ctSeed code cap fuel seed) :=
  ⟨⟨rfl, rfl, rfl, rfl, rfl, rfl, rfl, rfl, rfl, rfl, rfl, rfl, rfl, rfl⟩, by omega, by omega, by omega, by omega⟩
theorem fold_open (code : List (Int × Int)) (cap fuel seed : Int) (h0 : 0 ≤ seed) (h1 : seed ≤ 4294967295) :
    Holds Try.prog 13 [.ptr (.arg 0) 0, .ev ⟨1, 5, 4, 0, 0, seed⟩] [(.arg 0, ctB (.arg 0) (ctNew code cap fuel))] (fun r h' => r = .int .i64 0 ∧ h' = [(.arg 0, ctB (.arg 0) (ctSeed code cap fuel seed))]) := by
  refine applyY1_h _ _ 5 4 0 seed 0 ?_ (by show 0 ≤ 1000000; omega) (open_h _ _ ⟨h0, h1⟩)
  show mayOpenP (ctNew code cap fuel) ⟨1, 5, 4, 0, 0, seed⟩ = 0
  unfold mayOpenP
  rw [if_neg (by simp [ctNew]), if_neg (by simp; omega)]
end Go.Proofs.Ytamcjecgkfmjkaa

/- Chapter 11, the other one: the states behind so many pairs of inputs, and the last of them. -/
open Go Go.RowKit
namespace Go.Proofs.Ytamcjecgkfmjkaa
set_option linter.unusedSimpArgs false
set_option linter.unusedVariables false
def gp (ps : List (UInt16 × UInt16)) (j : Nat) : UInt16 × UInt16 := ps.getD j (0, 0)
def foL (code : List (Int × Int)) (cap fuel : Int) (s : Sta) (f : Nat → UInt16 × UInt16) (n : Nat) : List Sta := (List.range (n + 1)).map (foS code cap fuel s f)
theorem foL_succ {code : List (Int × Int)} {cap fuel : Int} {s : Sta} {f : Nat → UInt16 × UInt16} {n : Nat} : foL code cap fuel s f (n + 1) = foL code cap fuel s f n ++ [foS code cap fuel s f (n + 1)] := by
  unfold foL; rw [List.range_succ (n := n + 1), List.map_append]; rfl
theorem foL_len {code : List (Int × Int)} {cap fuel : Int} {s : Sta} {f : Nat → UInt16 × UInt16} {n : Nat} : (foL code cap fuel s f n).length = n + 1 := by simp [foL]
theorem foL_last {code : List (Int × Int)} {cap fuel : Int} {s : Sta} {f : Nat → UInt16 × UInt16} {n : Nat} {d : Sta} : (foL code cap fuel s f n).getD n d = foS code cap fuel s f n := by
  unfold foL; rw [List.getD_eq_getElem?_getD]; simp
theorem prs_drop (l : List (UInt16 × UInt16)) (k : Nat) : (prs l).drop (k * 2) = prs (l.drop k) := by
  induction l generalizing k with
  | nil => simp [prs]
  | cons s l ih =>
    cases k with
    | zero => simp [prs]
    | succ k =>
      have e : prs (s :: l) = prD s ++ prs l := by simp [prs]
      have e2 : (prD s).length = 2 := rfl
      rw [e, List.drop_succ_cons, List.drop_append, e2, List.drop_eq_nil_of_le (by rw [e2]; omega), show (k + 1) * 2 - 2 = k * 2 by omega, ih]; rfl
theorem prs_at {l : List (UInt16 × UInt16)} {k : Nat} (h : k < l.length) : (prs l).drop (k * 2) = prD (gp l k) ++ prs (l.drop (k + 1)) := by
  have e : gp l k = l[k] := by simp [gp, List.getD, h]
  rw [prs_drop, List.drop_eq_getElem_cons h, e]
  rfl
@[go_sem ↓ 1200] theorem e_IAs2 {V' : V → Prop} {l : List Sta} {o : Own} {nl : Option Bool} {a : Int} {t : TypeId} (h0 : 0 ≤ a) (h1 : a < l.length) : aIA (some (none, t, 20)) (.cell (.lst o nl 20 (sds l))) a V' = V' (.cell (.mem (sd (l.getD a.toNat (stz 0 0)) ++ sds (l.drop (a.toNat + 1))))) := e_IAs (d := stz 0 0) h0 h1
/-- who owns the row of states -/
def tgS : Nat → Tag
  | 0 => .made [20]
  | _ + 1 => .slot [45]
@[go_sem ↓ 1200] theorem e_IApr {V' : V → Prop} {l : List (UInt16 × UInt16)} {o : Own} {nl : Option Bool} {a : Int} {t : TypeId} (h0 : 0 ≤ a) (h1 : a < l.length) : aIA (some (none, t, 2)) (.cell (.lst o nl 2 (prs l))) a V' = V' (.cell (.mem (.val (.int .u16 (U16 (gp l a.toNat).1)) :: .val (.int .u16 (U16 (gp l a.toNat).2)) :: prs (l.drop (a.toNat + 1))))) := by
  have h2 : a.toNat < l.length := by omega
  have e : (.val (.int .u16 (U16 (gp l a.toNat).1)) :: .val (.int .u16 (U16 (gp l a.toNat).2)) :: prs (l.drop (a.toNat + 1)) : List D) = prD (gp l a.toNat) ++ prs (l.drop (a.toNat + 1)) := rfl
  rw [e, ← prs_at h2]
  simp only [aIA, prs_len, h0, true_and]
  have : a * ((2 : Nat) : Int) < ((l.length * 2 : Nat) : Int) := by omega
  simp only [this, true_and]
set_option maxRecDepth 20000 in
set_option maxHeartbeats 16000000 in
theorem rstates_h (code : List (Int × Int)) (cap fuel : Int) (seed : UInt32) (ps : List (UInt16 × UInt16)) (hcl : code.length ≤ 9223372036854775807) (hg : gameP code cap fuel = 0) (hl : ps.length ≤ 1000000)
    (no : ∀ j, j < ps.length → (foS code cap fuel (startS seed) (gp ps) j).over = false) :
    Holds Try.prog 28 [.game code cap fuel, .c (.val (.int .u32 (U32 seed))), .c (.lst .no none 2 (prs ps))] [] (fun r h' => r = .tup [.c (.lst .no none 20 (sds (foL code cap fuel (startS seed) (gp ps) ps.length))), .int .i64 0] ∧ h' = []) := by
  have hgc := rcheck10_h code cap fuel hcl
  rw [hg] at hgc
  have hst := rstart_h seed
  refine holds_of_awp Try.func28 rfl (by decide +kernel) mixed Try.ntmps28 Try.results28 ?_
  simp only [entrySt, List.map_cons, List.map_nil, List.length_cons, List.length_nil, Nat.reduceAdd, Nat.reduceSub, List.replicate_succ, List.replicate_zero, List.cons_append, List.nil_append]
  (refine zc ?_; try exact trivial)
  refine a_call [] (hgc) ok0 ?_ ?_ ?_
  · (refine zs ?_; try exact trivial)
  · (refine zs ?_; try exact trivial)
  rintro _ _ ⟨rfl, rfl⟩
  (refine zc ?_; try exact trivial)
  refine a_call [] (hst) ok0 ?_ ?_ ?_
  · (refine zs ?_; try exact trivial)
  · (refine zs ?_; try exact trivial)
  rintro _ _ ⟨rfl, rfl⟩
  (refine zc ?_; try exact trivial)
  refine a_loopk (fun i : Nat => ⟨[.undef, .w (.c (.val (.int .u32 (U32 seed)))), V.cell (.lst .no none 2 (prs ps)), V.cell (.ptr (.loc [3]) 0), .undef, .undef, V.cell (.lst .full (some true) 1 []), V.int .i64 0, .undef, V.cell (.ptr (.loc [9]) 0), V.cell (.lst (.tag (tgS i)) none 20 (sds (foL code cap fuel (startS seed) (gp ps) i))), V.int .i64 (i : Int), .undef, .undef, .undef, .undef, .undef, .undef, .undef, .undef, .undef, .undef, .undef, .undef, .undef, .undef, .undef, .undef, .undef, .undef, .undef, .undef, .undef, .undef, .undef, .undef, .undef, .undef, .undef, .undef, .undef, .undef, .undef, .undef, .undef, .undef, .undef], [(.loc [9], (sd (foS code cap fuel (startS seed) (gp ps) i)).map D.toC), (.loc [3], [.lst .no none 2 (ins code), .val (.int .i64 cap), .val (.int .i64 fuel)])]⟩) (fun i => i ≤ ps.length) (fun i => ps.length - i) 0 (by omega) ?_ ?_
  · have e : sds (foL code cap fuel (startS seed) (gp ps) 0) = sd (startS seed) := by simp [foL, sds, foS]
    have e2 : foS code cap fuel (startS seed) (gp ps) 0 = startS seed := rfl
    rw [e, e2]
    simp only [tgS]
    (refine zs ?_; try exact trivial)
    all_goals trace_state
  · intro i hi
    cases i with
    | zero =>
      rw [show tgS (0) = .made [20] from rfl]
      (refine zs ?_; try exact trivial)
      cases g : decide ((0 : Int) < (ps.length : Int))
      · have e : ps.length = 0 := by have := of_decide_eq_false g; omega
        rw [e]
        simp (maxSteps := 2000000) (disch := omega) only [go_sem, Nat.reduceAdd, Nat.reduceSub, Nat.reduceMul, Nat.reduceBEq, Nat.reduceEqDiff, Nat.reduceLT, Nat.reduceLeDiff, Nat.reduceDiv, reduceIte, reduceCtorEq, g]
        all_goals trace_state
      · have g' := of_decide_eq_true g
        have ho := no (0) (by omega)
        have hlt : 0 < ps.length := by omega
        have hB : ∀ x ∈ (foS code cap fuel (startS seed) (gp ps) (0)).cells, B32 x := foS_B (start_B seed) _
        simp (maxSteps := 2000000) (disch := omega) only [go_sem, Nat.reduceAdd, Nat.reduceSub, Nat.reduceMul, Nat.reduceBEq, Nat.reduceEqDiff, Nat.reduceLT, Nat.reduceLeDiff, Nat.reduceDiv, reduceIte, reduceCtorEq, g, ho, Bool.not_false]
        refine a_drawC (⟨[.undef, .w (.c (.val (.int .u32 (U32 seed)))), V.cell (.lst .no none 2 (prs ps)), V.cell (.ptr (.loc [3]) 0), .undef, .undef, V.cell (.lst .full (some true) 1 []), V.int .i64 0, .undef, V.cell (.ptr (.loc [9]) 0), V.cell (.lst (.tag (.made [20])) none 20 (sds (foL code cap fuel (startS seed) (gp ps) (0)))), V.int .i64 ((0 : Int)), .undef, .undef, .undef, .undef, .undef, .undef, .undef, .undef, .undef, .undef, .undef, .undef, .undef, .undef, .undef, .undef, .undef, .undef, .undef, .undef, .undef, .undef, .undef, .undef, .undef, .undef, .undef, .undef, .undef, .undef, .undef, .undef, .undef, .undef, .undef], [(.loc [9], (sd ((stepP code cap fuel (foS code cap fuel (startS seed) (gp ps) (0)) (gp ps (0)).1 (gp ps (0)).2).1)).map D.toC), (.loc [3], [.lst .no none 2 (ins code), .val (.int .i64 cap), .val (.int .i64 fuel)])]⟩) (.take 2 (.take 3 (.take 4 (.both [(0, .both [(1, .both [(5, .both [(6, .take 7 (.take 8 (.take 9 (.both [(10, .done)]))))])]), (5, .both [(1, .both [(6, .take 7 (.take 8 (.take 9 (.both [(10, .done)]))))])])]), (1, .both [(0, .both [(5, .both [(6, .take 7 (.take 8 (.take 9 (.both [(10, .done)]))))])]), (5, .both [(0, .both [(6, .take 7 (.take 8 (.take 9 (.both [(10, .done)]))))])])]), (5, .both [(0, .both [(1, .both [(6, .take 7 (.take 8 (.take 9 (.both [(10, .done)]))))])]), (1, .both [(0, .both [(6, .take 7 (.take 8 (.take 9 (.both [(10, .done)]))))])])])])))) (by kernel_rfl) (by kernel_rfl) ?_ ?_
        · (refine zc ?_; try exact trivial)
          have hstep := rstep_h code cap fuel (foS code cap fuel (startS seed) (gp ps) (0)) (gp ps (0)).1 (gp ps (0)).2 hcl hB
          refine a_call [] hstep ok0 ?_ ?_ ?_
          · (refine zs ?_; try exact trivial)
            all_goals (rw [show ((0 : Int)).toNat = 0 by omega]; exact ⟨rfl, rfl⟩)
          · (refine zs ?_; try exact trivial)
          rintro _ _ ⟨rfl, rfl⟩
          (refine zc ?_; try exact trivial)
          all_goals exact leCs_refl _
        · (refine zc ?_; try exact trivial)
          refine ⟨by rw [foL_len]; omega, 0 + 1, by omega, by omega, ?_⟩
          rw [show tgS (0 + 1) = .slot [45] from rfl]
          rw [foL_succ]
          try (refine zc ?_; try exact trivial)
          all_goals exact ⟨rfl, leCs_refl _⟩
    | succ i =>
      rw [show tgS (i + 1) = .slot [45] from rfl]
      (refine zs ?_; try exact trivial)
      cases g : decide ((i : Int) + 1 < (ps.length : Int))
      · have e : ps.length = i + 1 := by have := of_decide_eq_false g; omega
        rw [e]
        simp (maxSteps := 2000000) (disch := omega) only [go_sem, Nat.reduceAdd, Nat.reduceSub, Nat.reduceMul, Nat.reduceBEq, Nat.reduceEqDiff, Nat.reduceLT, Nat.reduceLeDiff, Nat.reduceDiv, reduceIte, reduceCtorEq, g]
        all_goals trace_state
      · have g' := of_decide_eq_true g
        have ho := no (i + 1) (by omega)
        have hlt : i + 1 < ps.length := by omega
        have hB : ∀ x ∈ (foS code cap fuel (startS seed) (gp ps) (i + 1)).cells, B32 x := foS_B (start_B seed) _
        simp (maxSteps := 2000000) (disch := omega) only [go_sem, Nat.reduceAdd, Nat.reduceSub, Nat.reduceMul, Nat.reduceBEq, Nat.reduceEqDiff, Nat.reduceLT, Nat.reduceLeDiff, Nat.reduceDiv, reduceIte, reduceCtorEq, g, ho, Bool.not_false]
        refine a_drawC (⟨[.undef, .w (.c (.val (.int .u32 (U32 seed)))), V.cell (.lst .no none 2 (prs ps)), V.cell (.ptr (.loc [3]) 0), .undef, .undef, V.cell (.lst .full (some true) 1 []), V.int .i64 0, .undef, V.cell (.ptr (.loc [9]) 0), V.cell (.lst (.tag (.slot [45])) none 20 (sds (foL code cap fuel (startS seed) (gp ps) (i + 1)))), V.int .i64 ((i : Int) + 1), .undef, .undef, .undef, .undef, .undef, .undef, .undef, .undef, .undef, .undef, .undef, .undef, .undef, .undef, .undef, .undef, .undef, .undef, .undef, .undef, .undef, .undef, .undef, .undef, .undef, .undef, .undef, .undef, .undef, .undef, .undef, .undef, .undef, .undef, .undef], [(.loc [9], (sd ((stepP code cap fuel (foS code cap fuel (startS seed) (gp ps) (i + 1)) (gp ps (i + 1)).1 (gp ps (i + 1)).2).1)).map D.toC), (.loc [3], [.lst .no none 2 (ins code), .val (.int .i64 cap), .val (.int .i64 fuel)])]⟩) (.take 2 (.take 3 (.take 4 (.both [(0, .both [(1, .both [(5, .both [(6, .take 7 (.take 8 (.take 9 (.both [(10, .done)]))))])]), (5, .both [(1, .both [(6, .take 7 (.take 8 (.take 9 (.both [(10, .done)]))))])])]), (1, .both [(0, .both [(5, .both [(6, .take 7 (.take 8 (.take 9 (.both [(10, .done)]))))])]), (5, .both [(0, .both [(6, .take 7 (.take 8 (.take 9 (.both [(10, .done)]))))])])]), (5, .both [(0, .both [(1, .both [(6, .take 7 (.take 8 (.take 9 (.both [(10, .done)]))))])]), (1, .both [(0, .both [(6, .take 7 (.take 8 (.take 9 (.both [(10, .done)]))))])])])])))) (by kernel_rfl) (by kernel_rfl) ?_ ?_
        · (refine zc ?_; try exact trivial)
          have hstep := rstep_h code cap fuel (foS code cap fuel (startS seed) (gp ps) (i + 1)) (gp ps (i + 1)).1 (gp ps (i + 1)).2 hcl hB
          refine a_call [] hstep ok0 ?_ ?_ ?_
          · (refine zs ?_; try exact trivial)
            all_goals (rw [show ((i : Int) + 1).toNat = i + 1 by omega]; exact ⟨rfl, rfl⟩)
          · (refine zs ?_; try exact trivial)
          rintro _ _ ⟨rfl, rfl⟩
          (refine zc ?_; try exact trivial)
          all_goals exact leCs_refl _
        · (refine zc ?_; try exact trivial)
          refine ⟨by rw [foL_len]; omega, i + 1 + 1, by omega, by omega, ?_⟩
          rw [show tgS (i + 1 + 1) = .slot [45] from rfl]
          rw [foL_succ]
          try (refine zc ?_; try exact trivial)
          all_goals exact ⟨rfl, leCs_refl _⟩
-- END ROUND
set_option maxRecDepth 20000 in
set_option maxHeartbeats 16000000 in
theorem rplay_h (code : List (Int × Int)) (cap fuel : Int) (seed : UInt32) (ps : List (UInt16 × UInt16)) (hcl : code.length ≤ 9223372036854775807) (hg : gameP code cap fuel = 0) (hl : ps.length ≤ 1000000)
    (no : ∀ j, j < ps.length → (foS code cap fuel (startS seed) (gp ps) j).over = false) :
    Holds Try.prog 14 [.game code cap fuel, .c (.val (.int .u32 (U32 seed))), .c (.lst .no none 2 (prs ps))] [] (fun r h' => r = .tup [.agg ((sd (foS code cap fuel (startS seed) (gp ps) ps.length)).map D.toC), .int .i64 0] ∧ h' = []) := by
  have hs := rstates_h code cap fuel seed ps hcl hg hl no
  have hL : (foL code cap fuel (startS seed) (gp ps) ps.length).length = ps.length + 1 := foL_len
  have hx : (foL code cap fuel (startS seed) (gp ps) ps.length).getD ps.length (stz 0 0) = foS code cap fuel (startS seed) (gp ps) ps.length := foL_last
  refine holds_of_awp Try.func14 rfl (by decide +kernel) mixed Try.ntmps14 Try.results14 ?_
  simp only [entrySt, List.map_cons, List.map_nil, List.length_cons, List.length_nil, Nat.reduceAdd, Nat.reduceSub, List.replicate_succ, List.replicate_zero, List.cons_append, List.nil_append]
  generalize foL code cap fuel (startS seed) (gp ps) ps.length = L at hs hL hx
  (refine zc ?_; try exact trivial)
  refine a_call [] (hs) ok0 ?_ ?_ ?_
  · (refine zs ?_; try exact trivial)
  · (refine zs ?_; try exact trivial)
  rintro _ _ ⟨rfl, rfl⟩
  have hz : ((L.length : Int) - 1).toNat = ps.length := by omega
  simp (maxSteps := 2000000) (disch := omega) only [go_sem, Nat.reduceAdd, Nat.reduceSub, Nat.reduceMul, Nat.reduceBEq, Nat.reduceEqDiff, Nat.reduceLT, Nat.reduceLeDiff, Nat.reduceDiv, reduceIte, reduceCtorEq, hz, hx]
  all_goals omega
end Go.Proofs.Ytamcjecgkfmjkaa

/- Chapter 18: a match that has begun. -/
open Go Go.RowKit
namespace Go.Proofs.Ytamcjecgkfmjkaa
set_option linter.unusedSimpArgs false
set_option linter.unusedVariables false
def begE : Ev := ⟨1, 3, 8, 0, 0, 1⟩
def begL : List (Int × Int) := [(2, 0), (16, 0), (4, 0), (3, 0)]
def begC (lim : Int) : Ct := (openP (ctNew begL lim 9) begE).add begE
theorem beg_g {lim : Int} (h1 : 1 ≤ lim) (h2 : lim ≤ 600) : gameP begL lim 9 = 0 := by
  have e : chkP begL = (0, 0) := by decide
  unfold gameP
  rw [e, if_neg (by simp), if_neg (by omega)]
@[go_sem] theorem ins_beg : ins begL = [.val (.int .i64 2), .val (.int .i64 0), .val (.int .i64 16), .val (.int .i64 0), .val (.int .i64 4), .val (.int .i64 0), .val (.int .i64 3), .val (.int .i64 0)] := nr rfl
theorem beg_1 {lim : Int} : mayP18 (ctNew begL lim 9) ⟨1, 3, 8, 0, 0, 1⟩ = 0 := rfl
set_option maxRecDepth 20000 in
set_option maxHeartbeats 4000000 in
theorem begun_h (lim : Int) (h1 : 1 ≤ lim) (h2 : lim ≤ 600) : Holds Try.prog 18 [.int .i64 lim] [] (fun r h' => r = .tup [.c (.ptr (.loc [14, 0, 14]) 0), .c (.val (.bool true))] ∧ h' = [(.loc [14, 0, 14], ctB (.loc [14, 0, 14]) (begC lim))]) := by
  have hA := applyY1_h (ctNew begL lim 9) (openP (ctNew begL lim 9) begE) 3 8 0 1 0 beg_1 (by show (0 : Nat) ≤ 1000000; omega) (open_h (ctNew begL lim 9) begE (by decide))
  have e1 : (openP (ctNew begL lim 9) begE).add ⟨1, 3, 8, 0, 0, 1⟩ = begC lim := rfl
  rw [e1] at hA
  have hn := new_ok18 begL lim 9 (by decide) (beg_g h1 h2)
  generalize ctNew begL lim 9 = c0 at hA hn
  generalize begC lim = c1 at hA ⊢
  refine holds_of_awp Try.func18 rfl (by decide +kernel) mixed Try.ntmps18 Try.results18 ?_
  simp only [entrySt, List.map_cons, List.map_nil, List.length_cons, List.length_nil, Nat.reduceAdd, Nat.reduceSub, List.replicate_succ, List.replicate_zero, List.cons_append, List.nil_append]
  (refine zs ?_; try exact trivial)
  refine a_call [] (hn) ok0 ?_ ?_ ?_
  · (refine zs ?_; try exact trivial)
  · (refine zs ?_; try exact trivial)
  rintro _ _ ⟨rfl, rfl⟩
  (refine zc ?_; try exact trivial)
  refine a_call [.loc [14, 0, 14]] (hA) (ok1 rfl) ?_ ?_ ?_
  · (refine zs ?_; try exact trivial)
  · (refine zs ?_; try exact trivial)
  rintro _ _ ⟨rfl, rfl⟩
  (refine zc ?_; try exact trivial)
@[go_sem ↓ 1200] theorem i64_and1 {a : Int} {V' : V → Prop} : aInt .and .i64 a .i64 1 V' = V' (.int .i64 (a % 2)) := by
  rw [e_and]
  have h : (BitVec.ofInt IntKind.i64.bits a &&& BitVec.ofInt IntKind.i64.bits 1).toNat = (a % 2).toNat := by
    show (BitVec.ofInt 64 a &&& BitVec.ofInt 64 1).toNat = _
    rw [BitVec.toNat_and, BitVec.toNat_ofInt, BitVec.toNat_ofInt]
    show ((a % ((2 ^ 64 : Nat) : Int)).toNat &&& 1) = _
    rw [Nat.and_one_is_mod]
    omega
  rw [h]
  have : a % 2 = 0 ∨ a % 2 = 1 := by omega
  rcases this with e | e <;> rw [e] <;> rfl
end Go.Proofs.Ytamcjecgkfmjkaa

/- The law ContestFold in the logic: the walk. -/
open Go Go.RowKit
namespace Go.Proofs.Ytamcjecgkfmjkaa
set_option linter.unusedSimpArgs false
set_option linter.unusedVariables false
def slowP (code : List (Int × Int)) (fuel : Int) : Bool := if 120 < (code.length : Int) then true else if 300 < fuel then decide (fuel ≤ 2000) else false
theorem slow_h (code : List (Int × Int)) (cap fuel : Int) : Holds Try.prog 9 [.game code cap fuel] [] (fun r h' => r = V.bool (slowP code fuel) ∧ h' = []) := by
  refine holds_of_awp Try.func9 rfl (by decide +kernel) mixed Try.ntmps9 Try.results9 ?_
  simp only [entrySt, List.map_cons, List.map_nil, List.length_cons, List.length_nil, Nat.reduceAdd, Nat.reduceSub, List.replicate_succ, List.replicate_zero, List.cons_append, List.nil_append]
  (refine zc ?_; try exact trivial)
  cases d1 : decide (120 < (code.length : Int))
  · cases d2 : decide (300 < fuel)
    · have e : slowP code fuel = false := by unfold slowP; rw [if_neg (of_decide_eq_false d1), if_neg (of_decide_eq_false d2)]
      rw [e]
      simp (maxSteps := 2000000) (disch := omega) only [go_sem, Nat.reduceAdd, Nat.reduceSub, Nat.reduceMul, Nat.reduceBEq, Nat.reduceEqDiff, Nat.reduceLT, Nat.reduceLeDiff, Nat.reduceDiv, reduceIte, reduceCtorEq, d1, d2]
    · have e : slowP code fuel = decide (fuel ≤ 2000) := by unfold slowP; rw [if_neg (of_decide_eq_false d1), if_pos (of_decide_eq_true d2)]
      rw [e]
      simp (maxSteps := 2000000) (disch := omega) only [go_sem, Nat.reduceAdd, Nat.reduceSub, Nat.reduceMul, Nat.reduceBEq, Nat.reduceEqDiff, Nat.reduceLT, Nat.reduceLeDiff, Nat.reduceDiv, reduceIte, reduceCtorEq, d1, d2]
  · have e : slowP code fuel = true := by unfold slowP; rw [if_pos (of_decide_eq_true d1)]
    rw [e]
    simp (maxSteps := 2000000) (disch := omega) only [go_sem, Nat.reduceAdd, Nat.reduceSub, Nat.reduceMul, Nat.reduceBEq, Nat.reduceEqDiff, Nat.reduceLT, Nat.reduceLeDiff, Nat.reduceDiv, reduceIte, reduceCtorEq, d1]
set_option maxRecDepth 20000 in
set_option maxHeartbeats 16000000 in
theorem contestFold_h (code : List (Int × Int)) (cap fuel seed : Int) (a b : List UInt16) (l : List Int) (hcl : code.length ≤ 9223372036854775807) :
    Holds Try.prog 3 [.game code cap fuel, .int .i64 seed, .c (.lst .no none 1 (ls fU a)), .c (.lst .no none 1 (ls fU b)), .c (.lst .no none 1 (ls fI l))] [] (fun r h' => r = V.bool true ∧ h' = []) := by
  refine holds_of_awp Try.func3 rfl (by decide +kernel) mixed Try.ntmps3 Try.results3 ?_
  simp only [entrySt, List.map_cons, List.map_nil, List.length_cons, List.length_nil, Nat.reduceAdd, Nat.reduceSub, List.replicate_succ, List.replicate_zero, List.cons_append, List.nil_append]
  (refine zc ?_; try exact trivial)
  refine a_call [] (slow_h code cap fuel) ok0 ?_ ?_ ?_
  · (refine zs ?_; try exact trivial)
  · (refine zs ?_; try exact trivial)
  rintro _ _ ⟨rfl, rfl⟩
  cases hs : slowP code fuel
  · (refine zc ?_; try exact trivial)
    refine a_call [] (rcheck10_h code cap fuel hcl) ok0 ?_ ?_ ?_
    · (refine zs ?_; try exact trivial)
    · (refine zs ?_; try exact trivial)
    rintro _ _ ⟨rfl, rfl⟩
    cases dg : decide (gameP code cap fuel = 0)
    · simp (maxSteps := 2000000) (disch := omega) only [go_sem, Nat.reduceAdd, Nat.reduceSub, Nat.reduceMul, Nat.reduceBEq, Nat.reduceEqDiff, Nat.reduceLT, Nat.reduceLeDiff, Nat.reduceDiv, reduceIte, reduceCtorEq, dg, decide_not, Bool.not_false]
      refine a_call [] (known_h18) ok0 ?_ ?_ ?_
      · (refine zs ?_; try exact trivial)
      · (refine zs ?_; try exact trivial)
      rintro _ _ ⟨rfl, rfl⟩
      (refine zs ?_; try exact trivial)
    · have hg := of_decide_eq_true dg
      rw [hg]
      cases d1 : decide (seed < 0)
      · cases d2 : decide (4294967295 < seed)
        · cases d3 : decide (60 < (a.length : Int))
          · cases d4 : decide (60 < (b.length : Int))
            · (refine zc ?_; try exact trivial)
              simp (maxSteps := 2000000) (disch := omega) only [go_sem, Nat.reduceAdd, Nat.reduceSub, Nat.reduceMul, Nat.reduceBEq, Nat.reduceEqDiff, Nat.reduceLT, Nat.reduceLeDiff, Nat.reduceDiv, reduceIte, reduceCtorEq, d1, d2, d3, d4]
              -- MAIN
              have h0 := of_decide_eq_false d1
              have h1 := of_decide_eq_false d2
              have h3 := of_decide_eq_false d3
              have h4 := of_decide_eq_false d4
              have hn := new_ok18 code cap fuel hcl hg
              have hA := fold_open code cap fuel seed (by omega) (by omega)
              have hF := fold_0 code cap fuel seed a b
              generalize ctSeed code cap fuel seed = c1 at hA hF
              generalize ctNew code cap fuel = c0 at hA hn
              refine a_call [] (hn) ok0 ?_ ?_ ?_
              · (refine zs ?_; try exact trivial)
              · (refine zs ?_; try exact trivial)
              rintro _ _ ⟨rfl, rfl⟩
              (refine zc ?_; try exact trivial)
              refine a_call [.loc [49, 0, 14]] (hA) (ok1 rfl) ?_ ?_ ?_
              · (refine zs ?_; try exact trivial)
              · (refine zs ?_; try exact trivial)
              rintro _ _ ⟨rfl, rfl⟩
              (refine zc ?_; try exact trivial)
              refine a_loopk (fun x : Nat × Nat × Nat × Ct => ⟨[.undef, V.int .i64 seed, V.cell (.lst .no none 1 (ls fU a)), V.cell (.lst .no none 1 (ls fU b)), V.cell (.lst .no none 1 (ls fI l)), V.cell (.ptr (.loc [5]) 0), .undef, .undef, .undef, .undef, .undef, V.cell (.ptr (.loc [49, 0, 14]) 0), .undef, V.int .i64 (x.2.1 : Int), V.int .i64 (x.2.2.1 : Int), V.int .i64 (x.1 : Int), .undef, .undef, .undef, .undef, .undef, .undef, .undef, .undef, .undef, .undef, .undef, .undef, .undef, .undef, .undef, .undef, .undef, .undef, .undef, .undef, .undef, .undef, .undef, .undef, .undef, .undef, .undef, .undef, .undef, .undef, .undef, .undef, .undef, .undef, .undef, .undef, .undef, .undef, .undef, .undef, .undef, .undef, .undef, .undef, .undef, .undef, .undef, .undef, .undef, .undef, .undef, .undef, .undef, .undef, .undef, .undef, .undef, .undef, .undef, .undef, .undef, .undef, .undef, .undef, .undef, .undef, .undef, .undef, .undef, .undef, .undef, .undef, .undef, .undef, .undef, .undef, .undef, .undef, .undef, .undef, .undef, .undef, .undef, .undef, .undef, .undef, .undef, .undef, .undef, .undef, .undef, .undef, .undef, .undef, .undef, .undef, .undef, .undef, .undef, .undef, .undef, .undef, .undef, .undef, .undef, .undef, .undef, .undef, .undef, .undef, .undef, .undef, .undef, .undef, .undef, .undef, .undef, .undef, .undef, .undef, .undef, .undef, .undef, .undef, .undef, .undef, .undef, .undef, .undef, .undef, .undef, .undef, .undef, .undef, .undef, .undef, .undef, .undef, .undef, .undef, .undef, .undef, .undef, .undef, .undef, .undef], [(.loc [49, 0, 14], ctB (.loc [49, 0, 14]) (x.2.2.2)), (.loc [5], [.lst .no none 2 (ins code), .val (.int .i64 cap), .val (.int .i64 fuel)])]⟩) (fun x => x.1 ≤ 300 ∧ Fold18 code cap fuel (UInt32.ofNat seed.toNat) a b x.2.1 x.2.2.1 x.2.2.2) (fun x => 300 - x.1) (0, 0, 0, c1) ⟨by omega, hF⟩ ?_ ?_
              · try (refine zs ?_; try exact trivial)
                all_goals trace_state
              · rintro ⟨n, i, k, c⟩ ⟨hn3, hF⟩
                simp only at hn3 hF ⊢
                clear hA hn
                have ia := hF.ia
                have kb := hF.kb
                (refine zs ?_; try exact trivial)
                cases g : decide ((n : Int) < 300)
                · simp (maxSteps := 2000000) (disch := omega) only [go_sem, Nat.reduceAdd, Nat.reduceSub, Nat.reduceMul, Nat.reduceBEq, Nat.reduceEqDiff, Nat.reduceLT, Nat.reduceLeDiff, Nat.reduceDiv, reduceIte, reduceCtorEq, g]
                  clear g
                  refine a_loopk (fun j : Nat => ⟨[.undef, V.int .i64 seed, V.cell (.lst .no none 1 (ls fU a)), V.cell (.lst .no none 1 (ls fU b)), V.cell (.lst .no none 1 (ls fI l)), V.cell (.ptr (.loc [5]) 0), .undef, .undef, .undef, .undef, .undef, V.cell (.ptr (.loc [49, 0, 14]) 0), .undef, V.int .i64 (i : Int), V.int .i64 (k : Int), .undef, .undef, V.cell (.lst (.tag (.slot [146])) none 2 (prs (pzs a b j))), V.int .i64 (j : Int), .undef, .undef, .undef, .undef, .undef, .undef, .undef, .undef, .undef, .undef, .undef, .undef, .undef, .undef, .undef, .undef, .undef, .undef, .undef, .undef, .undef, .undef, .undef, .undef, .undef, .undef, .undef, .undef, .undef, .undef, .undef, .undef, .undef, .undef, .undef, .undef, .undef, .undef, .undef, .undef, .undef, .undef, .undef, .undef, .undef, .undef, .undef, .undef, .undef, .undef, .undef, .undef, .undef, .undef, .undef, .undef, .undef, .undef, .undef, .undef, .undef, .undef, .undef, .undef, .undef, .undef, .undef, .undef, .undef, .undef, .undef, .undef, .undef, .undef, .undef, .undef, .undef, .undef, .undef, .undef, .undef, .undef, .undef, .undef, .undef, .undef, .undef, .undef, .undef, .undef, .undef, .undef, .undef, .undef, .undef, .undef, .undef, .undef, .undef, .undef, .undef, .undef, .undef, .undef, .undef, .undef, .undef, .undef, .undef, .undef, .undef, .undef, .undef, .undef, .undef, .undef, .undef, .undef, .undef, .undef, .undef, .undef, .undef, .undef, .undef, .undef, .undef, .undef, .undef, .undef, .undef, .undef, .undef, .undef, .undef, .undef, .undef, .undef, .undef, .undef, .undef, .undef, .undef], [(.loc [49, 0, 14], ctB (.loc [49, 0, 14]) (c)), (.loc [5], [.lst .no none 2 (ins code), .val (.int .i64 cap), .val (.int .i64 fuel)])]⟩) (fun j => j ≤ min i k) (min i k - ·) 0 (by omega) ?_ ?_
                  · have e0 : prs (pzs a b 0) = [] := rfl
                    rw [e0]
                    (refine zs ?_; try exact trivial)
                    all_goals exact nil_row rfl (by omega)
                  · intro j hj
                    (refine zs ?_; try exact trivial)
                    cases g1 : decide ((j : Int) < (i : Int))
                    · have q1 := of_decide_eq_false g1
                      have e : min i k = j := by omega
                      have hU : U32 (UInt32.ofNat seed.toNat) = seed := by unfold U32; rw [UInt32.toNat_ofNat']; omega
                      have hco : ∀ m, m ≤ j → foS code cap fuel (startS (UInt32.ofNat seed.toNat)) (gp (pzs a b j)) m = foS code cap fuel (startS (UInt32.ofNat seed.toNat)) (pz a b) m := fun m hm => foS_congr fun q hq => by
                        unfold gp pzs
                        rw [List.getD_eq_getElem?_getD]
                        simp [show q < j by omega]
                      have hp := rplay_h code cap fuel (UInt32.ofNat seed.toNat) (pzs a b j) hcl hg (by rw [pzs_len]; omega) (fun q hq => by rw [pzs_len] at hq; rw [hco q (by omega)]; exact hF.no q (by omega))
                      rw [pzs_len, hco j (by omega), ← e, ← hF.go.st, e] at hp
                      have hs := state_h c
                      generalize c.st = S at hp hs
                      simp (maxSteps := 2000000) (disch := omega) only [go_sem, Nat.reduceAdd, Nat.reduceSub, Nat.reduceMul, Nat.reduceBEq, Nat.reduceEqDiff, Nat.reduceLT, Nat.reduceLeDiff, Nat.reduceDiv, reduceIte, reduceCtorEq, g1]
                      refine a_call [] (hp) ok0 ?_ ?_ ?_
                      · (refine zs ?_; try exact trivial)
                      · (refine zs ?_; try exact trivial)
                      rintro _ _ ⟨rfl, rfl⟩
                      (refine zc ?_; try exact trivial)
                      refine a_drawC (⟨[.undef, .undef, .undef, .undef, .undef, .undef, .undef, .undef, .undef, .undef, V.bool true, .undef, .undef, .undef, .undef, .undef, .undef, .undef, .undef, .undef, .undef, .undef, .undef, .undef, .undef, .undef, .undef, .undef, .undef, .undef, .undef, .undef, .undef, .undef, .undef, .undef, .undef, .undef, .undef, .undef, .undef, .undef, .undef, .undef, .undef, .undef, .undef, .undef, .undef, .undef, .undef, .undef, .undef, .undef, .undef, .undef, .undef, .undef, .undef, .undef, .undef, .undef, .undef, .undef, .undef, .undef, .undef, .undef, .undef, .undef, .undef, .undef, .undef, .undef, .undef, .undef, .undef, .undef, .undef, .undef, .undef, .undef, .undef, .undef, .undef, .undef, .undef, .undef, .undef, .undef, .undef, .undef, .undef, .undef, .undef, .undef, .undef, .undef, .undef, .undef, .undef, .undef, .undef, .undef, .undef, .undef, .undef, .undef, .undef, .undef, .undef, .undef, .undef, .undef, .undef, .undef, .undef, .undef, .undef, .undef, .undef, .undef, .undef, .undef, .undef, .undef, .undef, .undef, .undef, .undef, .undef, .undef, .undef, .undef, .undef, .undef, .undef, .undef, .undef, .undef, .undef, .undef, .undef, .undef, .undef, .undef, .undef, .undef, .undef, .undef, .undef, .undef, .undef, .undef, .undef, .undef, .undef, .undef, .undef, .undef, .undef, .undef], []⟩) (.take 0 (.both [(1, .both [(2, .take 3 (.take 4 (.both [(5, .take 6 (.take 7 (.done)))])))]), (2, .both [(1, .take 3 (.take 4 (.both [(5, .take 6 (.take 7 (.done)))])))])])) (by kernel_rfl) (by kernel_rfl) ?_ ?_
                      · (refine zc ?_; try exact trivial)
                        repeat' (with_reducible apply And.intro)
                        all_goals (
                          refine a_call [.loc [49, 0, 14]] (hs) (ok1 rfl) ?_ ?_ ?_
                          · (refine zs ?_; try exact trivial)
                          · (refine zs ?_; try exact trivial)
                          rintro _ _ ⟨rfl, rfl⟩
                          (refine zc ?_; try exact trivial)
                          refine a_call [] (known_h18) ok0 ?_ ?_ ?_
                          · (refine zs ?_; try exact trivial)
                          · (refine zs ?_; try exact trivial)
                          rintro _ _ ⟨rfl, rfl⟩
                          (refine zc ?_; try exact trivial))
                      · (refine zc ?_; try exact trivial)
                    · have q1 := of_decide_eq_true g1
                      cases g2 : decide ((j : Int) < (k : Int))
                      · have q2 := of_decide_eq_false g2
                        have e : min i k = j := by omega
                        have hU : U32 (UInt32.ofNat seed.toNat) = seed := by unfold U32; rw [UInt32.toNat_ofNat']; omega
                        have hco : ∀ m, m ≤ j → foS code cap fuel (startS (UInt32.ofNat seed.toNat)) (gp (pzs a b j)) m = foS code cap fuel (startS (UInt32.ofNat seed.toNat)) (pz a b) m := fun m hm => foS_congr fun q hq => by
                          unfold gp pzs
                          rw [List.getD_eq_getElem?_getD]
                          simp [show q < j by omega]
                        have hp := rplay_h code cap fuel (UInt32.ofNat seed.toNat) (pzs a b j) hcl hg (by rw [pzs_len]; omega) (fun q hq => by rw [pzs_len] at hq; rw [hco q (by omega)]; exact hF.no q (by omega))
                        rw [pzs_len, hco j (by omega), ← e, ← hF.go.st, e] at hp
                        have hs := state_h c
                        generalize c.st = S at hp hs
                        simp (maxSteps := 2000000) (disch := omega) only [go_sem, Nat.reduceAdd, Nat.reduceSub, Nat.reduceMul, Nat.reduceBEq, Nat.reduceEqDiff, Nat.reduceLT, Nat.reduceLeDiff, Nat.reduceDiv, reduceIte, reduceCtorEq, g1, g2]
                        refine a_call [] (hp) ok0 ?_ ?_ ?_
                        · (refine zs ?_; try exact trivial)
                        · (refine zs ?_; try exact trivial)
                        rintro _ _ ⟨rfl, rfl⟩
                        (refine zc ?_; try exact trivial)
                        refine a_drawC (⟨[.undef, .undef, .undef, .undef, .undef, .undef, .undef, .undef, .undef, .undef, V.bool true, .undef, .undef, .undef, .undef, .undef, .undef, .undef, .undef, .undef, .undef, .undef, .undef, .undef, .undef, .undef, .undef, .undef, .undef, .undef, .undef, .undef, .undef, .undef, .undef, .undef, .undef, .undef, .undef, .undef, .undef, .undef, .undef, .undef, .undef, .undef, .undef, .undef, .undef, .undef, .undef, .undef, .undef, .undef, .undef, .undef, .undef, .undef, .undef, .undef, .undef, .undef, .undef, .undef, .undef, .undef, .undef, .undef, .undef, .undef, .undef, .undef, .undef, .undef, .undef, .undef, .undef, .undef, .undef, .undef, .undef, .undef, .undef, .undef, .undef, .undef, .undef, .undef, .undef, .undef, .undef, .undef, .undef, .undef, .undef, .undef, .undef, .undef, .undef, .undef, .undef, .undef, .undef, .undef, .undef, .undef, .undef, .undef, .undef, .undef, .undef, .undef, .undef, .undef, .undef, .undef, .undef, .undef, .undef, .undef, .undef, .undef, .undef, .undef, .undef, .undef, .undef, .undef, .undef, .undef, .undef, .undef, .undef, .undef, .undef, .undef, .undef, .undef, .undef, .undef, .undef, .undef, .undef, .undef, .undef, .undef, .undef, .undef, .undef, .undef, .undef, .undef, .undef, .undef, .undef, .undef, .undef, .undef, .undef, .undef, .undef, .undef], []⟩) (.take 0 (.both [(1, .both [(2, .take 3 (.take 4 (.both [(5, .take 6 (.take 7 (.done)))])))]), (2, .both [(1, .take 3 (.take 4 (.both [(5, .take 6 (.take 7 (.done)))])))])])) (by kernel_rfl) (by kernel_rfl) ?_ ?_
                        · (refine zc ?_; try exact trivial)
                          repeat' (with_reducible apply And.intro)
                          all_goals (
                            refine a_call [.loc [49, 0, 14]] (hs) (ok1 rfl) ?_ ?_ ?_
                            · (refine zs ?_; try exact trivial)
                            · (refine zs ?_; try exact trivial)
                            rintro _ _ ⟨rfl, rfl⟩
                            (refine zc ?_; try exact trivial)
                            refine a_call [] (known_h18) ok0 ?_ ?_ ?_
                            · (refine zs ?_; try exact trivial)
                            · (refine zs ?_; try exact trivial)
                            rintro _ _ ⟨rfl, rfl⟩
                            (refine zc ?_; try exact trivial))
                        · (refine zc ?_; try exact trivial)
                      · have q2 := of_decide_eq_true g2
                        simp (maxSteps := 2000000) (disch := omega) only [go_sem, Nat.reduceAdd, Nat.reduceSub, Nat.reduceMul, Nat.reduceBEq, Nat.reduceEqDiff, Nat.reduceLT, Nat.reduceLeDiff, Nat.reduceDiv, reduceIte, reduceCtorEq, g1, g2]
                        refine a_drawC (⟨[.undef, V.int .i64 seed, V.cell (.lst .no none 1 (ls fU a)), V.cell (.lst .no none 1 (ls fU b)), V.cell (.lst .no none 1 (ls fI l)), V.cell (.ptr (.loc [5]) 0), .undef, .undef, .undef, .undef, .undef, V.cell (.ptr (.loc [49, 0, 14]) 0), .undef, V.int .i64 (i : Int), V.int .i64 (k : Int), .undef, .undef, V.cell (.lst (.tag (.slot [146])) none 2 (prs (pzs a b (j + 1)))), V.int .i64 (j : Int), .undef, .undef, .undef, .undef, .undef, .undef, .undef, .undef, .undef, .undef, .undef, .undef, .undef, .undef, .undef, .undef, .undef, .undef, .undef, .undef, .undef, .undef, .undef, .undef, .undef, .undef, .undef, .undef, .undef, .undef, .undef, .undef, .undef, .undef, .undef, .undef, .undef, .undef, .undef, .undef, .undef, .undef, .undef, .undef, .undef, .undef, .undef, .undef, .undef, .undef, .undef, .undef, .undef, .undef, .undef, .undef, .undef, .undef, .undef, .undef, .undef, .undef, .undef, .undef, .undef, .undef, .undef, .undef, .undef, .undef, .undef, .undef, .undef, .undef, .undef, .undef, .undef, .undef, .undef, .undef, .undef, .undef, .undef, .undef, .undef, .undef, .undef, .undef, .undef, .undef, .undef, .undef, .undef, .undef, .undef, .undef, .undef, .undef, .undef, .undef, .undef, .undef, .undef, .undef, .undef, .undef, .undef, .undef, .undef, .undef, .undef, .undef, .undef, .undef, .undef, .undef, .undef, .undef, .undef, .undef, .undef, .undef, .undef, .undef, .undef, .undef, .undef, .undef, .undef, .undef, .undef, .undef, .undef, .undef, .undef, .undef, .undef, .undef, .undef, .undef, .undef, .undef, .undef], [(.loc [49, 0, 14], ctB (.loc [49, 0, 14]) (c)), (.loc [5], [.lst .no none 2 (ins code), .val (.int .i64 cap), .val (.int .i64 fuel)])]⟩) (.take 0 (.take 1 (.take 2 (.take 3 (.take 5 (.take 6 (.take 7 (.both [(4, .both [(8, .both [(9, .both [(10, .both [(11, .take 12 (.done))])])])]), (8, .both [(4, .both [(9, .both [(10, .both [(11, .take 12 (.done))])])])])])))))))) (by kernel_rfl) (by kernel_rfl) ?_ ?_
                        · rw [pzs_succ]
                          (refine zc ?_; try exact trivial)
                          all_goals exact ⟨by rw [pzs_len]; omega, rfl⟩
                        · (refine zc ?_; try exact trivial)
                          refine ⟨j + 1, by omega, by omega, ?_⟩
                          try (refine zc ?_; try exact trivial)
                          all_goals trace_state
                · have g' := of_decide_eq_true g
                  simp (maxSteps := 2000000) (disch := omega) only [go_sem, Nat.reduceAdd, Nat.reduceSub, Nat.reduceMul, Nat.reduceBEq, Nat.reduceEqDiff, Nat.reduceLT, Nat.reduceLeDiff, Nat.reduceDiv, reduceIte, reduceCtorEq, g]
                  refine c_dec (fun q => ?_) (fun q => ?_)
                  all_goals (refine zs ?_; try exact trivial)
                  all_goals refine c_dec (fun z => ?_) (fun z => ?_)
                  · (refine zs ?_; try exact trivial)
                    cases gi : decide ((i : Int) < (a.length : Int))
                    · simp (maxSteps := 2000000) (disch := omega) only [go_sem, Nat.reduceAdd, Nat.reduceSub, Nat.reduceMul, Nat.reduceBEq, Nat.reduceEqDiff, Nat.reduceLT, Nat.reduceLeDiff, Nat.reduceDiv, reduceIte, reduceCtorEq, gi]
                      have f1 := hF.far
                      have k1 : decide ((k : Int) + 8 < (i : Int)) = false := decide_eq_false (by omega)
                      have k2 : decide ((i : Int) + 8 < (k : Int)) = false := decide_eq_false (by omega)
                      simp (maxSteps := 2000000) (disch := omega) only [go_sem, Nat.reduceAdd, Nat.reduceSub, Nat.reduceMul, Nat.reduceBEq, Nat.reduceEqDiff, Nat.reduceLT, Nat.reduceLeDiff, Nat.reduceDiv, reduceIte, reduceCtorEq, k1, k2]
                      refine ⟨(n + 1, i, k, c), by omega, ⟨by omega, hF⟩, ?_⟩
                      try (refine zs ?_; try exact trivial)
                      all_goals exact leCs_refl _
                    · have hi : i < a.length := by have := of_decide_eq_true gi; omega
                      simp (maxSteps := 2000000) (disch := omega) only [go_sem, Nat.reduceAdd, Nat.reduceSub, Nat.reduceMul, Nat.reduceBEq, Nat.reduceEqDiff, Nat.reduceLT, Nat.reduceLeDiff, Nat.reduceDiv, reduceIte, reduceCtorEq, gi]
                      by_cases hm : mayP18 c ⟨3, 5, 0, (i : Int), a.getD i 0, 0⟩ = 0
                      · have hy := hF.y0 hg (by omega) (by omega) hi hm
                        have hF' := hF.in0 hi hm
                        generalize (inputP c ⟨3, 5, 0, (i : Int), a.getD i 0, 0⟩).add ⟨3, 5, 0, (i : Int), a.getD i 0, 0⟩ = c' at hy hF'
                        refine a_call [.loc [49, 0, 14]] (hy) (ok1 rfl) ?_ ?_ ?_
                        · (refine zs ?_; try exact trivial)
                        · (refine zs ?_; try exact trivial)
                        rintro _ _ ⟨rfl, rfl⟩
                        (refine zc ?_; try exact trivial)
                        have f1 := hF'.far
                        have k1 : decide ((k : Int) + 8 < (i : Int) + 1) = false := decide_eq_false (by omega)
                        have k2 : decide ((i : Int) + 1 + 8 < (k : Int)) = false := decide_eq_false (by omega)
                        simp (maxSteps := 2000000) (disch := omega) only [go_sem, Nat.reduceAdd, Nat.reduceSub, Nat.reduceMul, Nat.reduceBEq, Nat.reduceEqDiff, Nat.reduceLT, Nat.reduceLeDiff, Nat.reduceDiv, reduceIte, reduceCtorEq, k1, k2]
                        refine ⟨(n + 1, i + 1, k, c'), by omega, ⟨by omega, hF'⟩, ?_⟩
                        try (refine zs ?_; try exact trivial)
                        all_goals exact leCs_refl _
                      · have hy := hF.n0 (by omega) (by omega) hm
                        have dm : decide (mayP18 c ⟨3, 5, 0, (i : Int), a.getD i 0, 0⟩ = 0) = false := decide_eq_false hm
                        refine a_call [.loc [49, 0, 14]] (hy) (ok1 rfl) ?_ ?_ ?_
                        · (refine zs ?_; try exact trivial)
                        · (refine zs ?_; try exact trivial)
                        rintro _ _ ⟨rfl, rfl⟩
                        simp (maxSteps := 2000000) (disch := omega) only [go_sem, Nat.reduceAdd, Nat.reduceSub, Nat.reduceMul, Nat.reduceBEq, Nat.reduceEqDiff, Nat.reduceLT, Nat.reduceLeDiff, Nat.reduceDiv, reduceIte, reduceCtorEq, dm]
                        have f1 := hF.far
                        have k1 : decide ((k : Int) + 8 < (i : Int)) = false := decide_eq_false (by omega)
                        have k2 : decide ((i : Int) + 8 < (k : Int)) = false := decide_eq_false (by omega)
                        simp (maxSteps := 2000000) (disch := omega) only [go_sem, Nat.reduceAdd, Nat.reduceSub, Nat.reduceMul, Nat.reduceBEq, Nat.reduceEqDiff, Nat.reduceLT, Nat.reduceLeDiff, Nat.reduceDiv, reduceIte, reduceCtorEq, k1, k2]
                        refine ⟨(n + 1, i, k, c), by omega, ⟨by omega, hF⟩, ?_⟩
                        try (refine zs ?_; try exact trivial)
                        all_goals exact leCs_refl _
                  · (refine zs ?_; try exact trivial)
                    cases gi : decide ((k : Int) < (b.length : Int))
                    · simp (maxSteps := 2000000) (disch := omega) only [go_sem, Nat.reduceAdd, Nat.reduceSub, Nat.reduceMul, Nat.reduceBEq, Nat.reduceEqDiff, Nat.reduceLT, Nat.reduceLeDiff, Nat.reduceDiv, reduceIte, reduceCtorEq, gi]
                      have f1 := hF.far
                      have k1 : decide ((k : Int) + 8 < (i : Int)) = false := decide_eq_false (by omega)
                      have k2 : decide ((i : Int) + 8 < (k : Int)) = false := decide_eq_false (by omega)
                      simp (maxSteps := 2000000) (disch := omega) only [go_sem, Nat.reduceAdd, Nat.reduceSub, Nat.reduceMul, Nat.reduceBEq, Nat.reduceEqDiff, Nat.reduceLT, Nat.reduceLeDiff, Nat.reduceDiv, reduceIte, reduceCtorEq, k1, k2]
                      refine ⟨(n + 1, i, k, c), by omega, ⟨by omega, hF⟩, ?_⟩
                      try (refine zs ?_; try exact trivial)
                      all_goals exact leCs_refl _
                    · have hi : k < b.length := by have := of_decide_eq_true gi; omega
                      simp (maxSteps := 2000000) (disch := omega) only [go_sem, Nat.reduceAdd, Nat.reduceSub, Nat.reduceMul, Nat.reduceBEq, Nat.reduceEqDiff, Nat.reduceLT, Nat.reduceLeDiff, Nat.reduceDiv, reduceIte, reduceCtorEq, gi]
                      by_cases hm : mayP18 c ⟨3, 4, 0, (k : Int), b.getD k 0, 0⟩ = 0
                      · have hy := hF.y1 hg (by omega) (by omega) hi hm
                        have hF' := hF.in1 hi hm
                        generalize (inputP c ⟨3, 4, 0, (k : Int), b.getD k 0, 0⟩).add ⟨3, 4, 0, (k : Int), b.getD k 0, 0⟩ = c' at hy hF'
                        refine a_call [.loc [49, 0, 14]] (hy) (ok1 rfl) ?_ ?_ ?_
                        · (refine zs ?_; try exact trivial)
                        · (refine zs ?_; try exact trivial)
                        rintro _ _ ⟨rfl, rfl⟩
                        (refine zc ?_; try exact trivial)
                        have f1 := hF'.far
                        have k1 : decide ((k : Int) + 1 + 8 < (i : Int)) = false := decide_eq_false (by omega)
                        have k2 : decide ((i : Int) + 8 < (k : Int) + 1) = false := decide_eq_false (by omega)
                        simp (maxSteps := 2000000) (disch := omega) only [go_sem, Nat.reduceAdd, Nat.reduceSub, Nat.reduceMul, Nat.reduceBEq, Nat.reduceEqDiff, Nat.reduceLT, Nat.reduceLeDiff, Nat.reduceDiv, reduceIte, reduceCtorEq, k1, k2]
                        refine ⟨(n + 1, i, k + 1, c'), by omega, ⟨by omega, hF'⟩, ?_⟩
                        try (refine zs ?_; try exact trivial)
                        all_goals exact leCs_refl _
                      · have hy := hF.n1 (by omega) (by omega) hm
                        have dm : decide (mayP18 c ⟨3, 4, 0, (k : Int), b.getD k 0, 0⟩ = 0) = false := decide_eq_false hm
                        refine a_call [.loc [49, 0, 14]] (hy) (ok1 rfl) ?_ ?_ ?_
                        · (refine zs ?_; try exact trivial)
                        · (refine zs ?_; try exact trivial)
                        rintro _ _ ⟨rfl, rfl⟩
                        simp (maxSteps := 2000000) (disch := omega) only [go_sem, Nat.reduceAdd, Nat.reduceSub, Nat.reduceMul, Nat.reduceBEq, Nat.reduceEqDiff, Nat.reduceLT, Nat.reduceLeDiff, Nat.reduceDiv, reduceIte, reduceCtorEq, dm]
                        have f1 := hF.far
                        have k1 : decide ((k : Int) + 8 < (i : Int)) = false := decide_eq_false (by omega)
                        have k2 : decide ((i : Int) + 8 < (k : Int)) = false := decide_eq_false (by omega)
                        simp (maxSteps := 2000000) (disch := omega) only [go_sem, Nat.reduceAdd, Nat.reduceSub, Nat.reduceMul, Nat.reduceBEq, Nat.reduceEqDiff, Nat.reduceLT, Nat.reduceLeDiff, Nat.reduceDiv, reduceIte, reduceCtorEq, k1, k2]
                        refine ⟨(n + 1, i, k, c), by omega, ⟨by omega, hF⟩, ?_⟩
                        try (refine zs ?_; try exact trivial)
                        all_goals exact leCs_refl _
                  · (refine zs ?_; try exact trivial)
                    cases gi : decide ((i : Int) < (a.length : Int))
                    · simp (maxSteps := 2000000) (disch := omega) only [go_sem, Nat.reduceAdd, Nat.reduceSub, Nat.reduceMul, Nat.reduceBEq, Nat.reduceEqDiff, Nat.reduceLT, Nat.reduceLeDiff, Nat.reduceDiv, reduceIte, reduceCtorEq, gi]
                      have f1 := hF.far
                      have k1 : decide ((k : Int) + 8 < (i : Int)) = false := decide_eq_false (by omega)
                      have k2 : decide ((i : Int) + 8 < (k : Int)) = false := decide_eq_false (by omega)
                      simp (maxSteps := 2000000) (disch := omega) only [go_sem, Nat.reduceAdd, Nat.reduceSub, Nat.reduceMul, Nat.reduceBEq, Nat.reduceEqDiff, Nat.reduceLT, Nat.reduceLeDiff, Nat.reduceDiv, reduceIte, reduceCtorEq, k1, k2]
                      refine ⟨(n + 1, i, k, c), by omega, ⟨by omega, hF⟩, ?_⟩
                      try (refine zs ?_; try exact trivial)
                      all_goals exact leCs_refl _
                    · have hi : i < a.length := by have := of_decide_eq_true gi; omega
                      simp (maxSteps := 2000000) (disch := omega) only [go_sem, Nat.reduceAdd, Nat.reduceSub, Nat.reduceMul, Nat.reduceBEq, Nat.reduceEqDiff, Nat.reduceLT, Nat.reduceLeDiff, Nat.reduceDiv, reduceIte, reduceCtorEq, gi]
                      by_cases hm : mayP18 c ⟨3, 5, 0, (i : Int), a.getD i 0, 0⟩ = 0
                      · have hy := hF.y0 hg (by omega) (by omega) hi hm
                        have hF' := hF.in0 hi hm
                        generalize (inputP c ⟨3, 5, 0, (i : Int), a.getD i 0, 0⟩).add ⟨3, 5, 0, (i : Int), a.getD i 0, 0⟩ = c' at hy hF'
                        refine a_call [.loc [49, 0, 14]] (hy) (ok1 rfl) ?_ ?_ ?_
                        · (refine zs ?_; try exact trivial)
                        · (refine zs ?_; try exact trivial)
                        rintro _ _ ⟨rfl, rfl⟩
                        (refine zc ?_; try exact trivial)
                        have f1 := hF'.far
                        have k1 : decide ((k : Int) + 8 < (i : Int) + 1) = false := decide_eq_false (by omega)
                        have k2 : decide ((i : Int) + 1 + 8 < (k : Int)) = false := decide_eq_false (by omega)
                        simp (maxSteps := 2000000) (disch := omega) only [go_sem, Nat.reduceAdd, Nat.reduceSub, Nat.reduceMul, Nat.reduceBEq, Nat.reduceEqDiff, Nat.reduceLT, Nat.reduceLeDiff, Nat.reduceDiv, reduceIte, reduceCtorEq, k1, k2]
                        refine ⟨(n + 1, i + 1, k, c'), by omega, ⟨by omega, hF'⟩, ?_⟩
                        try (refine zs ?_; try exact trivial)
                        all_goals exact leCs_refl _
                      · have hy := hF.n0 (by omega) (by omega) hm
                        have dm : decide (mayP18 c ⟨3, 5, 0, (i : Int), a.getD i 0, 0⟩ = 0) = false := decide_eq_false hm
                        refine a_call [.loc [49, 0, 14]] (hy) (ok1 rfl) ?_ ?_ ?_
                        · (refine zs ?_; try exact trivial)
                        · (refine zs ?_; try exact trivial)
                        rintro _ _ ⟨rfl, rfl⟩
                        simp (maxSteps := 2000000) (disch := omega) only [go_sem, Nat.reduceAdd, Nat.reduceSub, Nat.reduceMul, Nat.reduceBEq, Nat.reduceEqDiff, Nat.reduceLT, Nat.reduceLeDiff, Nat.reduceDiv, reduceIte, reduceCtorEq, dm]
                        have f1 := hF.far
                        have k1 : decide ((k : Int) + 8 < (i : Int)) = false := decide_eq_false (by omega)
                        have k2 : decide ((i : Int) + 8 < (k : Int)) = false := decide_eq_false (by omega)
                        simp (maxSteps := 2000000) (disch := omega) only [go_sem, Nat.reduceAdd, Nat.reduceSub, Nat.reduceMul, Nat.reduceBEq, Nat.reduceEqDiff, Nat.reduceLT, Nat.reduceLeDiff, Nat.reduceDiv, reduceIte, reduceCtorEq, k1, k2]
                        refine ⟨(n + 1, i, k, c), by omega, ⟨by omega, hF⟩, ?_⟩
                        try (refine zs ?_; try exact trivial)
                        all_goals exact leCs_refl _
                  · (refine zs ?_; try exact trivial)
                    cases gi : decide ((k : Int) < (b.length : Int))
                    · simp (maxSteps := 2000000) (disch := omega) only [go_sem, Nat.reduceAdd, Nat.reduceSub, Nat.reduceMul, Nat.reduceBEq, Nat.reduceEqDiff, Nat.reduceLT, Nat.reduceLeDiff, Nat.reduceDiv, reduceIte, reduceCtorEq, gi]
                      have f1 := hF.far
                      have k1 : decide ((k : Int) + 8 < (i : Int)) = false := decide_eq_false (by omega)
                      have k2 : decide ((i : Int) + 8 < (k : Int)) = false := decide_eq_false (by omega)
                      simp (maxSteps := 2000000) (disch := omega) only [go_sem, Nat.reduceAdd, Nat.reduceSub, Nat.reduceMul, Nat.reduceBEq, Nat.reduceEqDiff, Nat.reduceLT, Nat.reduceLeDiff, Nat.reduceDiv, reduceIte, reduceCtorEq, k1, k2]
                      refine ⟨(n + 1, i, k, c), by omega, ⟨by omega, hF⟩, ?_⟩
                      try (refine zs ?_; try exact trivial)
                      all_goals exact leCs_refl _
                    · have hi : k < b.length := by have := of_decide_eq_true gi; omega
                      simp (maxSteps := 2000000) (disch := omega) only [go_sem, Nat.reduceAdd, Nat.reduceSub, Nat.reduceMul, Nat.reduceBEq, Nat.reduceEqDiff, Nat.reduceLT, Nat.reduceLeDiff, Nat.reduceDiv, reduceIte, reduceCtorEq, gi]
                      by_cases hm : mayP18 c ⟨3, 4, 0, (k : Int), b.getD k 0, 0⟩ = 0
                      · have hy := hF.y1 hg (by omega) (by omega) hi hm
                        have hF' := hF.in1 hi hm
                        generalize (inputP c ⟨3, 4, 0, (k : Int), b.getD k 0, 0⟩).add ⟨3, 4, 0, (k : Int), b.getD k 0, 0⟩ = c' at hy hF'
                        refine a_call [.loc [49, 0, 14]] (hy) (ok1 rfl) ?_ ?_ ?_
                        · (refine zs ?_; try exact trivial)
                        · (refine zs ?_; try exact trivial)
                        rintro _ _ ⟨rfl, rfl⟩
                        (refine zc ?_; try exact trivial)
                        have f1 := hF'.far
                        have k1 : decide ((k : Int) + 1 + 8 < (i : Int)) = false := decide_eq_false (by omega)
                        have k2 : decide ((i : Int) + 8 < (k : Int) + 1) = false := decide_eq_false (by omega)
                        simp (maxSteps := 2000000) (disch := omega) only [go_sem, Nat.reduceAdd, Nat.reduceSub, Nat.reduceMul, Nat.reduceBEq, Nat.reduceEqDiff, Nat.reduceLT, Nat.reduceLeDiff, Nat.reduceDiv, reduceIte, reduceCtorEq, k1, k2]
                        refine ⟨(n + 1, i, k + 1, c'), by omega, ⟨by omega, hF'⟩, ?_⟩
                        try (refine zs ?_; try exact trivial)
                        all_goals exact leCs_refl _
                      · have hy := hF.n1 (by omega) (by omega) hm
                        have dm : decide (mayP18 c ⟨3, 4, 0, (k : Int), b.getD k 0, 0⟩ = 0) = false := decide_eq_false hm
                        refine a_call [.loc [49, 0, 14]] (hy) (ok1 rfl) ?_ ?_ ?_
                        · (refine zs ?_; try exact trivial)
                        · (refine zs ?_; try exact trivial)
                        rintro _ _ ⟨rfl, rfl⟩
                        simp (maxSteps := 2000000) (disch := omega) only [go_sem, Nat.reduceAdd, Nat.reduceSub, Nat.reduceMul, Nat.reduceBEq, Nat.reduceEqDiff, Nat.reduceLT, Nat.reduceLeDiff, Nat.reduceDiv, reduceIte, reduceCtorEq, dm]
                        have f1 := hF.far
                        have k1 : decide ((k : Int) + 8 < (i : Int)) = false := decide_eq_false (by omega)
                        have k2 : decide ((i : Int) + 8 < (k : Int)) = false := decide_eq_false (by omega)
                        simp (maxSteps := 2000000) (disch := omega) only [go_sem, Nat.reduceAdd, Nat.reduceSub, Nat.reduceMul, Nat.reduceBEq, Nat.reduceEqDiff, Nat.reduceLT, Nat.reduceLeDiff, Nat.reduceDiv, reduceIte, reduceCtorEq, k1, k2]
                        refine ⟨(n + 1, i, k, c), by omega, ⟨by omega, hF⟩, ?_⟩
                        try (refine zs ?_; try exact trivial)
                        all_goals exact leCs_refl _
              -- END MAIN
            · (refine zc ?_; try exact trivial)
              simp (maxSteps := 2000000) (disch := omega) only [go_sem, Nat.reduceAdd, Nat.reduceSub, Nat.reduceMul, Nat.reduceBEq, Nat.reduceEqDiff, Nat.reduceLT, Nat.reduceLeDiff, Nat.reduceDiv, reduceIte, reduceCtorEq, d1, d2, d3, d4]
              refine a_call [] (known_h18) ok0 ?_ ?_ ?_
              · (refine zs ?_; try exact trivial)
              · (refine zs ?_; try exact trivial)
              rintro _ _ ⟨rfl, rfl⟩
              (refine zs ?_; try exact trivial)
          · (refine zc ?_; try exact trivial)
            simp (maxSteps := 2000000) (disch := omega) only [go_sem, Nat.reduceAdd, Nat.reduceSub, Nat.reduceMul, Nat.reduceBEq, Nat.reduceEqDiff, Nat.reduceLT, Nat.reduceLeDiff, Nat.reduceDiv, reduceIte, reduceCtorEq, d1, d2, d3]
            refine a_call [] (known_h18) ok0 ?_ ?_ ?_
            · (refine zs ?_; try exact trivial)
            · (refine zs ?_; try exact trivial)
            rintro _ _ ⟨rfl, rfl⟩
            (refine zs ?_; try exact trivial)
        · (refine zc ?_; try exact trivial)
          simp (maxSteps := 2000000) (disch := omega) only [go_sem, Nat.reduceAdd, Nat.reduceSub, Nat.reduceMul, Nat.reduceBEq, Nat.reduceEqDiff, Nat.reduceLT, Nat.reduceLeDiff, Nat.reduceDiv, reduceIte, reduceCtorEq, d1, d2]
          refine a_call [] (known_h18) ok0 ?_ ?_ ?_
          · (refine zs ?_; try exact trivial)
          · (refine zs ?_; try exact trivial)
          rintro _ _ ⟨rfl, rfl⟩
          (refine zs ?_; try exact trivial)
      · (refine zc ?_; try exact trivial)
        simp (maxSteps := 2000000) (disch := omega) only [go_sem, Nat.reduceAdd, Nat.reduceSub, Nat.reduceMul, Nat.reduceBEq, Nat.reduceEqDiff, Nat.reduceLT, Nat.reduceLeDiff, Nat.reduceDiv, reduceIte, reduceCtorEq, d1]
        refine a_call [] (known_h18) ok0 ?_ ?_ ?_
        · (refine zs ?_; try exact trivial)
        · (refine zs ?_; try exact trivial)
        rintro _ _ ⟨rfl, rfl⟩
        (refine zs ?_; try exact trivial)
  · (refine zc ?_; try exact trivial)
    refine a_call [] (known_h18) ok0 ?_ ?_ ?_
    · (refine zs ?_; try exact trivial)
    · (refine zs ?_; try exact trivial)
    rintro _ _ ⟨rfl, rfl⟩
    (refine zs ?_; try exact trivial)
end Go.Proofs.Ytamcjecgkfmjkaa

/- The row of the law gauntletlaw18.ContestFold. -/
open Go Go.RowKit Go.ChangeShapes Go.WideShapes Go.ChangeAt
namespace Go.Proofs.Ytamcjecgkfmjkaa.contestFold
set_option linter.unusedVariables false
set_option maxRecDepth 100000 in
theorem lifted (os : Os) (started : os.Started) (H : Type) (enc : TypeId × Value → H) :
    ReturnsInHanded {} Try.checked os 3 .any (Rows.contestFoldSpec.pre6 enc Try.prog Try.f3 Rows.contestFoldRow.domain false) (Rows.contestFoldSpec.post enc Try.prog Try.f3 false true false false) := by
  refine returnsInHanded_of_change_sized (C := Try.checked) rowOwn started (by kernel_rfl) Try.func3
    (ChangeSpec.witness6 (enc := enc) (C := Try.checked) false ⟨#[], #[.agg #[.slice none 0 0, .int .i64 0, .int .i64 0], .int .i64 0, .slice none 0 0, .slice none 0 0, .slice none 0 0], []⟩ 8 (by kernel_rfl) (by kernel_rfl) (by kernel_rfl) (by kernel_rfl)) ?_
  intro W base args ds gs before hval0 hW hcnd hsz0 _
  have hsz : (DataW.weightsEach Try.prog (Try.f3.params.toList ++ Rows.contestFoldSpec.plain.varTypes Try.prog) (ds ++ gs)).all (· ≤ reachBytes) = true := hsz0
  have hval : ∀ (j : Nat) t v, Try.f3.params[j]? = some t → args[j]? = some v → Value.okWide Try.prog W .any base t v := hval0
  have hW' := hW
  obtain ⟨p, q, hA0, hV, rfl, hfz, hnd⟩ := hW
  have hA : DataW.TrodAll enc Try.prog W 0 (fun _ => true) true Try.f3.params.toList args.toList ds p := hA0
  rw [Try.params3] at hA hval hsz
  obtain ⟨v0, vs0, d0, ds0, pp0, q0, hargs, rfl, rfl, h0, r0⟩ := trodAll_cons hA
  obtain ⟨v1, vs1, d1, ds1, pp1, q1, rfl, rfl, rfl, h1, r1⟩ := trodAll_cons r0
  obtain ⟨v2, vs2, d2, ds2, pp2, q2, rfl, rfl, rfl, h2, r2⟩ := trodAll_cons r1
  obtain ⟨v3, vs3, d3, ds3, pp3, q3, rfl, rfl, rfl, h3, r3⟩ := trodAll_cons r2
  obtain ⟨v4, vs4, d4, ds4, pp4, q4, rfl, rfl, rfl, h4, r4⟩ := trodAll_cons r3
  obtain ⟨rfl, rfl, rfl⟩ := trodAll_nil r4
  obtain rfl : args = #[v0, v1, v2, v3, v4] := by cases args; simp_all
  obtain ⟨rfl, rfl⟩ := trodVars_none hV
  have k0 := h0
  have lt0 := places_lt h0
  obtain ⟨code0, cap0, fu0, hr0, hl0, hb0, hf0⟩ := open_game (hval 0 24 v0 rfl rfl) h0
  have k1 := h1
  have lt1 := places_lt h1
  obtain ⟨z1, hr1, hlo1, hhi1⟩ := open_i64n Try.underlying3 (hval 1 3 v1 rfl rfl) h1
  have k2 := h2
  have lt2 := places_lt h2
  obtain ⟨l2, hr2, hl2⟩ := open_u16s (hval 2 25 v2 rfl rfl) h2
  have k3 := h3
  have lt3 := places_lt h3
  obtain ⟨l3, hr3, hl3⟩ := open_u16s (hval 3 25 v3 rfl rfl) h3
  have k4 := h4
  have lt4 := places_lt h4
  obtain ⟨l4, hr4, hl4, hb4⟩ := open_ints' (hval 4 26 v4 rfl rfl) h4
  clear hA0 hval0 hsz0 hsz
  refine ((contestFold_h code0 cap0 fu0 z1 l2 l3 l4 hl0).calls W (globNone rfl W) (.cons hr0 (.cons hr1 (.cons hr2 (.cons hr3 (.cons hr4 .nil)))))).mono fun e W' ⟨he, kept⟩ => ?_
  have bel := kept.below
  subst he
  exact ⟨_, rfl, _, _, _, [], _, [], hW', trodAll_mk1 (shut_bool Try.underlying4 _), (trodAll_cons_mk (Below.trod rowLaid (by kernel_rfl) (of_decide_eq_true (by kernel_rfl)) k0 bel lt0) (trodAll_cons_mk (Below.trod rowLaid (by kernel_rfl) (of_decide_eq_true (by kernel_rfl)) k1 bel lt1) (trodAll_cons_mk (Below.trod rowLaid (by kernel_rfl) (of_decide_eq_true (by kernel_rfl)) k2 bel lt2) (trodAll_cons_mk (Below.trod rowLaid (by kernel_rfl) (of_decide_eq_true (by kernel_rfl)) k3 bel lt3) (trodAll_cons_mk (Below.trod rowLaid (by kernel_rfl) (of_decide_eq_true (by kernel_rfl)) k4 bel lt4) trodAll_mk0))))), rfl, bel.frame _, fun h => by cases h⟩
theorem over : Rows.contestFoldRow.holds Try.pinned (OpenSpec.ofChange Rows.contestFoldSpec) :=
  OpenClaim.holds_of_wide 3 Try.f3 rfl rfl rfl rfl rfl rfl rfl ⟨rfl, rfl, rfl, rfl, rfl⟩ rfl rfl rfl rfl rfl (by kernel_rfl) Try.func3 (by kernel_rfl)
    (of_decide_eq_true (by kernel_rfl)) (by unfold Func.isWrapper; first | (rw [if_pos (by decide +kernel)]; kernel_rfl) | (rw [if_neg (by decide +kernel)]; exact ⟨rfl, rfl⟩))
    (fun os started H enc _ => lifted os started H enc)
end Go.Proofs.Ytamcjecgkfmjkaa.contestFold
namespace Go.Proofs.Ytamcjecgkfmjkaa
/-- The row. -/
theorem contestFold_holds : Rows.ContestFoldSaid := contestFold.over
#print axioms contestFold_holds
end Go.Proofs.Ytamcjecgkfmjkaa
