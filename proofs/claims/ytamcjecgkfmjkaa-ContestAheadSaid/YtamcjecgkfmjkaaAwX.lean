/- The logic: calls. -/
import Derived.Test.YtamcjecgkfmjkaaAwV
open Go Go.RowKit
namespace Go.Proofs.Ytamcjecgkfmjkaa
set_option linter.unusedSimpArgs false

/-! ### a callee's names in the caller -/
def renI (ks : List Id) (d : Nat) : Id → Id
  | .arg k => (ks[k]?).getD (.loc (d :: 1 :: [k]))
  | .loc p => .loc (d :: 0 :: p)
def renT (ks : List Id) (d : Nat) : Tag → Tag
  | .slot p => .slot (d :: 0 :: p)
  | .made p => .made (d :: 0 :: p)
  | .bslot t p => .bslot t (d :: 0 :: p)
  | .bcell t i o => .bcell t (renI ks d i) o
  | .cell i o => .cell (renI ks d i) o
def C.ren (ks : List Id) (d : Nat) : C → C
  | .lst (.tag t) nl sz xs => .lst (.tag (renT ks d t)) nl sz xs
  | .ptr i o => .ptr (renI ks d i) o
  | .row i o n c => .row (renI ks d i) o n c
  | .fn f x y => .fn f (x.map fun p => (renI ks d p.1, p.2)) (y.map fun p => (renI ks d p.1, p.2))
  | x => x
def W.ren (ks : List Id) (d : Nat) : W → W
  | .c x => .c (x.ren ks d)
  | .agg cs => .agg (cs.map (C.ren ks d))
def V.ren (ks : List Id) (d : Nat) : V → V
  | .w x => .w (x.ren ks d)
  | .tup xs => .tup (xs.map (W.ren ks d))

def okKs (ks : List Id) (d : Nat) : Prop := ks.Nodup ∧ ∀ i ∈ ks, rootI d i = false
theorem rootI_ren {ks : List Id} {d : Nat} {i : Id} (h : ∀ k, i = .arg k → ks.length ≤ k) : rootI d (renI ks d i) = true := by
  cases i with
  | arg k => simp [renI, List.getElem?_eq_none (h k rfl), rootI]
  | loc p => simp [renI, rootI]
theorem renI_inj {ks : List Id} {d : Nat} (hk : okKs ks d) {i j : Id} (h : renI ks d i = renI ks d j) : i = j := by
  have key : ∀ k q, (ks[k]?).getD (.loc (d :: 1 :: [k])) = .loc (d :: q) → ks.length ≤ k := by
    intro k q h
    rcases Nat.lt_or_ge k ks.length with hlt | hge
    · rw [List.getElem?_eq_getElem hlt, Option.getD_some] at h
      have := hk.2 _ (List.getElem_mem hlt)
      rw [h] at this
      simp [rootI] at this
    · exact hge
  cases i with
  | arg k =>
    cases j with
    | arg l =>
      simp only [renI] at h
      rcases Nat.lt_or_ge k ks.length with h1 | h1 <;> rcases Nat.lt_or_ge l ks.length with h2 | h2
      · rw [List.getElem?_eq_getElem h1, List.getElem?_eq_getElem h2, Option.getD_some, Option.getD_some] at h
        have := (List.getElem_inj hk.1).1 h
        rw [this]
      · rw [List.getElem?_eq_none h2, Option.getD_none] at h
        have := key k _ h; omega
      · rw [List.getElem?_eq_none h1, Option.getD_none] at h
        have := key l _ h.symm; omega
      · rw [List.getElem?_eq_none h1, List.getElem?_eq_none h2] at h
        simp at h
        rw [h]
    | loc q =>
      simp only [renI] at h
      have := key k _ h
      rw [List.getElem?_eq_none this] at h
      simp at h
  | loc p =>
    cases j with
    | arg l =>
      simp only [renI] at h
      have := key l _ h.symm
      rw [List.getElem?_eq_none this] at h
      simp at h
    | loc q => simp only [renI] at h; injection h with h; injection h with _ h; injection h with _ h; rw [h]
theorem renT_inj {ks : List Id} {d : Nat} (hk : okKs ks d) {t u : Tag} (h : renT ks d t = renT ks d u) : t = u := by
  cases t <;> cases u <;> simp only [renT] at h <;> first
    | (injection h with h; injection h with _ h; injection h with _ h; rw [h])
    | (injection h with h1 h2; rw [renI_inj hk h1, h2])
    | (injection h with h0 h; injection h with _ h; injection h with _ h; rw [h0, h])
    | (injection h with h0 h1 h2; rw [h0, renI_inj hk h1, h2])
    | cases h

theorem renT_lax (ks : List Id) (d : Nat) (t : Tag) : (renT ks d t).lax = t.lax := by cases t <;> rfl
theorem renT_ty (ks : List Id) (d : Nat) (t : Tag) : (renT ks d t).ty = t.ty := by cases t <;> rfl
/-- two memories say the same of names that are carried over -/
theorem RelC.ren {g g' : Gh} {ks : List Id} {d : Nat} (hM : ∀ a v, g.M a = some v → g'.M a = some v) (hB : ∀ i, g'.B (renI ks d i) = g.B i) (hO : ∀ t, g'.O (renT ks d t) = g.O t) {c : C} {y : Value} (h : RelC g c y) : RelC g' (c.ren ks d) y := by
  cases c with
  | undef => trivial
  | val x => exact h
  | lst o nl sz xs =>
    cases o with
    | no => exact ⟨h.1.mono hM, trivial⟩
    | full => exact ⟨h.1.mono hM, h.2⟩
    | tag t =>
      refine ⟨h.1.mono hM, ?_⟩
      show (_ ∧ RelF y) ∨ _
      rw [hO, renT_lax, renT_ty]
      exact h.2
  | ptr i o => show y = _; rw [hB]; exact h
  | mem xs => obtain ⟨a, h1, h2⟩ := h; exact ⟨a, h1, h2.mono hM⟩
  | row i o n c => show y = _; rw [hB]; exact h
  | typ => exact h
  | ifc => exact h
  | fn f x z =>
    show y = _
    have e : ∀ l : List (Id × Nat), (l.map fun p => (renI ks d p.1, p.2)).map (pv g'.B) = l.map (pv g.B) := fun l => by
      rw [List.map_map]
      exact List.map_congr_left fun p _ => by simp [pv, hB]
    rw [e, e]
    exact h
theorem RelW.ren {g g' : Gh} {ks : List Id} {d : Nat} (hM : ∀ a v, g.M a = some v → g'.M a = some v) (hB : ∀ i, g'.B (renI ks d i) = g.B i) (hO : ∀ t, g'.O (renT ks d t) = g.O t) {c : W} {y : Value} (h : RelW g c y) : RelW g' (c.ren ks d) y := by
  cases c with
  | c x => exact RelC.ren hM hB hO h
  | agg cs => obtain ⟨ys, h1, h2⟩ := h; exact ⟨ys, h1, h2.map fun _ _ h => RelC.ren hM hB hO h⟩
theorem RelV.ren {g g' : Gh} {ks : List Id} {d : Nat} (hM : ∀ a v, g.M a = some v → g'.M a = some v) (hB : ∀ i, g'.B (renI ks d i) = g.B i) (hO : ∀ t, g'.O (renT ks d t) = g.O t) {c : V} {y : Value} (h : RelV g c y) : RelV g' (c.ren ks d) y := by
  cases c with
  | w x => exact RelW.ren hM hB hO h
  | tup cs => obtain ⟨ys, h1, h2⟩ := h; exact ⟨ys, h1, h2.map fun _ _ h => RelW.ren hM hB hO h⟩
/-- and back -/
theorem RelC.unren {g g' : Gh} {ks : List Id} {d : Nat} (hM : g'.M = g.M) (hB : ∀ i, g'.B i = g.B (renI ks d i)) (hO : ∀ t, g'.O t = g.O (renT ks d t)) {c : C} {y : Value} (h : RelC g (c.ren ks d) y) : RelC g' c y := by
  cases c with
  | undef => trivial
  | val x => exact h
  | lst o nl sz xs =>
    cases o with
    | no => exact ⟨by rw [hM]; exact h.1, trivial⟩
    | full => exact ⟨by rw [hM]; exact h.1, h.2⟩
    | tag t =>
      refine ⟨by rw [hM]; exact h.1, ?_⟩
      show (_ ∧ RelF y) ∨ _
      rw [hO, ← renT_lax ks d, ← renT_ty ks d]
      exact h.2
  | ptr i o => show y = _; rw [hB]; exact h
  | mem xs => obtain ⟨a, h1, h2⟩ := h; exact ⟨a, h1, by rw [hM]; exact h2⟩
  | row i o n c => show y = _; rw [hB]; exact h
  | typ => exact h
  | ifc => exact h
  | fn f x z =>
    show y = _
    have e : ∀ l : List (Id × Nat), l.map (pv g'.B) = (l.map fun p => (renI ks d p.1, p.2)).map (pv g.B) := fun l => by
      rw [List.map_map]
      exact List.map_congr_left fun p _ => by simp [pv, hB]
    rw [e, e]
    exact h
theorem RelW.unren {g g' : Gh} {ks : List Id} {d : Nat} (hM : g'.M = g.M) (hB : ∀ i, g'.B i = g.B (renI ks d i)) (hO : ∀ t, g'.O t = g.O (renT ks d t)) {c : W} {y : Value} (h : RelW g (c.ren ks d) y) : RelW g' c y := by
  cases c with
  | c x => exact RelC.unren hM hB hO h
  | agg cs =>
    obtain ⟨ys, h1, h2⟩ := h
    refine ⟨ys, h1, All2.of_get (by have := h2.length; simpa using this) fun i c y hc hy => ?_⟩
    obtain ⟨y', hy', hr⟩ := h2.get (i := i) (a := c.ren ks d) (by simp [hc])
    rw [hy] at hy'
    cases hy'
    exact RelC.unren hM hB hO hr

/-! ### less said -/
def Own.lax : Own → Bool
  | .tag t => t.lax
  | _ => true
def leC : C → C → Prop
  | .undef, _ => True
  | .lst o' nl' sz' xs', .lst o nl sz xs => (o' = o ∨ o' = .no ∨ o = .full ∧ o'.lax = true) ∧ (nl' = nl ∨ nl' = none) ∧ (sz' = sz ∨ xs = [] ∧ 0 < sz' ∧ (o' = .no ∨ o = .full ∧ o'.lax = true)) ∧ xs' = xs
  | a, b => a = b
def leCs : List C → List C → Prop
  | [], [] => True
  | a :: l, b :: m => leC a b ∧ leCs l m
  | _, _ => False
def leW : W → W → Prop
  | .c .undef, _ => True
  | .c x, .c y => leC x y
  | .agg cs, .agg ds => leCs cs ds
  | _, _ => False
def leWs : List W → List W → Prop
  | [], [] => True
  | a :: l, b :: m => leW a b ∧ leWs l m
  | _, _ => False
def leV : V → V → Prop
  | .w (.c .undef), _ => True
  | .w x, .w y => leW x y
  | .tup xs, .tup ys => leWs xs ys
  | _, _ => False
def leL : List V → List V → Prop
  | [], [] => True
  | a :: l, b :: m => leV a b ∧ leL l m
  | _, _ => False
def leH (h' h : Heap) : Prop := ∀ i cs, hget h' i = some cs → ∃ ds, hget h i = some ds ∧ leCs cs ds
theorem leC_refl (c : C) : leC c c := by
  cases c with
  | lst => exact ⟨.inl rfl, .inl rfl, .inl rfl, rfl⟩
  | undef => trivial
  | _ => exact (rfl : _ = _)
theorem leCs_refl (l : List C) : leCs l l := by
  induction l with
  | nil => trivial
  | cons c l ih => exact ⟨leC_refl c, ih⟩
theorem leW_refl (x : W) : leW x x := by
  cases x with
  | c x => cases x with
    | undef => trivial
    | lst => exact ⟨.inl rfl, .inl rfl, .inl rfl, rfl⟩
    | _ => exact (rfl : _ = _)
  | agg cs => exact leCs_refl cs
theorem leWs_refl (l : List W) : leWs l l := by
  induction l with
  | nil => trivial
  | cons c l ih => exact ⟨leW_refl c, ih⟩
theorem leV_refl (x : V) : leV x x := by
  cases x with
  | w x => cases x with
    | c x => cases x with
      | undef => trivial
      | lst => exact ⟨.inl rfl, .inl rfl, .inl rfl, rfl⟩
      | _ => exact (rfl : _ = _)
    | agg cs => exact leCs_refl cs
  | tup xs => exact leWs_refl xs
theorem leH_refl (h : Heap) : leH h h := fun _ cs hi => ⟨cs, hi, leCs_refl cs⟩
section
variable {g : Gh}
theorem leC_rel {a b : C} {y : Value} (h : leC a b) (hr : RelC g b y) : RelC g a y := by
  unfold leC at h
  split at h
  · trivial
  · obtain ⟨h1, h2, h3, rfl⟩ := h
    obtain ⟨hr1, hr2⟩ := hr
    rename_i o' nl' sz' xs o nl sz
    have key : RelD g.M (.lst nl' sz' xs) y := by
      obtain ⟨hp, hy⟩ := RelD.lst_inv hr1
      rcases hy with ⟨rfl, rfl, hn⟩ | ⟨ad, n, c, rfl, hn, hl, hc, hm, hM⟩
      · refine .nil ?_ ?_
        · rcases h2 with rfl | rfl
          · exact hn
          · simp
        · rcases h3 with rfl | ⟨_, h, _⟩
          · exact hp
          · exact h
      · refine RelD.mk ?_ ?_ ?_ hc hm hM
        · rcases h2 with rfl | rfl
          · exact hn
          · simp
        · rcases h3 with rfl | ⟨_, h, _⟩
          · exact hp
          · exact h
        · rcases h3 with rfl | ⟨h, _, _⟩
          · exact hl
          · subst h
            have : n = 0 := by
              rcases Nat.eq_zero_or_pos n with h | h
              · exact h
              · have := Nat.mul_pos h hp; simp at hl; omega
            subst this; simp
    have fullCase : o = .full ∧ o'.lax = true → RelO g.O o' sz' y := fun ⟨e, hx⟩ => by
      subst e
      cases o' with
      | no => trivial
      | full => exact hr2
      | tag t => exact .inl ⟨hx, hr2⟩
    rcases h1 with rfl | rfl | h1
    · rcases h3 with rfl | ⟨_, _, h | h⟩
      · exact ⟨key, hr2⟩
      · subst h; exact ⟨key, trivial⟩
      · exact ⟨key, fullCase h⟩
    · exact ⟨key, trivial⟩
    · exact ⟨key, fullCase h1⟩
  · rw [h]; exact hr
theorem leCs_rel {l m : List C} : ∀ {ys : List Value}, leCs l m → All2 (RelC g) m ys → All2 (RelC g) l ys := by
  induction l generalizing m with
  | nil => intro ys h hr; cases m with
    | nil => exact hr
    | cons _ _ => exact h.elim
  | cons a l ih => intro ys h hr; cases m with
    | nil => exact h.elim
    | cons b m =>
      obtain ⟨y, ys', rfl, h1, h2⟩ := hr.cons_inv
      exact .cons (leC_rel h.1 h1) (ih h.2 h2)
theorem leW_rel {a b : W} {y : Value} (h : leW a b) (hr : RelW g b y) : RelW g a y := by
  unfold leW at h
  split at h
  · trivial
  · exact leC_rel h hr
  · obtain ⟨ys, h1, h2⟩ := hr; exact ⟨ys, h1, leCs_rel h h2⟩
  · exact h.elim
theorem leWs_rel {l m : List W} : ∀ {ys : List Value}, leWs l m → All2 (RelW g) m ys → All2 (RelW g) l ys := by
  induction l generalizing m with
  | nil => intro ys h hr; cases m with
    | nil => exact hr
    | cons _ _ => exact h.elim
  | cons a l ih => intro ys h hr; cases m with
    | nil => exact h.elim
    | cons b m =>
      obtain ⟨y, ys', rfl, h1, h2⟩ := hr.cons_inv
      exact .cons (leW_rel h.1 h1) (ih h.2 h2)
theorem leV_rel {a b : V} {y : Value} (h : leV a b) (hr : RelV g b y) : RelV g a y := by
  unfold leV at h
  split at h
  · trivial
  · exact leW_rel h hr
  · obtain ⟨ys, h1, h2⟩ := hr; exact ⟨ys, h1, leWs_rel h h2⟩
  · exact h.elim
theorem leL_rel {l m : List V} : ∀ {ys : List Value}, leL l m → All2 (RelV g) m ys → All2 (RelV g) l ys := by
  induction l generalizing m with
  | nil => intro ys h hr; cases m with
    | nil => exact hr
    | cons _ _ => exact h.elim
  | cons a l ih => intro ys h hr; cases m with
    | nil => exact h.elim
    | cons b m =>
      obtain ⟨y, ys', rfl, h1, h2⟩ := hr.cons_inv
      exact .cons (leV_rel h.1 h1) (ih h.2 h2)
theorem leC_typ {b : C} {τ : TypeId} (h : leC (.typ τ) b) : b = .typ τ := by
  cases b <;> simp only [leC] at h <;> first | exact h.symm | cases h
theorem leCs_mem {τ : TypeId} : ∀ {l m : List C}, leCs l m → C.typ τ ∈ l → C.typ τ ∈ m
  | [], _, _, h => by cases h
  | a :: l, [], h, _ => h.elim
  | a :: l, b :: m, h, hm => by
    rcases List.mem_cons.1 hm with e | e
    · subst e
      rw [leC_typ h.1]
      simp
    · exact List.mem_cons_of_mem _ (leCs_mem h.2 e)
theorem tyOK.le {t : TypeId} {l m : List C} (hm : tyOK t m) (h : leCs l m) : tyOK t l := hm.sub fun _ hτ => leCs_mem h hτ
theorem WI.le {h h' : Heap} {w : World} (hw : WI g h w) (hs : leH h' h) : WI g h' w := by
  refine ⟨hw.mem, fun i cs hi => ?_, fun i j cs ds hi hj e => ?_, fun i cs ad v hi ha => ?_, hw.own, fun t r i cs ht hi => ?_, hw.ownI⟩
  · obtain ⟨ds, h1, h2⟩ := hs i cs hi
    obtain ⟨ys, t, h3, h4⟩ := hw.box i ds h1
    exact ⟨ys, t, h3, leCs_rel h2 h4.1, h4.2.le h2⟩
  · obtain ⟨_, h1, _⟩ := hs i cs hi
    obtain ⟨_, h2, _⟩ := hs j ds hj
    exact hw.inj i j _ _ h1 h2 e
  · obtain ⟨_, h1, _⟩ := hs i cs hi
    exact hw.boxM i _ ad v h1 ha
  · obtain ⟨_, h1, _⟩ := hs i cs hi
    exact hw.ownB t r i _ ht h1
theorem Cum.le {E : Entry} {h h' : Heap} {w : World} (hc : Cum E g h w) (hs : leH h' h) : Cum E g h' w := by
  refine ⟨hc.os, hc.tape, hc.output, hc.size, hc.unch, ?_, hc.mem, hc.memN, hc.argB⟩
  rintro k (⟨i, cs, hi, rfl⟩ | h)
  · obtain ⟨ds, h1, _⟩ := hs i cs hi
    exact hc.foot _ (.inl ⟨i, ds, h1, rfl⟩)
  · exact hc.foot _ (.inr h)
def leS (s' s : St) : Prop := leL s'.slots s.slots ∧ leH s'.heap s.heap
theorem leL_refl (l : List V) : leL l l := by
  induction l with
  | nil => trivial
  | cons c l ih => exact ⟨leV_refl c, ih⟩
theorem leS_refl (s : St) : leS s s := ⟨leL_refl _, leH_refl _⟩
theorem Sim.le {E : Entry} {s s' : St} {a : Act} {w : World} (hs : Sim E g s a w) (h : leS s' s) : Sim E g s' a w :=
  ⟨leL_rel h.1 hs.slots, hs.defers, hs.wi.le h.2, hs.cum.le h.2⟩
end
/-! ### another name for what owns a row -/
def retT (a b : Tag) (t : Tag) : Own := if t = a then (if (b.lax = true ∨ a.lax = false) ∧ b.ty = none then .tag b else .no) else if t = b then .no else .tag t
def C.retag (a b : Tag) : C → C
  | .lst (.tag t) nl sz xs => .lst (retT a b t) nl sz xs
  | x => x
def W.retag (a b : Tag) : W → W
  | .c x => .c (x.retag a b)
  | .agg cs => .agg (cs.map (C.retag a b))
def V.retag (a b : Tag) : V → V
  | .w x => .w (x.retag a b)
  | .tup xs => .tup (xs.map (W.retag a b))
def hretag (a b : Tag) : Heap → Heap
  | [] => []
  | (j, cs) :: h => (j, cs.map (C.retag a b)) :: hretag a b h
def St.retag (a b : Tag) (s : St) : St := ⟨s.slots.map (V.retag a b), hretag a b s.heap⟩
theorem hget_hretag (a b : Tag) (h : Heap) (i : Id) : hget (hretag a b h) i = (hget h i).map (List.map (C.retag a b)) := by
  induction h with
  | nil => rfl
  | cons p h ih =>
    obtain ⟨k, c⟩ := p
    simp only [hretag, hget]
    split
    · rfl
    · exact ih
def Gh.retag (a b : Tag) (g : Gh) : Gh := ⟨g.M, g.B, fun t => if t = b then g.O a else if t = a then none else g.O t⟩
section
variable {g : Gh} {τ υ : Tag}
theorem retag_typ {a b : Tag} (c : C) (τ : TypeId) (h : c.retag a b = .typ τ) : c = .typ τ := by
  cases c with
  | lst o nl sz xs => cases o <;> cases h
  | typ t => exact h
  | undef => cases h
  | val => cases h
  | mem => cases h
  | ptr => cases h
  | row => cases h
  | fn => cases h
  | ifc => cases h
theorem RelC.retag {c : C} {y : Value} (h : RelC g c y) : RelC (g.retag τ υ) (c.retag τ υ) y := by
  cases c with
  | lst o nl sz xs =>
    cases o with
    | no => exact ⟨h.1, trivial⟩
    | full => exact ⟨h.1, h.2⟩
    | tag t =>
      obtain ⟨h1, h2⟩ := h
      show RelC _ (.lst (retT τ υ t) nl sz xs) y
      unfold retT
      split
      · rename_i e
        subst e
        split
        · rename_i hx
          obtain ⟨hx, hxt⟩ := hx
          refine ⟨h1, ?_⟩
          show (_ ∧ RelF y) ∨ _
          rcases h2 with ⟨h2, h3⟩ | ⟨r, h2, h3, h4⟩
          · refine .inl ⟨?_, h3⟩
            rcases hx with hx | hx
            · exact hx
            · rw [h2] at hx; cases hx
          · exact .inr ⟨r, by simpa [Gh.retag] using h2, ⟨h3.1, fun q hq => by rw [hxt] at hq; cases hq⟩, h4⟩
        · exact ⟨h1, trivial⟩
      · split
        · exact ⟨h1, trivial⟩
        · rename_i e1 e2
          refine ⟨h1, ?_⟩
          show (_ ∧ RelF y) ∨ _
          rcases h2 with h2 | h2
          · exact .inl h2
          · refine .inr ?_
            simpa [Gh.retag, e1, e2] using h2
  | _ => exact h
theorem RelW.retag {c : W} {y : Value} (h : RelW g c y) : RelW (g.retag τ υ) (c.retag τ υ) y := by
  cases c with
  | c x => exact RelC.retag h
  | agg cs => obtain ⟨ys, h1, h2⟩ := h; exact ⟨ys, h1, h2.map fun _ _ h => RelC.retag h⟩
theorem RelV.retag {c : V} {y : Value} (h : RelV g c y) : RelV (g.retag τ υ) (c.retag τ υ) y := by
  cases c with
  | w x => exact RelW.retag h
  | tup cs => obtain ⟨ys, h1, h2⟩ := h; exact ⟨ys, h1, h2.map fun _ _ h => RelW.retag h⟩
theorem retag_O {t : Tag} {r : Rec} (h : (g.retag τ υ).O t = some r) : ∃ t', g.O t' = some r ∧ (t = υ ∧ t' = τ ∨ t ≠ υ ∧ t ≠ τ ∧ t' = t) := by
  simp only [Gh.retag] at h
  split at h
  · rename_i e; exact ⟨_, h, .inl ⟨e, rfl⟩⟩
  · split at h
    · cases h
    · rename_i e1 e2; exact ⟨_, h, .inr ⟨e1, e2, rfl⟩⟩
theorem WI.retag {h : Heap} {w : World} (hw : WI g h w) : WI (g.retag τ υ) (hretag τ υ h) w := by
  have hb : ∀ i cs, hget (hretag τ υ h) i = some cs → ∃ ds, hget h i = some ds ∧ cs = ds.map (C.retag τ υ) := by
    intro i cs hi
    rw [hget_hretag] at hi
    cases hq : hget h i with
    | none => rw [hq] at hi; cases hi
    | some ds => rw [hq] at hi; exact ⟨ds, rfl, by simpa using hi.symm⟩
  refine ⟨hw.mem, ?_, ?_, ?_, ?_, ?_, ?_⟩
  · intro i cs hi
    obtain ⟨ds, h1, rfl⟩ := hb i cs hi
    obtain ⟨ys, t, h2, h3⟩ := hw.box i ds h1
    exact ⟨ys, t, h2, h3.1.map fun _ _ h => RelC.retag h, h3.2.mapf retag_typ⟩
  · intro i j cs ds hi hj e
    obtain ⟨_, h1, _⟩ := hb i cs hi
    obtain ⟨_, h2, _⟩ := hb j ds hj
    exact hw.inj i j _ _ h1 h2 e
  · intro i cs ad v hi ha
    obtain ⟨_, h1, _⟩ := hb i cs hi
    exact hw.boxM i _ ad v h1 ha
  · intro t r ht
    obtain ⟨t', h1, _⟩ := retag_O ht
    exact hw.own t' r h1
  · intro t r i cs ht hi
    obtain ⟨t', h1, _⟩ := retag_O ht
    obtain ⟨_, h2, _⟩ := hb i cs hi
    exact hw.ownB t' r i _ h1 h2
  · intro t u r q h1 h2 e
    obtain ⟨t', h3, h4⟩ := retag_O h1
    obtain ⟨u', h5, h6⟩ := retag_O h2
    have := hw.ownI _ _ _ _ h3 h5 e
    rcases h4 with ⟨rfl, rfl⟩ | ⟨a, b, rfl⟩ <;> rcases h6 with ⟨rfl, rfl⟩ | ⟨c, d, rfl⟩ <;> simp_all
theorem Sim.retag {E : Entry} {s : St} {a : Act} {w : World} (hs : Sim E g s a w) (τ υ : Tag) : Sim E (g.retag τ υ) (s.retag τ υ) a w := by
  refine ⟨hs.slots.map fun _ _ h => RelV.retag h, hs.defers, hs.wi.retag, ?_⟩
  have hc := hs.cum
  refine ⟨hc.os, hc.tape, hc.output, hc.size, hc.unch, ?_, hc.mem, hc.memN, hc.argB⟩
  rintro k (⟨i, cs, hi, rfl⟩ | ⟨t, r, ht, rfl⟩)
  · simp only [St.retag] at hi
    rw [hget_hretag] at hi
    cases hq : hget s.heap i with
    | none => rw [hq] at hi; cases hi
    | some ds => exact hc.foot _ (.inl ⟨i, ds, hq, rfl⟩)
  · obtain ⟨t', h1, _⟩ := retag_O ht
    exact hc.foot _ (.inr ⟨t', r, h1, rfl⟩)
end
def St.retags : List (Tag × Tag) → St → St
  | [], s => s
  | p :: l, s => St.retags l (s.retag p.1 p.2)
def V.retags : List (Tag × Tag) → V → V
  | [], v => v
  | p :: l, v => V.retags l (v.retag p.1 p.2)
/-- arguments as a contract wants them -/
def leA (ks : List Id) (d : Nat) : List W → List V → Prop
  | [], [] => True
  | x :: l, .w y :: m => leW (x.ren ks d) y ∧ leA ks d l m
  | _, _ => False

/-! ### what a function does -/
def Callable (P : Program) (f : FuncId) : Prop := ∀ (args : Array Value) (w : World), (callFunc f args).run P w = .ok (.enter f args) w
def Holds (P : Program) (f : FuncId) (args : List W) (h : Heap) (R : V → Heap → Prop) : Prop :=
  Callable P f ∧ ∀ (g : Gh) (w : World) (xs : List Value), GlobOK g.M → All2 (RelW g) args xs → WI g h w →
    Calls P f xs.toArray w fun e w' => ∃ x v h' g', e = .returned x ∧ R v h' ∧ RelV g' v x ∧ WI g' h' w' ∧ Cum (entry g h w) g' h' w'
theorem Holds.mono {P : Program} {f : FuncId} {args : List W} {h : Heap} {R R' : V → Heap → Prop} (H : Holds P f args h R) (hr : ∀ v h', R v h' → R' v h') : Holds P f args h R' :=
  ⟨H.1, fun g w xs hG ha hw => (H.2 g w xs hG ha hw).mono fun _ _ ⟨x, v, h', g', h1, h2, h3⟩ => ⟨x, v, h', g', h1, hr _ _ h2, h3⟩⟩

/-- the caller's heap behind a call -/
def bornT (ks : List Id) (d : Nat) : Tag → Bool := fun t => rootT d t || (match t with
  | .cell i _ => ks.contains i
  | .bcell _ i _ => ks.contains i
  | _ => false)
def hkeep (ks : List Id) : Heap → Heap
  | [] => []
  | (j, cs) :: h => if ks.contains j then hkeep ks h else (j, cs) :: hkeep ks h
def hren (ks : List Id) (d : Nat) : Heap → Heap
  | [] => []
  | (j, cs) :: h => (renI ks d j, cs.map (C.ren ks d)) :: hren ks d h
def St.back (s : St) (ks : List Id) (d : Nat) (h' : Heap) : St :=
  ⟨s.slots.map (V.clean (rootI d) (bornT ks d)), hren ks d h' ++ hkeep ks (hclean (rootI d) (bornT ks d) s.heap)⟩
def aCall0 (P : Program) (f : FuncId) (args : List V) (d : Nat) (s : St) (K : V → St → Prop) : Prop :=
  ∃ (ks : List Id) (args' : List W) (hl : Heap) (R : V → Heap → Prop), Holds P f args' hl R ∧ okKs ks d ∧
    leA ks d args' args ∧
    (∀ i cs, hget hl i = some cs → ∃ k j ds, i = .arg k ∧ ks[k]? = some j ∧ hget s.heap j = some ds ∧ leCs (cs.map (C.ren ks d)) ds) ∧
    ∀ v h', R v h' → K (v.ren ks d) (s.back ks d h')

/-! ### a box that is written no more -/
def C.frz (i : Id) (sz : Nat) (ds : List D) : C → C
  | .row j off n c => if j = i then (if 0 < sz ∧ n ≤ c ∧ c ≤ maxLen ∧ off + n * sz ≤ ds.length then .lst .no (some false) sz ((ds.drop off).take (n * sz)) else .undef) else .row j off n c
  | .ptr j off => if j = i then .undef else .ptr j off
  | .fn f first caps => if first.any (fun p => p.1 == i) || caps.any (fun p => p.1 == i) then .undef else .fn f first caps
  | x => x
def W.frz (i : Id) (sz : Nat) (ds : List D) : W → W
  | .c x => .c (x.frz i sz ds)
  | .agg cs => .agg (cs.map (C.frz i sz ds))
def V.frz (i : Id) (sz : Nat) (ds : List D) : V → V
  | .w x => .w (x.frz i sz ds)
  | .tup xs => .tup (xs.map (W.frz i sz ds))
def hfrz (i : Id) (sz : Nat) (ds : List D) : Heap → Heap
  | [] => []
  | (j, cs) :: h => if j = i then hfrz i sz ds h else (j, cs.map (C.frz i sz ds)) :: hfrz i sz ds h
def St.frz (i : Id) (sz : Nat) (ds : List D) (s : St) : St := ⟨s.slots.map (V.frz i sz ds), hfrz i sz ds s.heap⟩
/-- the box holds these data ahead -/
def frzOK (s : St) (i : Id) (ds : List D) : Prop := ∃ cs, hget s.heap i = some cs ∧ ds.length ≤ cs.length ∧ allD (cs.take ds.length) = some ds
def aCallT (P : Program) (f : FuncId) (args : List V) (d : Nat) (s : St) (K : V → St → Prop) : Prop :=
  ∃ rt : List (Tag × Tag), aCall0 P f (args.map (V.retags rt)) d (s.retags rt) K
def aCallF (P : Program) (f : FuncId) (args : List V) (d : Nat) (s : St) (K : V → St → Prop) : Prop :=
  aCallT P f args d s K ∨ ∃ i sz ds, frzOK s i ds ∧ aCallT P f (args.map (V.frz i sz ds)) d (s.frz i sz ds) K

theorem hget_hkeep (ks : List Id) (h : Heap) (j : Id) : hget (hkeep ks h) j = if ks.contains j then none else hget h j := by
  induction h with
  | nil => simp [hkeep, hget]
  | cons p h ih =>
    obtain ⟨k, d⟩ := p
    simp only [hkeep]
    by_cases hk : ks.contains k = true
    · rw [if_pos hk, ih]
      simp only [hget]
      by_cases hkj : k = j
      · subst hkj; rw [if_pos hk, if_pos hk]
      · rw [if_neg hkj]
    · rw [if_neg hk]
      simp only [hget]
      by_cases hkj : k = j
      · subst hkj; rw [if_pos rfl, if_neg hk, if_pos rfl]
      · rw [if_neg hkj, if_neg hkj, ih]
theorem hget_append (h h' : Heap) (j : Id) : hget (h ++ h') j = match hget h j with
    | some cs => some cs
    | none => hget h' j := by
  induction h with
  | nil => rfl
  | cons p h ih =>
    obtain ⟨k, d⟩ := p
    simp only [List.cons_append, hget]
    split
    · rfl
    · exact ih
theorem hget_hren {ks : List Id} {d : Nat} (hk : okKs ks d) (h : Heap) (i : Id) : hget (hren ks d h) (renI ks d i) = (hget h i).map (List.map (C.ren ks d)) := by
  induction h with
  | nil => rfl
  | cons p h ih =>
    obtain ⟨k, c⟩ := p
    simp only [hren, hget]
    by_cases hki : k = i
    · subst hki; simp
    · rw [if_neg hki, if_neg (fun e => hki (renI_inj hk e)), ih]
theorem hget_hren_inv {ks : List Id} {d : Nat} (h : Heap) (j : Id) {cs : List C} (hj : hget (hren ks d h) j = some cs) : ∃ i, j = renI ks d i := by
  induction h with
  | nil => cases hj
  | cons p h ih =>
    obtain ⟨k, c⟩ := p
    simp only [hren, hget] at hj
    split at hj
    · rename_i e; exact ⟨k, e.symm⟩
    · exact ih hj
open Classical in
/-- the caller's names, with the callee's laid over them -/
noncomputable def mixB (ks : List Id) (d : Nat) (B B' : Id → Nat) : Id → Nat := fun j => if h : ∃ i, renI ks d i = j then B' h.choose else B j
open Classical in
noncomputable def mixO (ks : List Id) (d : Nat) (O O' : Tag → Option Rec) : Tag → Option Rec := fun j => if h : ∃ i, renT ks d i = j then O' h.choose else O j
theorem mixB_ren {ks : List Id} {d : Nat} (hk : okKs ks d) (B B' : Id → Nat) (i : Id) : mixB ks d B B' (renI ks d i) = B' i := by
  have h : ∃ i', renI ks d i' = renI ks d i := ⟨i, rfl⟩
  unfold mixB
  rw [dif_pos h]
  exact congrArg B' (renI_inj hk h.choose_spec)
theorem mixB_old {ks : List Id} {d : Nat} (B B' : Id → Nat) {j : Id} (h : ∀ i, renI ks d i ≠ j) : mixB ks d B B' j = B j := by
  unfold mixB
  rw [dif_neg]
  rintro ⟨i, hi⟩; exact h i hi
theorem mixO_ren {ks : List Id} {d : Nat} (hk : okKs ks d) (B B' : Tag → Option Rec) (i : Tag) : mixO ks d B B' (renT ks d i) = B' i := by
  have h : ∃ i', renT ks d i' = renT ks d i := ⟨i, rfl⟩
  unfold mixO
  rw [dif_pos h]
  exact congrArg B' (renT_inj hk h.choose_spec)
theorem mixO_old {ks : List Id} {d : Nat} (B B' : Tag → Option Rec) {j : Tag} (h : ∀ i, renT ks d i ≠ j) : mixO ks d B B' j = B j := by
  unfold mixO
  rw [dif_neg]
  rintro ⟨i, hi⟩; exact h i hi
theorem ren_cases {ks : List Id} {d : Nat} (i : Id) : (∃ k, i = .arg k ∧ ks[k]? = some (renI ks d i)) ∨ rootI d (renI ks d i) = true := by
  cases i with
  | arg k =>
    rcases Nat.lt_or_ge k ks.length with h | h
    · exact .inl ⟨k, rfl, by simp [renI, List.getElem?_eq_getElem h]⟩
    · exact .inr (rootI_ren fun l e => by cases e; exact h)
  | loc p => exact .inr (rootI_ren fun l e => by cases e)
theorem bornT_ren {ks : List Id} {d : Nat} (t : Tag) : bornT ks d (renT ks d t) = true := by
  cases t with
  | slot p => simp [bornT, renT, rootT]
  | made p => simp [bornT, renT, rootT]
  | bslot t p => simp [bornT, renT, rootT]
  | bcell t i o =>
    rcases ren_cases (ks := ks) (d := d) i with ⟨k, _, hk⟩ | h
    · have := List.mem_of_getElem? hk
      simp [bornT, renT, this]
    · simp [bornT, renT, rootT, h]
  | cell i o =>
    rcases ren_cases (ks := ks) (d := d) i with ⟨k, _, hk⟩ | h
    · have := List.mem_of_getElem? hk
      simp [bornT, renT, this]
    · simp [bornT, renT, rootT, h]
end Go.Proofs.Ytamcjecgkfmjkaa
