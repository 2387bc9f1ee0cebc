/- A logic of values and boxes over the walk: its words, and how they stand to memory. -/
import Derived.WalkKit
import Derived.Maps.AppendAt
import Derived.KernelRfl
import Derived.Laws.CopyOwn
open Go Go.RowKit
namespace Go.Proofs.Ytamcjecgkfmjkaa

/-! ### lists side by side -/
inductive All2 {α β : Type} (R : α → β → Prop) : List α → List β → Prop where
  | nil : All2 R [] []
  | cons {a : α} {b : β} {l : List α} {m : List β} (h : R a b) (t : All2 R l m) : All2 R (a :: l) (b :: m)

section
variable {α β γ : Type} {R S : α → β → Prop}
theorem All2.length {l : List α} {m : List β} (h : All2 R l m) : l.length = m.length := by
  induction h with
  | nil => rfl
  | cons _ _ ih => simp [ih]
theorem All2.get {l : List α} {m : List β} (h : All2 R l m) : ∀ {i : Nat} {a : α}, l[i]? = some a → ∃ b, m[i]? = some b ∧ R a b := by
  induction h with
  | nil => intro i a ha; simp at ha
  | cons h t ih =>
    intro i a ha
    cases i with
    | zero => simp at ha; subst ha; exact ⟨_, by simp, h⟩
    | succ i => simp at ha; obtain ⟨b, hb, hr⟩ := ih ha; exact ⟨b, by simpa using hb, hr⟩
theorem All2.of_get {l : List α} : ∀ {m : List β}, l.length = m.length → (∀ (i : Nat) (a : α) (b : β), l[i]? = some a → m[i]? = some b → R a b) → All2 R l m := by
  induction l with
  | nil => intro m hl _; cases m with
    | nil => exact .nil
    | cons _ _ => simp at hl
  | cons a l ih => intro m hl h; cases m with
    | nil => simp at hl
    | cons b m => exact .cons (h 0 a b (by simp) (by simp)) (ih (by simpa using hl) fun i a b ha hb => h (i + 1) a b (by simpa using ha) (by simpa using hb))
theorem All2.mono {l : List α} {m : List β} (h : All2 R l m) (hs : ∀ a b, R a b → S a b) : All2 S l m := by
  induction h with
  | nil => exact .nil
  | cons h _ ih => exact .cons (hs _ _ h) ih
theorem All2.map {T : γ → β → Prop} {f : α → γ} {l : List α} {m : List β} (h : All2 R l m) (hs : ∀ a b, R a b → T (f a) b) : All2 T (l.map f) m := by
  induction h with
  | nil => exact .nil
  | cons h _ ih => exact .cons (hs _ _ h) ih
theorem All2.set {l : List α} {m : List β} (h : All2 R l m) {a : α} {b : β} (hab : R a b) : ∀ i : Nat, All2 R (l.set i a) (m.set i b) := by
  induction h with
  | nil => intro i; exact .nil
  | cons h t ih => intro i; cases i with
    | zero => exact .cons hab t
    | succ i => exact .cons h (ih i)
theorem All2.append {l l' : List α} {m m' : List β} (h : All2 R l m) (h' : All2 R l' m') : All2 R (l ++ l') (m ++ m') := by
  induction h with
  | nil => exact h'
  | cons h _ ih => exact .cons h ih
theorem All2.take {l : List α} {m : List β} (h : All2 R l m) : ∀ n : Nat, All2 R (l.take n) (m.take n) := by
  induction h with
  | nil => intro n; simp; exact .nil
  | cons h t ih => intro n; cases n with
    | zero => exact .nil
    | succ n => exact .cons h (ih n)
theorem All2.drop {l : List α} {m : List β} (h : All2 R l m) : ∀ n : Nat, All2 R (l.drop n) (m.drop n) := by
  induction h with
  | nil => intro n; simp; exact .nil
  | cons h t ih => intro n; cases n with
    | zero => exact .cons h t
    | succ n => exact ih n
theorem All2.replicate (n : Nat) {a : α} {b : β} (h : R a b) : All2 R (List.replicate n a) (List.replicate n b) := by
  induction n with
  | zero => exact .nil
  | succ n ih => exact .cons h ih
theorem All2.nil_inv {m : List β} (h : All2 R [] m) : m = [] := by cases h; rfl
theorem All2.cons_inv {a : α} {l : List α} {m : List β} (h : All2 R (a :: l) m) : ∃ b t, m = b :: t ∧ R a b ∧ All2 R l t := by
  cases h with
  | cons h t => exact ⟨_, _, rfl, h, t⟩
end

/-! ### addresses -/
theorem block_of_add (a : Addr) (n : Nat) : (a.add n).block = a.block := by unfold Addr.add; split <;> rfl
theorem add_of_add (a : Addr) (i j : Nat) : (a.add i).add j = a.add (i + j) := by
  unfold Addr.add
  by_cases hi : i = 0 <;> by_cases hj : j = 0 <;> simp [hi, hj, Nat.add_assoc]
theorem add_mk (b o n : Nat) : (⟨b, o, none⟩ : Addr).add n = ⟨b, o + n, none⟩ := by
  unfold Addr.add; split <;> simp_all
theorem add_zero_ (a : Addr) : a.add 0 = a := by simp [Addr.add]

/-! ### names, values -/
/-- a box: the k-th that was handed in, or one of the call's own -/
inductive Id where
  | arg (k : Nat)
  | loc (p : List Nat)
deriving DecidableEq
/-- whose a row is that may still grow -/
inductive Tag where
  | slot (p : List Nat)
  | cell (i : Id) (o : Nat)
  | made (p : List Nat)
  | bslot (t : TypeId) (p : List Nat)
  | bcell (t : TypeId) (i : Id) (o : Nat)
deriving DecidableEq
/-- may the row be another's, if it is full? -/
def Tag.lax : Tag → Bool
  | .made _ => false
  | .bslot _ _ => false
  | .bcell _ _ _ => false
  | _ => true
/-- surely one's own, and stays so -/
def Tag.ty : Tag → Option TypeId
  | .bslot t _ => some t
  | .bcell t _ _ => some t
  | _ => none
def sigT (τ : Tag) (i : Id) (off : Nat) : Tag := match τ.ty with
  | some t => .bcell t i off
  | none => .cell i off
theorem strong_lax {τ : Tag} {e : TypeId} (h : τ.ty = some e) : τ.lax = false := by
  cases τ with
  | slot => cases h
  | cell => cases h
  | made => rfl
  | bslot => rfl
  | bcell => rfl
theorem sig_ty {τ : Tag} {i : Id} {off : Nat} : (sigT τ i off).ty = τ.ty := by cases τ <;> rfl
theorem sig_lax {τ : Tag} {i : Id} {off : Nat} (h : τ.lax = true) : (sigT τ i off).lax = true := by
  cases τ <;> first | rfl | (simp [Tag.lax] at h; done)
inductive Own where
  | no
  | full
  | tag (t : Tag)
deriving DecidableEq
/-- data that never change -/
inductive D where
  | val (x : Value)
  | lst (nl : Option Bool) (sz : Nat) (xs : List D)
/-- what one cell holds -/
inductive C where
  | undef
  | val (x : Value)
  | lst (o : Own) (nl : Option Bool) (sz : Nat) (xs : List D)
  | ptr (i : Id) (off : Nat)
  | mem (xs : List D)
  | row (i : Id) (off n c : Nat)
  | fn (f : Fn) (first caps : List (Id × Nat))
  | typ (t : TypeId)
  | ifc
inductive W where
  | c (x : C)
  | agg (cs : List C)
inductive V where
  | w (x : W)
  | tup (xs : List W)

def scalar1 : Value → Bool
  | .bool _ => true
  | .int _ _ => true
  | .string _ => true
  | .pointer none => true
  | .nilFunc => true
  | .nilIface => true
  | _ => false
def scalar : Value → Bool
  | .iface _ v => scalar1 v
  | v => scalar1 v

theorem scalar_one {v : Value} (h : scalar v = true) : v.oneCell' = true := by
  cases v <;> simp_all [scalar, scalar1, Value.oneCell']
theorem scalar_cells {v : Value} (h : scalar v = true) : v.cells = #[v] := by
  cases v <;> simp_all [scalar, scalar1, Value.cells]

abbrev V.undef : V := .w (.c .undef)
abbrev V.val (x : Value) : V := .w (.c (.val x))
abbrev V.int (k : IntKind) (n : Int) : V := .w (.c (.val (.int k n)))
abbrev V.bool (b : Bool) : V := .w (.c (.val (.bool b)))
abbrev V.cell (c : C) : V := .w (.c c)

/-! ### what stands for them in memory -/
structure Rec where
  blk : Nat
  n : Nat
  c : Nat
  sz : Nat
  e : TypeId
structure Gh where
  M : Addr → Option Value
  B : Id → Nat
  O : Tag → Option Rec

inductive RelD (M : Addr → Option Value) : D → Value → Prop where
  | val {x : Value} (h : scalar x = true) : RelD M (.val x) x
  | nil {nl : Option Bool} {sz : Nat} (h : nl ≠ some false) (hs : 0 < sz) : RelD M (.lst nl sz []) (.slice none 0 0)
  | lst {nl : Option Bool} {sz : Nat} {xs : List D} {a : Addr} {n c : Nat} (h : nl ≠ some true) (hs : 0 < sz) (hl : n * sz = xs.length) (hc : n ≤ c) (hm : c ≤ maxLen)
      (hM : ∀ i, i < xs.length → (M (a.add i)).isSome = true) (hr : ∀ (i : Nat) (d : D), xs[i]? = some d → RelD M d ((M (a.add i)).getD undef)) : RelD M (.lst nl sz xs) (.slice (some a) n c)

/-- the cells from a on are these data -/
def RelM (M : Addr → Option Value) (a : Addr) (xs : List D) : Prop := ∀ (i : Nat) (d : D), xs[i]? = some d → ∃ u, M (a.add i) = some u ∧ RelD M d u

def RelF (y : Value) : Prop := ∀ a n c, y = .slice a n c → n = c
def RelO (O : Tag → Option Rec) (o : Own) (sz : Nat) (y : Value) : Prop :=
  match o with
  | .no => True
  | .full => RelF y
  | .tag t => (t.lax = true ∧ RelF y) ∨ ∃ r, O t = some r ∧ (r.sz = sz ∧ ∀ q, t.ty = some q → r.e = q) ∧ y = .slice (some ⟨r.blk, 0, none⟩) r.n r.c

def pv (B : Id → Nat) (p : Id × Nat) : Value := .pointer (some ⟨B p.1, p.2, none⟩)

def RelC (g : Gh) : C → Value → Prop
  | .undef, _ => True
  | .val x, y => scalar x = true ∧ y = x
  | .lst o nl sz xs, y => RelD g.M (.lst nl sz xs) y ∧ RelO g.O o sz y
  | .ptr i off, y => y = .pointer (some ⟨g.B i, off, none⟩)
  | .mem xs, y => ∃ a, y = .pointer (some a) ∧ RelM g.M a xs
  | .row i off n c, y => y = .slice (some ⟨g.B i, off, none⟩) n c
  | .fn f first caps, y => y = .func f (first.map (pv g.B)).toArray (caps.map (pv g.B)).toArray
  | .typ _, y => y = .pointer none
  | .ifc, y => ∃ t v, y = .iface t v
def RelW (g : Gh) : W → Value → Prop
  | .c x, y => RelC g x y
  | .agg cs, y => ∃ ys, y = .agg ys ∧ All2 (RelC g) cs ys.toList
def RelV (g : Gh) : V → Value → Prop
  | .w x, y => RelW g x y
  | .tup xs, y => ∃ ys, y = .tuple ys ∧ All2 (RelW g) xs ys.toList

theorem RelD.mono {M M' : Addr → Option Value} (hM : ∀ a v, M a = some v → M' a = some v) {d : D} {y : Value} (h : RelD M d y) : RelD M' d y := by
  induction h with
  | val h => exact .val h
  | nil h hs => exact .nil h hs
  | @lst nl sz xs a n c h hs hl hc hm hS hr ih =>
    have e : ∀ i, i < xs.length → M' (a.add i) = M (a.add i) := fun i hi => by
      cases hq : M (a.add i) with
      | none => have := hS i hi; rw [hq] at this; cases this
      | some v => exact hM _ _ hq
    refine .lst h hs hl hc hm (fun i hi => by rw [e i hi]; exact hS i hi) (fun i d hd => ?_)
    rw [e i (by have := (List.getElem?_eq_some_iff.1 hd).1; exact this)]
    exact ih i d hd
theorem RelM.mono {M M' : Addr → Option Value} (hM : ∀ a v, M a = some v → M' a = some v) {a : Addr} {xs : List D} (h : RelM M a xs) : RelM M' a xs :=
  fun i d hd => let ⟨u, hu, hr⟩ := h i d hd; ⟨u, hM _ _ hu, hr.mono hM⟩
theorem RelD.mk {M : Addr → Option Value} {nl : Option Bool} {sz : Nat} {xs : List D} {a : Addr} {n c : Nat} (h : nl ≠ some true) (hs : 0 < sz) (hl : n * sz = xs.length) (hc : n ≤ c) (hm : c ≤ maxLen) (hx : RelM M a xs) :
    RelD M (.lst nl sz xs) (.slice (some a) n c) :=
  .lst h hs hl hc hm (fun i hi => by obtain ⟨u, hu, _⟩ := hx i xs[i] (List.getElem?_eq_getElem hi); simp [hu])
    (fun i d hd => by obtain ⟨u, hu, hr⟩ := hx i d hd; simpa [hu] using hr)
theorem RelD.lst_inv {M : Addr → Option Value} {nl : Option Bool} {sz : Nat} {xs : List D} {y : Value} (h : RelD M (.lst nl sz xs) y) :
    0 < sz ∧ ((y = .slice none 0 0 ∧ xs = [] ∧ nl ≠ some false) ∨ ∃ a n c, y = .slice (some a) n c ∧ nl ≠ some true ∧ n * sz = xs.length ∧ n ≤ c ∧ c ≤ maxLen ∧ RelM M a xs) := by
  cases h with
  | nil h hs => exact ⟨hs, .inl ⟨rfl, rfl, h⟩⟩
  | @lst _ _ _ a n c h hs hl hc hm hS hr =>
    refine ⟨hs, .inr ⟨a, n, c, rfl, h, hl, hc, hm, fun i d hd => ?_⟩⟩
    have := hS i (List.getElem?_eq_some_iff.1 hd).1
    cases hq : M (a.add i) with
    | none => rw [hq] at this; cases this
    | some v => exact ⟨v, rfl, by have := hr i d hd; rwa [hq] at this⟩
theorem RelD.one {M : Addr → Option Value} {d : D} {y : Value} (h : RelD M d y) : y.oneCell' = true := by
  cases h with
  | val h => exact scalar_one h
  | nil => rfl
  | lst => rfl
theorem RelC.one {g : Gh} {c : C} {y : Value} (h : RelC g c y) (hu : c ≠ .undef) : y.oneCell' = true := by
  cases c with
  | undef => exact absurd rfl hu
  | val x => obtain ⟨hs, rfl⟩ := h; exact scalar_one hs
  | lst => exact h.1.one
  | ptr => cases h; rfl
  | mem => obtain ⟨a, rfl, _⟩ := h; rfl
  | row => cases h; rfl
  | fn => cases h; rfl
  | typ => cases h; rfl
  | ifc => obtain ⟨_, _, rfl⟩ := h; rfl

/-! ### what is struck: boxes and tags -/
def C.clean (bi : Id → Bool) (bt : Tag → Bool) : C → C
  | .lst (.tag t) nl sz xs => if bt t then .lst .no nl sz xs else .lst (.tag t) nl sz xs
  | .ptr i off => if bi i then .undef else .ptr i off
  | .row i off n c => if bi i then .undef else .row i off n c
  | .fn f first caps => if first.any (fun p => bi p.1) || caps.any (fun p => bi p.1) then .undef else .fn f first caps
  | .typ t => if bt (.slot []) then .undef else .typ t
  | x => x
def W.clean (bi : Id → Bool) (bt : Tag → Bool) : W → W
  | .c x => .c (x.clean bi bt)
  | .agg cs => .agg (cs.map (C.clean bi bt))
def V.clean (bi : Id → Bool) (bt : Tag → Bool) : V → V
  | .w x => .w (x.clean bi bt)
  | .tup xs => .tup (xs.map (W.clean bi bt))

section
variable {g g' : Gh} {bi : Id → Bool} {bt : Tag → Bool} (hM : ∀ a v, g.M a = some v → g'.M a = some v) (hB : ∀ i, bi i = false → g'.B i = g.B i) (hO : ∀ t, bt t = false → g'.O t = g.O t)
include hB in
theorem pv_same {l : List (Id × Nat)} (h : l.any (fun p => bi p.1) = false) : l.map (pv g'.B) = l.map (pv g.B) := by
  refine List.map_congr_left fun p hp => ?_
  have : bi p.1 = false := by
    simp only [List.any_eq_false] at h
    simpa using h p hp
  simp only [pv, hB _ this]
include hM hB hO
theorem RelC.clean {c : C} {y : Value} (h : RelC g c y) : RelC g' (c.clean bi bt) y := by
  cases c with
  | undef => trivial
  | val x => exact h
  | lst o nl sz xs =>
    obtain ⟨h1, h2⟩ := h
    cases o with
    | no => exact ⟨h1.mono hM, trivial⟩
    | full => exact ⟨h1.mono hM, h2⟩
    | tag t =>
      cases hb : bt t with
      | true =>
        simp only [C.clean, hb, if_true]
        exact ⟨h1.mono hM, trivial⟩
      | false =>
        simp only [C.clean, hb]
        refine ⟨h1.mono hM, ?_⟩
        show (_ ∧ RelF y) ∨ _
        rw [hO t hb]
        exact h2
  | ptr i off =>
    cases hb : bi i with
    | true => simp only [C.clean, hb, if_true]; trivial
    | false => simp only [C.clean, hb]; show y = _; rw [hB i hb]; exact h
  | mem xs => obtain ⟨a, h1, h2⟩ := h; exact ⟨a, h1, h2.mono hM⟩
  | row i off n c =>
    cases hb : bi i with
    | true => simp only [C.clean, hb, if_true]; trivial
    | false => simp only [C.clean, hb]; show y = _; rw [hB i hb]; exact h
  | fn f first caps =>
    simp only [C.clean]
    split
    · trivial
    · rename_i hq
      simp only [Bool.or_eq_true, not_or, Bool.not_eq_true] at hq
      show y = _
      rw [pv_same hB hq.1, pv_same hB hq.2]
      exact h
  | typ t =>
    simp only [C.clean]
    split
    · trivial
    · exact h
  | ifc => exact h
theorem RelW.clean {c : W} {y : Value} (h : RelW g c y) : RelW g' (c.clean bi bt) y := by
  cases c with
  | c x => exact RelC.clean hM hB hO h
  | agg cs => obtain ⟨ys, h1, h2⟩ := h; exact ⟨ys, h1, h2.map fun _ _ h => RelC.clean hM hB hO h⟩
theorem RelV.clean {c : V} {y : Value} (h : RelV g c y) : RelV g' (c.clean bi bt) y := by
  cases c with
  | w x => exact RelW.clean hM hB hO h
  | tup cs => obtain ⟨ys, h1, h2⟩ := h; exact ⟨ys, h1, h2.map fun _ _ h => RelW.clean hM hB hO h⟩
end
theorem C.clean_none (c : C) : c.clean (fun _ => false) (fun _ => false) = c := by
  cases c with
  | lst o nl sz xs => cases o <;> rfl
  | fn f a b => simp [C.clean]
  | _ => rfl
theorem W.clean_none (c : W) : c.clean (fun _ => false) (fun _ => false) = c := by
  cases c with
  | c x => simp [W.clean, C.clean_none]
  | agg cs => simp only [W.clean]; congr 1; conv => rhs; rw [← List.map_id cs]
              exact List.map_congr_left fun c _ => C.clean_none c
theorem V.clean_none (c : V) : c.clean (fun _ => false) (fun _ => false) = c := by
  cases c with
  | w x => simp [V.clean, W.clean_none]
  | tup cs => simp only [V.clean]; congr 1; conv => rhs; rw [← List.map_id cs]
              exact List.map_congr_left fun c _ => W.clean_none c
section
variable {g g' : Gh} (hM : ∀ a v, g.M a = some v → g'.M a = some v) (hB : ∀ i, g'.B i = g.B i) (hO : ∀ t, g'.O t = g.O t)
include hM hB hO
theorem RelC.grow {c : C} {y : Value} (h : RelC g c y) : RelC g' c y := by
  have := RelC.clean (bi := fun _ => false) (bt := fun _ => false) hM (fun i _ => hB i) (fun t _ => hO t) h
  rwa [C.clean_none] at this
theorem RelW.grow {c : W} {y : Value} (h : RelW g c y) : RelW g' c y := by
  have := RelW.clean (bi := fun _ => false) (bt := fun _ => false) hM (fun i _ => hB i) (fun t _ => hO t) h
  rwa [W.clean_none] at this
theorem RelV.grow {c : V} {y : Value} (h : RelV g c y) : RelV g' c y := by
  have := RelV.clean (bi := fun _ => false) (bt := fun _ => false) hM (fun i _ => hB i) (fun t _ => hO t) h
  rwa [V.clean_none] at this
end

/-! ### boxes -/
abbrev Heap := List (Id × List C)
def hget : Heap → Id → Option (List C)
  | [], _ => none
  | (j, cs) :: h, i => if j = i then some cs else hget h i
def hset : Heap → Id → List C → Heap
  | [], i, cs => [(i, cs)]
  | (j, d) :: h, i, cs => if j = i then (i, cs) :: h else (j, d) :: hset h i cs
def hclean (bi : Id → Bool) (bt : Tag → Bool) : Heap → Heap
  | [] => []
  | (j, cs) :: h => if bi j then hclean bi bt h else (j, cs.map (C.clean bi bt)) :: hclean bi bt h
theorem hget_hset (h : Heap) (i : Id) (cs : List C) (j : Id) : hget (hset h i cs) j = if i = j then some cs else hget h j := by
  induction h with
  | nil => simp [hset, hget]
  | cons p h ih =>
    obtain ⟨k, d⟩ := p
    simp only [hset]
    by_cases hk : k = i
    · subst hk; simp only [if_true, hget]; split <;> simp_all
    · simp only [hk, if_false, hget, ih]
      by_cases hkj : k = j
      · subst hkj; simp [Ne.symm hk]
      · simp [hkj]
theorem hget_hclean (bi : Id → Bool) (bt : Tag → Bool) (h : Heap) (j : Id) : hget (hclean bi bt h) j = if bi j then none else (hget h j).map (List.map (C.clean bi bt)) := by
  induction h with
  | nil => simp [hclean, hget]
  | cons p h ih =>
    obtain ⟨k, d⟩ := p
    simp only [hclean]
    by_cases hb : bi k = true
    · simp only [hb, if_true, ih, hget]
      by_cases hkj : k = j
      · subst hkj; simp [hb]
      · simp [hkj]
    · rw [if_neg hb]
      simp only [hget]
      by_cases hkj : k = j
      · subst hkj; simp [hb]
      · rw [if_neg hkj, if_neg hkj, ih]

def Foot (g : Gh) (h : Heap) (k : Nat) : Prop := (∃ i cs, hget h i = some cs ∧ g.B i = k) ∨ ∃ t r, g.O t = some r ∧ r.blk = k

/-- a box that tells its block's type -/
def tyOK (t : TypeId) (cs : List C) : Prop := ∀ τ, C.typ τ ∈ cs → τ = t
theorem tyOK.nil {t : TypeId} : tyOK t [] := fun _ h => by cases h
theorem tyOK.sub {t : TypeId} {cs ds : List C} (h : tyOK t cs) (hs : ∀ τ, C.typ τ ∈ ds → C.typ τ ∈ cs) : tyOK t ds := fun τ hτ => h τ (hs τ hτ)
theorem tyOK.none {t : TypeId} {ds : List C} (hs : ∀ τ, C.typ τ ∉ ds) : tyOK t ds := fun τ hτ => absurd hτ (hs τ)
theorem tyOK.mapf {t : TypeId} {cs : List C} (h : tyOK t cs) {f : C → C} (hf : ∀ c τ, f c = .typ τ → c = .typ τ) : tyOK t (cs.map f) := fun τ hτ => by
  obtain ⟨c, hc, e⟩ := List.mem_map.1 hτ
  rw [hf c τ e] at hc
  exact h τ hc
theorem clean_typ {bi : Id → Bool} {bt : Tag → Bool} (c : C) (τ : TypeId) (h : c.clean bi bt = .typ τ) : c = .typ τ := by
  cases c with
  | lst o nl sz xs =>
    cases o with
    | tag t => simp only [C.clean] at h; split at h <;> cases h
    | no => cases h
    | full => cases h
  | ptr i o => simp only [C.clean] at h; split at h <;> cases h
  | row i o n c => simp only [C.clean] at h; split at h <;> cases h
  | fn f x y => simp only [C.clean] at h; split at h <;> cases h
  | typ t => simp only [C.clean] at h; split at h <;> first | cases h; done | exact h
  | undef => cases h
  | val => cases h
  | mem => cases h
  | ifc => cases h
theorem clean_all {bi : Id → Bool} {bt : Tag → Bool} (hb : bt (.slot []) = true) (cs : List C) {t : TypeId} : tyOK t (cs.map (C.clean bi bt)) := tyOK.none fun τ h => by
  obtain ⟨c, _, e⟩ := List.mem_map.1 h
  have := clean_typ c τ e
  subst this
  simp [C.clean, hb] at e

structure WI (g : Gh) (h : Heap) (w : World) : Prop where
  mem : ∀ a v, g.M a = some v → w.cell? a = some v
  box : ∀ i cs, hget h i = some cs → ∃ (ys : Array Value) (t : TypeId), w.heap[g.B i]? = some (.cells ys t (0, 0)) ∧ All2 (RelC g) cs ys.toList ∧ tyOK t cs
  inj : ∀ i j cs ds, hget h i = some cs → hget h j = some ds → g.B i = g.B j → i = j
  boxM : ∀ i cs a v, hget h i = some cs → g.M a = some v → a.block ≠ g.B i
  own : ∀ t r, g.O t = some r → ∃ cur : Array Value, w.heap[r.blk]? = some (.cells cur r.e (0, 0)) ∧ cur.size = r.c * r.sz ∧ r.n ≤ r.c ∧ r.c ≤ maxLen ∧ ∀ a v, g.M a = some v → a.block = r.blk → a.off < r.n * r.sz
  ownB : ∀ t r i cs, g.O t = some r → hget h i = some cs → r.blk ≠ g.B i
  ownI : ∀ t t' r r', g.O t = some r → g.O t' = some r' → r.blk = r'.blk → t = t'

theorem block_lt {w : World} {k : Nat} {o : Obj} (h : w.heap[k]? = some o) : k < w.heap.size := (Array.getElem?_eq_some_iff.1 h).1
theorem WI.foot_lt {g : Gh} {h : Heap} {w : World} (hw : WI g h w) {k : Nat} (hk : Foot g h k) : k < w.heap.size := by
  rcases hk with ⟨i, cs, hi, rfl⟩ | ⟨t, r, ht, rfl⟩
  · obtain ⟨ys, t, hb, _⟩ := hw.box i cs hi; exact block_lt hb
  · obtain ⟨cur, hc, _⟩ := hw.own t r ht; exact block_lt hc
theorem WI.mem_lt {g : Gh} {h : Heap} {w : World} (hw : WI g h w) {a : Addr} {v : Value} (ha : g.M a = some v) : a.block < w.heap.size := World.block_lt_of_cell? w a (hw.mem a v ha)

/-! ### what came in, and what has become of it -/
structure Entry where
  w : World
  F : Nat → Prop
  M : Addr → Option Value
  A : Nat → Nat
structure Cum (E : Entry) (g : Gh) (h : Heap) (w : World) : Prop where
  os : w.os = E.w.os
  tape : w.tape = E.w.tape
  output : w.output = E.w.output
  size : E.w.heap.size ≤ w.heap.size
  unch : ∀ k, k < E.w.heap.size → ¬ E.F k → w.heap[k]? = E.w.heap[k]?
  foot : ∀ k, Foot g h k → E.F k ∨ E.w.heap.size ≤ k
  mem : ∀ a v, E.M a = some v → g.M a = some v
  memN : ∀ a v, g.M a = some v → E.M a = some v ∨ E.F a.block ∨ E.w.heap.size ≤ a.block
  argB : ∀ k, g.B (.arg k) = E.A k
def entry (g : Gh) (h : Heap) (w : World) : Entry := ⟨w, Foot g h, g.M, fun k => g.B (.arg k)⟩
theorem Cum.refl (g : Gh) (h : Heap) (w : World) : Cum (entry g h w) g h w :=
  ⟨rfl, rfl, rfl, Nat.le_refl _, fun _ _ _ => rfl, fun _ hk => .inl hk, fun _ _ h => h, fun _ _ h => .inl h, fun _ => rfl⟩
theorem Cum.trans {E : Entry} {g g' : Gh} {h h' : Heap} {w w' : World} (H : Cum E g h w) (K : Cum (entry g h w) g' h' w') : Cum E g' h' w' := by
  refine ⟨K.os.trans H.os, K.tape.trans H.tape, K.output.trans H.output, Nat.le_trans H.size K.size, ?_, ?_, ?_, ?_, fun k => (K.argB k).trans (H.argB k)⟩
  · intro k hk hF
    refine (K.unch k (Nat.lt_of_lt_of_le hk H.size) (fun hf => ?_)).trans (H.unch k hk hF)
    rcases H.foot k hf with h | h
    · exact hF h
    · omega
  · intro k hk
    rcases K.foot k hk with h | h
    · exact H.foot k h
    · exact .inr (Nat.le_trans H.size h)
  · exact fun a v ha => K.mem a v (H.mem a v ha)
  · intro a v ha
    rcases K.memN a v ha with h | h | h
    · exact H.memN a v h
    · rcases H.foot _ h with h | h
      · exact .inr (.inl h)
      · exact .inr (.inr h)
    · exact .inr (.inr (Nat.le_trans H.size h))

/-! ### states -/
structure St where
  slots : List V
  heap : Heap
def St.put (s : St) (dst : Option Nat) (v : V) : St :=
  match dst with
  | some d => ⟨s.slots.set d v, s.heap⟩
  | none => s
def St.clean (bi : Id → Bool) (bt : Tag → Bool) (s : St) : St := ⟨s.slots.map (V.clean bi bt), hclean bi bt s.heap⟩

def ofCell (v : Value) : C :=
  if scalar v then .val v else
  match v with
  | .slice none n c => if n = 0 ∧ c = 0 then .lst .full (some true) 1 [] else .undef
  | .func f x y => if x.size = 0 ∧ y.size = 0 then .fn f [] [] else .undef
  | _ => .undef
def ofValue (v : Value) : V :=
  match v with
  | .agg cs => .w (.agg (cs.toList.map ofCell))
  | v => .w (.c (ofCell v))
theorem ofCell_rel (g : Gh) (v : Value) : RelC g (ofCell v) v := by
  unfold ofCell
  split
  · exact ⟨by assumption, rfl⟩
  · cases v with
    | slice a n c =>
      cases a with
      | none =>
        simp only []
        split
        · rename_i h
          obtain ⟨rfl, rfl⟩ := h
          exact ⟨.nil (by simp) (by omega), fun a n c h => by cases h; rfl⟩
        · trivial
      | some a => trivial
    | func f x y =>
      simp only []
      split
      · rename_i h
        have hx : x = #[] := Array.eq_empty_of_size_eq_zero h.1
        have hy : y = #[] := Array.eq_empty_of_size_eq_zero h.2
        subst hx; subst hy
        simp [RelC]
      · trivial
    | _ => trivial
theorem ofValue_rel (g : Gh) (v : Value) : RelV g (ofValue v) v := by
  unfold ofValue
  split
  · rename_i cs
    exact ⟨cs, rfl, All2.of_get (by simp) fun i a b ha hb => by
      simp only [List.getElem?_map, hb, Option.map_some, Option.some.injEq] at ha; subst ha; exact ofCell_rel g b⟩
  · exact ofCell_rel g v

/-- what the package's tables hold (a seat's own list) -/
def globD : Nat → List D
  | _ => []
def GlobOK (M : Addr → Option Value) : Prop := ∀ k, RelM M ⟨k, 0, none⟩ (globD k)
def St.ev (s : St) : Operand → V
  | .tmp t => s.slots.getD t V.undef
  | .const v => ofValue v
  | .global k => .w (.c (.mem (globD k)))
  | .func f => .w (.c (.fn (.func f) [] []))

structure Sim (E : Entry) (g : Gh) (s : St) (a : Act) (w : World) : Prop where
  slots : All2 (RelV g) s.slots a.tmps.toList
  defers : a.defers = [] ∧ GlobOK E.M
  wi : WI g s.heap w
  cum : Cum E g s.heap w

theorem Sim.ev {E : Entry} {g : Gh} {s : St} {a : Act} {w : World} (h : Sim E g s a w) (x : Operand) : RelV g (s.ev x) (a.eval x) := by
  cases x with
  | tmp t =>
    simp only [St.ev, Act.eval]
    cases hq : s.slots[t]? with
    | none => rw [List.getD_eq_getElem?_getD, hq]; trivial
    | some v =>
      obtain ⟨b, hb, hr⟩ := h.slots.get hq
      rw [List.getD_eq_getElem?_getD, hq]
      rw [Array.getElem?_toList] at hb
      simpa [hb] using hr
  | const v => exact ofValue_rel g v
  | global k => exact ⟨_, rfl, (h.defers.2 k).mono h.cum.mem⟩
  | func f => simp [St.ev, RelV, RelW, RelC, Act.eval]

theorem Sim.put {E : Entry} {g : Gh} {s : St} {a : Act} {w : World} (h : Sim E g s a w) {v : V} {x : Value} (hr : RelV g v x) (dst : Option Nat) : Sim E g (s.put dst v) (a.put dst x) w := by
  cases dst with
  | none => exact h
  | some d =>
    refine ⟨?_, h.defers, h.wi, h.cum⟩
    have := h.slots.set hr d
    simpa [St.put, Act.put] using this

end Go.Proofs.Ytamcjecgkfmjkaa
