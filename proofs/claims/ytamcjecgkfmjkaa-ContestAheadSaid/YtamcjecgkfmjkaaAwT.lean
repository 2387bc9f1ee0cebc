/- The logic: operations that make or write memory. -/
import Derived.Test.YtamcjecgkfmjkaaAwS
import Derived.Great.BuildSlice
import Derived.Laws.Tables
open Go Go.RowKit
namespace Go.Proofs.Ytamcjecgkfmjkaa
set_option linter.unusedVariables false
set_option linter.unusedSimpArgs false

/-! ### cells laid over cells -/
def spl {α : Type} : List α → Nat → List α → List α
  | l, _, [] => l
  | l, o, v :: vs => spl (l.set o v) (o + 1) vs
theorem spl_rel {α β : Type} {R : α → β → Prop} {vs : List α} : ∀ {us : List β} {l : List α} {m : List β} {o : Nat}, All2 R l m → All2 R vs us → All2 R (spl l o vs) (spl m o us) := by
  induction vs with
  | nil => intro us l m o h hv; rw [hv.nil_inv]; exact h
  | cons v vs ih =>
    intro us l m o h hv
    obtain ⟨u, us', rfl, h1, h2⟩ := hv.cons_inv
    exact ih (h.set h1 o) h2
theorem spl_length {α : Type} {vs : List α} : ∀ {l : List α} {o : Nat}, (spl l o vs).length = l.length := by
  induction vs with
  | nil => intro l o; rfl
  | cons v vs ih => intro l o; simp only [spl, ih, List.length_set]
theorem spl_eq {α : Type} {vs : List α} : ∀ {l : List α} {o : Nat}, o + vs.length ≤ l.length → spl l o vs = l.take o ++ vs ++ l.drop (o + vs.length) := by
  induction vs with
  | nil => intro l o _; simp [spl]
  | cons v vs ih =>
    intro l o h
    simp only [List.length_cons] at h
    rw [spl, ih (by simp; omega)]
    have ho : o < l.length := by omega
    rw [List.take_succ_eq_append_getElem (by simpa using ho), List.take_set_of_le (Nat.le_refl _), List.getElem_set_self, List.drop_set_of_lt (by omega)]
    simp only [List.append_assoc, List.cons_append, List.nil_append, List.length_cons]
    congr 3
    rw [Nat.add_right_comm, Nat.add_assoc]
theorem foldl_spl (off : Nat) (l : List Value) : ∀ (k : Nat) (ys : Array Value), ((l.zipIdx k).foldl (fun cs p => cs.setIfInBounds (off + p.2) p.1) ys).toList = spl ys.toList (off + k) l := by
  induction l with
  | nil => intro k ys; rfl
  | cons v l ih =>
    intro k ys
    simp only [List.zipIdx_cons, List.foldl_cons, ih, spl, Array.toList_setIfInBounds, Nat.add_assoc]

/-- the cells of a value -/
def cellsOf : V → Option (List C)
  | .w (.c .undef) => none
  | .w (.c c) => some [c]
  | .w (.agg cs) => some cs
  | .tup _ => none
def known : C → Bool
  | .undef => false
  | .typ _ => false
  | _ => true
theorem known_ne {c : C} (h : known c = true) : c ≠ .undef := by rintro rfl; cases h
theorem one_cells {v : Value} (h : v.oneCell' = true) : v.cells = #[v] := by cases v <;> simp_all [Value.oneCell', Value.cells]
theorem cellsOf_rel {g : Gh} {v : V} {y : Value} {cs : List C} (hr : RelV g v y) (h : cellsOf v = some cs) : All2 (RelC g) cs y.cells.toList := by
  unfold cellsOf at h
  split at h
  · cases h
  · rename_i c hc
    cases h
    have := RelC.one hr (by rintro rfl; exact hc rfl)
    rw [one_cells this]
    exact .cons hr .nil
  · cases h
    obtain ⟨ys, rfl, h⟩ := hr
    exact h
  · cases h

def aFill (place : Nat → Option (Nat × Nat)) : List C → List (Nat × V) → Option (List C)
  | cells, [] => some cells
  | cells, (i, v) :: rest =>
    match place i, cellsOf v with
    | some (off, size), some vs => if vs.length ≠ size ∨ off + vs.length > cells.length then none else aFill place (spl cells off vs) rest
    | _, _ => none
theorem spl_mem {α : Type} {x : α} {vs : List α} : ∀ {l : List α} {o : Nat}, x ∈ spl l o vs → x ∈ l ∨ x ∈ vs := by
  induction vs with
  | nil => intro l o h; exact .inl h
  | cons v vs ih =>
    intro l o h
    rcases ih (l := l.set o v) (o := o + 1) h with h | h
    · rcases List.mem_or_eq_of_mem_set h with h | h
      · exact .inl h
      · subst h; exact .inr (by simp)
    · exact .inr (List.mem_cons_of_mem _ h)
theorem tyOK.spl {t : TypeId} {cs vs : List C} {o : Nat} (h : tyOK t cs) (hv : ∀ τ, C.typ τ ∉ vs) : tyOK t (Proofs.Ytamcjecgkfmjkaa.spl cs o vs) := fun τ hτ => by
  rcases spl_mem hτ with h1 | h1
  · exact h τ h1
  · exact absurd h1 (hv τ)
theorem no_typ {bi : Id → Bool} {bt : Tag → Bool} (hb : bt (.slot []) = true) (cs : List C) (τ : TypeId) : C.typ τ ∉ cs.map (C.clean bi bt) := fun h => by
  obtain ⟨c, _, e⟩ := List.mem_map.1 h
  have := clean_typ c τ e
  subst this
  simp [C.clean, hb] at e
theorem no_typD (ds : List D) (τ : TypeId) : C.typ τ ∉ ds.map D.toC := fun h => by
  obtain ⟨d, _, e⟩ := List.mem_map.1 h
  cases d <;> cases e
theorem no_typV (vs : List Value) (τ : TypeId) : C.typ τ ∉ vs.map ofCell := fun h => by
  obtain ⟨v, _, e⟩ := List.mem_map.1 h
  unfold ofCell at e
  split at e
  · cases e
  · split at e
    · split at e <;> cases e
    · split at e <;> cases e
    · cases e
theorem aFill_rel {g : Gh} {place : Nat → Option (Nat × Nat)} {parts : List (Nat × V)} : ∀ {us : List (Nat × Value)} {cs cs' : List C} {ys : Array Value}, All2 (fun p q => p.1 = q.1 ∧ RelV g p.2 q.2) parts us → All2 (RelC g) cs ys.toList →
    aFill place cs parts = some cs' → ∃ ys', Instr.fill place ys us = some ys' ∧ All2 (RelC g) cs' ys'.toList := by
  induction parts with
  | nil => intro us cs cs' ys hp hc h; rw [hp.nil_inv]; cases h; exact ⟨ys, rfl, hc⟩
  | cons p parts ih =>
    intro us cs cs' ys hp hc h
    obtain ⟨q, us', rfl, ⟨h1, h2⟩, h3⟩ := hp.cons_inv
    obtain ⟨i, v⟩ := p
    obtain ⟨j, u⟩ := q
    simp only at h1 h2
    subst h1
    simp only [aFill] at h
    split at h
    · rename_i off size vs hpl hvs
      split at h
      · cases h
      · rename_i hn
        have hv := cellsOf_rel h2 hvs
        have hl := hv.length
        have hcl := hc.length
        simp only [Array.length_toList] at hl hcl
        have hn' : ¬ (u.cells.size ≠ size ∨ off + u.cells.size > ys.size) := by rw [← hl, ← hcl]; exact hn
        simp only [Instr.fill, hpl]
        have hb : (decide (u.cells.size ≠ size) || decide (off + u.cells.size > ys.size)) = false := by
          simp only [Bool.or_eq_false_iff, decide_eq_false_iff_not]
          exact ⟨fun h => hn' (.inl h), fun h => hn' (.inr h)⟩
        refine Exists.imp (fun ys' => And.imp_left fun h => ?_) (ih (ys := u.cells.zipIdx.foldl (fun cs x => cs.setIfInBounds (off + x.2) x.1) ys) h3 ?_ h)
        · rw [if_neg (by simpa using hn')]
          exact h
        · have e := foldl_spl off u.cells.toList 0 ys
          have e2 : (u.cells.zipIdx.foldl (fun cs x => cs.setIfInBounds (off + x.2) x.1) ys) = ((u.cells.toList.zipIdx 0).foldl (fun cs p => cs.setIfInBounds (off + p.2) p.1) ys) := by
            rw [← Array.foldl_toList, Array.toList_zipIdx]
          rw [e2, e, Nat.add_zero]
          exact spl_rel hc hv
    · cases h

/-! ### zeros -/
def zeroC (P : Program) (t : TypeId) : Option (List C) := ((P.info? t).bind (·.zero)).map fun z => z.cells.toList.map ofCell
theorem zeroC_spec {P : Program} {t : TypeId} {cs : List C} (h : zeroC P t = some cs) : ∃ i z, P.info? t = some i ∧ i.zero = some z ∧ cs = z.cells.toList.map ofCell := by
  unfold zeroC at h
  cases hi : P.info? t with
  | none => rw [hi] at h; cases h
  | some i =>
    rw [hi] at h
    cases hz : i.zero with
    | none => simp [hz] at h
    | some z => simp [hz] at h; exact ⟨i, z, rfl, hz, by simp [← h]⟩
theorem ofCells_rel (g : Gh) (l : List Value) : All2 (RelC g) (l.map ofCell) l := by
  induction l with
  | nil => exact .nil
  | cons v l ih => exact .cons (ofCell_rel g v) ih
theorem flat_rel {α β : Type} {R : α → β → Prop} {l : List α} {m : List β} (h : All2 R l m) (n : Nat) : All2 R (List.replicate n l).flatten (List.replicate n m).flatten := by
  induction n with
  | zero => exact .nil
  | succ n ih => simp only [List.replicate_succ, List.flatten_cons]; exact h.append ih
theorem flat_get {α : Type} (l : List α) (hl : 0 < l.length) : ∀ (n i : Nat), i < n * l.length → (List.replicate n l).flatten[i]? = l[i % l.length]? := by
  intro n
  induction n with
  | zero => intro i h; omega
  | succ n ih =>
    intro i h
    simp only [List.replicate_succ, List.flatten_cons]
    by_cases hi : i < l.length
    · rw [List.getElem?_append_left hi, Nat.mod_eq_of_lt hi]
    · rw [List.getElem?_append_right (by omega), ih _ (by rw [Nat.succ_mul] at h; omega)]
      congr 1
      rw [Nat.mod_eq_sub_mod (by omega : l.length ≤ i)]
theorem zeros_eq (z : Array Value) (n : Nat) (hz : 0 < z.size) : ((Array.range (n * z.size)).map (z[· % z.size]!)).toList = (List.replicate n z.toList).flatten := by
  apply List.ext_getElem?
  intro i
  by_cases hi : i < n * z.size
  · rw [flat_get z.toList (by simpa using hz) n i (by simpa using hi)]
    have hm : i % z.size < z.size := Nat.mod_lt _ hz
    simp [hi, hm]
  · rw [List.getElem?_eq_none (by simp; omega), List.getElem?_eq_none]
    have : (List.replicate n z.toList).flatten.length = n * z.size := by simp
    omega

def allD : List C → Option (List D)
  | [] => some []
  | c :: l => match c.toD, allD l with
    | some d, some ds => some (d :: ds)
    | _, _ => none
theorem allD_rel {g : Gh} {cs : List C} : ∀ {ds : List D} {ys : List Value}, allD cs = some ds → All2 (RelC g) cs ys → All2 (RelD g.M) ds ys := by
  induction cs with
  | nil => intro ds ys h hr; cases h; rw [hr.nil_inv]; exact .nil
  | cons c cs ih =>
    intro ds ys h hr
    obtain ⟨y, ys', rfl, h1, h2⟩ := hr.cons_inv
    unfold allD at h
    split at h
    · rename_i d ds' hd hds
      cases h
      exact .cons (C.toD_rel hd h1) (ih hds h2)
    · cases h
theorem toD_toC (d : D) : d.toC.toD = some d := by cases d <;> rfl
theorem allD_toC (ds : List D) : allD (ds.map D.toC) = some ds := by
  induction ds with
  | nil => rfl
  | cons d ds ih => simp [allD, toD_toC, ih]
theorem allD_append {a b : List C} {x y : List D} (ha : allD a = some x) (hb : allD b = some y) : allD (a ++ b) = some (x ++ y) := by
  induction a generalizing x with
  | nil => cases ha; exact hb
  | cons c a ih =>
    unfold allD at ha
    split at ha
    · rename_i d ds hd hds
      cases ha
      simp [allD, hd, ih hds]
    · cases ha

/-! ### whose things are that are made at a place -/
def rootI (d : Nat) : Id → Bool
  | .loc (x :: _) => x == d
  | _ => false
def rootT (d : Nat) : Tag → Bool
  | .slot (x :: _) => x == d
  | .made (x :: _) => x == d
  | .cell i _ => rootI d i
  | .bslot _ (x :: _) => x == d
  | .bcell _ i _ => rootI d i
  | _ => false

/-! ### the operations -/
def aLoadBox (P : Program) (t : TypeId) (x : V) (s : St) (K : V → Prop) : Prop :=
  match x with
  | .w (.c (.ptr i off)) => ∃ cs sz, hget s.heap i = some cs ∧ sizeT P t = some sz ∧ aPart P t sz cs off K
  | _ => False
def St.stow (s : St) (i : Id) (off : Nat) (cs vs : List C) : St :=
  match vs with
  | [.lst (.tag τ) nl sz xs] =>
    let bt := fun t => t == τ || t == sigT τ i off
    ⟨s.slots.map (V.clean (fun _ => false) bt), hset (hclean (fun _ => false) bt s.heap) i (spl (cs.map (C.clean (fun _ => false) bt)) off [.lst (.tag (sigT τ i off)) nl sz xs])⟩
  | vs => ⟨s.slots, hset s.heap i (spl cs off (vs.map (C.clean (fun _ => false) fun _ => true)))⟩
def aStore (P : Program) (t : TypeId) (x v : V) (s : St) (K : V → St → Prop) : Prop :=
  match x with
  | .w (.c (.ptr i off)) => ∃ cs vs, hget s.heap i = some cs ∧ cellsOf v = some vs ∧ sizeT P t = some vs.length ∧ off + vs.length ≤ cs.length ∧ vs.all known = true ∧ K V.undef (s.stow i off cs vs)
  | _ => False
def aNew (d : Nat) (cs : List C) (s : St) (K : V → St → Prop) : Prop :=
  K (.cell (.ptr (.loc [d]) 0)) ⟨(s.clean (rootI d) (rootT d)).slots, (.loc [d], cs.map (C.clean (rootI d) fun _ => true)) :: (s.clean (rootI d) (rootT d)).heap⟩
/-- a box made of a type: one that points to itself tells its type -/
def selfT (P : Program) (e : TypeId) : Bool := match P.underlying e with
  | some (.struct fs) => match fs[0]? with
    | some f => match P.underlying f.type with
      | some (.pointer e') => e' == e
      | _ => false
    | none => false
  | _ => false
def allocC (P : Program) (e : TypeId) : Option (List C) := (zeroC P e).map fun z => if selfT P e = true then (match z with
  | .val (.pointer none) :: r => .typ e :: r
  | z => z) else z
def aNewA (d : Nat) (cs : List C) (s : St) (K : V → St → Prop) : Prop :=
  K (.cell (.ptr (.loc [d]) 0)) ⟨(s.clean (rootI d) (rootT d)).slots, (.loc [d], cs) :: (s.clean (rootI d) (rootT d)).heap⟩
/-- a string, or a row of bytes -/
def sbT (P : Program) (t : TypeId) : Option Bool := if isStrT P t = true then some false else
  match idxT P t with
  | some (none, e, 1) => if kindT P e = some .u8 then some true else none
  | _ => none
def aBuild (P : Program) (t : TypeId) (parts : List (Nat × V)) (K : V → Prop) : Prop :=
  ∃ z pl cs, zeroC P t = some z ∧ (match P.underlying t with
    | some (.array _ e) => ∃ n, sizeT P e = some n ∧ pl = fun i => some (i * n, n)
    | some (.struct fs) => ∃ l, fs.toList.mapM (fun f => (P.info? f.type).map fun i => (f.offset, i.size)) = some l ∧ pl = fun i => l[i]?
    | _ => False) ∧ aFill pl z parts = some cs ∧ K (.w (.agg cs))
/-- a row of nothing is full -/
def ownB (len d : Nat) : Own := if len = 0 then .full else .tag (.made [d])
def aBuildSlice (P : Program) (t : TypeId) (len : Nat) (parts : List (Nat × V)) (d : Nat) (s : St) (K : V → St → Prop) : Prop :=
  ∃ e sz z cs ds, idxT P t = some (none, e, sz) ∧ 0 < sz ∧ len * sz ≤ 16777216 ∧ zeroC P e = some z ∧ z.length = sz ∧ aFill (fun i => some (i * sz, sz)) (List.replicate len z).flatten parts = some cs ∧ allD cs = some ds ∧
    K (.cell (.lst (ownB len d) (some false) sz ds)) (s.clean (fun _ => false) (rootT d))
def bytesT (P : Program) (t : TypeId) : Option Nat := (P.info? t).map (·.bytes)
def aMakeSlice (P : Program) (t : TypeId) (l c : V) (d : Nat) (s : St) (K : V → St → Prop) : Prop :=
  match l, c with
  | .w (.c (.val (.int _ l))), .w (.c (.val (.int _ c))) => ∃ e sz z ds b, idxT P t = some (none, e, sz) ∧ 0 < sz ∧ zeroC P e = some z ∧ z.length = sz ∧ allD z = some ds ∧ bytesT P e = some b ∧ 0 < b ∧ 0 ≤ l ∧ l ≤ c ∧ (b : Int) * c ≤ 140737488355328 ∧
    (K (.cell (.lst (.tag (.slot [d])) (some false) sz (List.replicate l.toNat ds).flatten)) (s.clean (fun _ => false) (rootT d)) ∨
     K (.cell (.row (.loc [d]) 0 l.toNat c.toNat)) ⟨(s.clean (rootI d) (rootT d)).slots, (.loc [d], (List.replicate c.toNat z).flatten) :: (s.clean (rootI d) (rootT d)).heap⟩)
  | _, _ => False
/-- what is appended or copied -/
def aSrc (sz : Nat) (x : V) (s : St) (K : List D → Prop) : Prop :=
  match x with
  | .w (.c (.lst _ _ sz' ys)) => (sz' = sz ∨ ys = []) ∧ K ys
  | .w (.c (.row i off n _)) => ∃ cs ds, hget s.heap i = some cs ∧ off + n * sz ≤ cs.length ∧ allD ((cs.drop off).take (n * sz)) = some ds ∧ K ds
  | _ => False
def killT (o : Own) (d : Nat) : Tag → Bool := fun t => rootT d t || (match o with
  | .tag τ => t == τ
  | _ => false)
def aAppend (P : Program) (t : TypeId) (sv x : V) (d : Nat) (s : St) (K : V → St → Prop) : Prop :=
  match sv with
  | .w (.c (.lst o nl sz' xs)) => ∃ e sz z b, idxT P t = some (none, e, sz) ∧ 0 < sz ∧ zeroC P e = some z ∧ z.length = sz ∧ bytesT P e = some b ∧ 0 < b ∧ (sz' = sz ∨ xs = [] ∧ ∀ τ, o ≠ .tag τ) ∧ o ≠ .no ∧ aSrc sz x s fun ys =>
    (xs.length + ys.length) / sz * b ≤ 140737488355328 ∧ K (.cell (.lst (.tag (.slot [d])) (if nl = some false then some false else none) sz (xs ++ ys))) (s.clean (fun _ => false) (killT o d))
  | _ => False
/-- 'append' whose row is a box of its own from now on: onto a full row, onto a row in a box -/
def aAppendB (P : Program) (t : TypeId) (sv x : V) (d : Nat) (s : St) (K : V → St → Prop) : Prop :=
  match sv with
  | .w (.c (.lst .full nl sz' xs)) => ∃ e sz z b, idxT P t = some (none, e, sz) ∧ 0 < sz ∧ zeroC P e = some z ∧ z.length = sz ∧ bytesT P e = some b ∧ 0 < b ∧ (sz' = sz ∨ xs = []) ∧ aSrc sz x s fun ys =>
    (xs.length + ys.length) / sz * b ≤ 140737488355328 ∧
    (ys = [] → K (.cell (.lst .full nl sz xs)) s) ∧
    (ys ≠ [] → ∀ c', (xs.length + ys.length) / sz ≤ c' → c' ≤ maxLen → aNew d ((xs ++ ys).map D.toC ++ List.replicate (c' * sz - (xs.length + ys.length)) .undef) s fun _ s' => K (.cell (.row (.loc [d]) 0 ((xs.length + ys.length) / sz) c')) s')
  | .w (.c (.row i off n c)) => ∃ e sz z b cs, idxT P t = some (none, e, sz) ∧ 0 < sz ∧ zeroC P e = some z ∧ z.length = sz ∧ bytesT P e = some b ∧ 0 < b ∧ off = 0 ∧ n ≤ c ∧ c ≤ maxLen ∧ hget s.heap i = some cs ∧ c * sz ≤ cs.length ∧ aSrc sz x s fun ys =>
    (n + ys.length / sz) * b ≤ 140737488355328 ∧
    (n + ys.length / sz ≤ c → K (.cell (.row i 0 (n + ys.length / sz) c)) ⟨s.slots, hset s.heap i (spl cs (n * sz) (ys.map D.toC))⟩) ∧
    (c < n + ys.length / sz → ∀ c', n + ys.length / sz ≤ c' → c' ≤ maxLen → aNew d (cs.take (n * sz) ++ ys.map D.toC ++ List.replicate (c' * sz - (n * sz + ys.length)) .undef) s fun _ s' => K (.cell (.row (.loc [d]) 0 (n + ys.length / sz) c')) s')
  | _ => False
/-- 'append' whose row is surely one's own -/
def aAppendS (P : Program) (t : TypeId) (sv x : V) (d : Nat) (s : St) (K : V → St → Prop) : Prop :=
  match sv with
  | .w (.c (.lst o nl sz' xs)) => ∃ e sz z b, idxT P t = some (none, e, sz) ∧ 0 < sz ∧ zeroC P e = some z ∧ z.length = sz ∧ bytesT P e = some b ∧ 0 < b ∧ (sz' = sz ∨ xs = [] ∧ ∀ τ, o ≠ .tag τ) ∧ aSrc sz x s fun ys =>
    ((o = .full ∧ 0 < ys.length) ∨ ∃ τ, o = .tag τ ∧ τ.ty = some e) ∧
    (xs.length + ys.length) / sz * b ≤ 140737488355328 ∧ K (.cell (.lst (.tag (.bslot e [d])) (if nl = some false then some false else none) sz (xs ++ ys))) (s.clean (fun _ => false) (killT o d))
  | _ => False
def aAppX (P : Program) (t : TypeId) (sv x : V) (d : Nat) (s : St) (K : V → St → Prop) : Prop := aAppend P t sv x d s K ∨ aAppendB P t sv x d s K ∨ aAppendS P t sv x d s K
def isIntT (P : Program) (t : TypeId) : Bool := match P.underlying t with
  | some (.int _) => true
  | _ => false
/-- 'append' of a string's bytes -/
def aAppZ (P : Program) (t t' : TypeId) (o : Own) (nl : Option Bool) (sz' : Nat) (xs : List D) (b : ByteArray) (d : Nat) (s : St) (K : V → St → Prop) : Prop :=
  isStrT P t' = true ∧ ∃ e z q, idxT P t = some (none, e, 1) ∧ zeroC P e = some z ∧ z.length = 1 ∧ bytesT P e = some q ∧ 0 < q ∧ (sz' = 1 ∨ xs = [] ∧ ∀ τ, o ≠ .tag τ) ∧ (xs.length + b.size) * q ≤ 140737488355328 ∧
    ((o ≠ .no ∧ K (.cell (.lst (.tag (.slot [d])) (if nl = some false then some false else none) 1 (xs ++ b.data.toList.map fun c => .val (.int .u8 c.toNat)))) (s.clean (fun _ => false) (killT o d))) ∨
     (((o = .full ∧ 0 < b.size) ∨ ∃ τ, o = .tag τ ∧ τ.ty = some e) ∧ K (.cell (.lst (.tag (.bslot e [d])) (if nl = some false then some false else none) 1 (xs ++ b.data.toList.map fun c => .val (.int .u8 c.toNat)))) (s.clean (fun _ => false) (killT o d))))
/-- 'append(x, make([]T, n)...)' -/
def aAppN (P : Program) (t t' : TypeId) (sv x : V) (d : Nat) (s : St) (K : V → St → Prop) : Prop :=
  match sv, x with
  | .w (.c (.lst o nl sz' xs)), .w (.c (.val (.string b))) => aAppZ P t t' o nl sz' xs b d s K
  | .w (.c (.lst o nl sz' xs)), .w (.c (.val (.int _ n))) => isIntT P t' = true ∧ ∃ e sz z b ds, idxT P t = some (none, e, sz) ∧ 0 < sz ∧ zeroC P e = some z ∧ z.length = sz ∧ allD z = some ds ∧ bytesT P e = some b ∧ 0 < b ∧ (sz' = sz ∨ xs = [] ∧ ∀ τ, o ≠ .tag τ) ∧ o ≠ .no ∧
    0 ≤ n ∧ n * b ≤ 140737488355328 ∧ (xs.length + n.toNat * sz) / sz * b ≤ 140737488355328 ∧ K (.cell (.lst (.tag (.slot [d])) (if nl = some false then some false else none) sz (xs ++ (List.replicate n.toNat ds).flatten))) (s.clean (fun _ => false) (killT o d))
  | _, _ => False
def aAppT (P : Program) (t t' : TypeId) (sv x : V) (d : Nat) (s : St) (K : V → St → Prop) : Prop := if t' = t then aAppX P t sv x d s K else aAppN P t t' sv x d s K
def aCopy (P : Program) (t : TypeId) (dv x : V) (s : St) (K : V → St → Prop) : Prop :=
  match dv with
  | .w (.c (.row i off n _)) => ∃ e cs, idxT P t = some (none, e, 1) ∧ hget s.heap i = some cs ∧ aSrc 1 x s fun ys =>
    off + min ys.length n ≤ cs.length ∧ K (.int .i64 (min ys.length n : Nat)) ⟨s.slots, hset s.heap i (spl cs off ((ys.take n).map D.toC))⟩
  | _ => False
end Go.Proofs.Ytamcjecgkfmjkaa
