/- The logic: operations, regions, code, functions. -/
import Derived.Test.YtamcjecgkfmjkaaAwY
import Derived.OrdersHeld
import Derived.Scope
import Derived.Deep.LoopGhost
open Go Go.RowKit
namespace Go.Proofs.Ytamcjecgkfmjkaa
set_option linter.unusedSimpArgs false

def pvV (p : Id × Nat) : V := .cell (.ptr p.1 p.2)
def aLoad (P : Program) (t : TypeId) (x : V) (s : St) (K : V → Prop) : Prop :=
  match x with
  | .w (.c (.ptr _ _)) => aLoadBox P t x s K
  | _ => aLoadMem P t x K
def aOp (P : Program) (o : Oper) (s : St) (K : V → St → Prop) : Prop :=
  match o.op with
  | .load t x => aLoad P t (s.ev x) s fun v => K v s
  | .store t x y => aStore P t (s.ev x) (s.ev y) s K
  | .convert t t' x => aConvS P t t' (s.ev x) s K
  | .alloc e => ∃ d z, o.dst = some d ∧ allocC P e = some z ∧ aNewA d z s K
  | .box _ x => ∃ d cs, o.dst = some d ∧ cellsOf (s.ev x) = some cs ∧ aNew d cs s K
  | .build t parts => aBuild P t (parts.toList.map fun p => (p.1, s.ev p.2)) fun v => K v s
  | .buildSlice t n parts => ∃ d, o.dst = some d ∧ aBuildSlice P t n (parts.toList.map fun p => (p.1, s.ev p.2)) d s K
  | .makeSlice t l c => ∃ d, o.dst = some d ∧ aMakeSlice P t (s.ev l) (s.ev c) d s K
  | .call ⟨.builtin .append, ⟨[x, y]⟩, ⟨[t, t']⟩⟩ => ∃ d, o.dst = some d ∧ aAppT P t t' (s.ev x) (s.ev y) d s K
  | .call ⟨.builtin .copy, ⟨[x, y]⟩, ⟨[t, _]⟩⟩ => aCopy P t (s.ev x) (s.ev y) s K
  | .call ⟨.value f, ⟨args⟩, _⟩ => match s.ev f with
    | .w (.c (.fn (.func k) first caps)) => aCallF P k (first.map pvV ++ args.map s.ev ++ caps.map pvV) (o.dst.getD 1000003) s K
    | _ => False
  | op => aPureOp P op s fun v => K v s

section
variable {P : Program} {E : Entry} {g : Gh} {w : World} {s : St} {a : Act}
theorem evs_rel (hs : Sim E g s a w) (l : List Operand) : All2 (RelV g) (l.map s.ev) (l.map a.eval) := by
  induction l with
  | nil => exact .nil
  | cons x l ih => exact .cons (hs.ev x) ih
theorem parts_rel (hs : Sim E g s a w) (l : List (Nat × Operand)) : All2 (fun p q => p.1 = q.1 ∧ RelV g p.2 q.2) (l.map fun p => (p.1, s.ev p.2)) (l.map fun p => (p.1, a.eval p.2)) := by
  induction l with
  | nil => exact .nil
  | cons x l ih => exact .cons ⟨rfl, hs.ev x.2⟩ ih
theorem pvs_rel (g : Gh) (l : List (Id × Nat)) : All2 (RelV g) (l.map pvV) (l.map (pv g.B)) := by
  induction l with
  | nil => exact .nil
  | cons x l ih => exact .cons rfl ih

/-- an operation that comes to a value -/
theorem wp_value {o : Oper} {next : Act → World → Prop} {Q : Exit → Act → World → Prop} {z : Value} {w' : World} (h : (execOp a.eval o).run P w = .ok (.value z) w') (hn : next (a.put o.dst z) w') : o.wp P a w next Q := by
  unfold Oper.wp; rw [h]; exact hn
theorem aOp_sound {o : Oper} {K : V → St → Prop} {next : Act → World → Prop} {Q : Exit → Act → World → Prop} (hs : Sim E g s a w) (h : aOp P o s K)
    (hn : ∀ v s' g' w' x, K v s' → Sim E g' s' a w' → RelV g' v x → next (a.put o.dst x) w') : o.wp P a w next Q := by
  have pure_ : ∀ {K' : V → Prop}, aPureOp P o.op s K' → (∀ v, K' v → K v s) → o.wp P a w next Q := fun h hk => by
    obtain ⟨r, z, h1, h2, h3⟩ := aPureOp_sound (P := P) (o := o) (ρ := a.eval) (fun x => hs.ev x) h
    exact wp_value (h3 w fun _ => hs.wi.mem) (hn r s g w z (hk r h1) hs h2)
  obtain ⟨dst, op, type, pos, after, guard⟩ := o
  unfold aOp at h
  dsimp only at h pure_ hn ⊢
  split at h
  · rename_i t x
    unfold aLoad at h
    split at h
    · obtain ⟨r, z, h1, h2, h3⟩ := sound_loadBox hs.wi (hs.ev _) h
      exact wp_value (w' := w) (z := z) (by simp [execOp, h3 w rfl]) (hn r s g w z h1 hs h2)
    · exact pure_ (K' := fun v => K v s) h fun _ h => h
  · obtain ⟨r, s', g', w', h1, h2, h3, h4⟩ := sound_store hs (hs.ev _) (hs.ev _) h
    rename_i t x y
    unfold Oper.wp
    have : (execOp a.eval { dst := dst, op := Op.store t x y, type := type, pos := pos, after := after, guard := guard }).run P w = .ok .skip w' := by
      simp only [execOp, Sem.run_bind, h4, Result.andThen_ok]; rfl
    rw [this]
    exact hn r s' g' w' undef h1 h3 (by rw [h2]; trivial)
  · rename_i t t' x
    obtain ⟨r, s', g', w', z, h1, h2, h3, h4⟩ := sound_convS hs (hs.ev x) h (fun hc => run_conv (hs.ev x) hc)
    refine wp_value (w' := w') (z := z) ?_ (hn r s' g' _ _ h1 h3 h2)
    simp only [execOp, Sem.run_bind, h4]
    rfl
  · obtain ⟨d, z, rfl, hz, h⟩ := h
    obtain ⟨ie, zv, hie, hzv, hrz, hT⟩ := allocC_spec hz
    rename_i e
    obtain ⟨r, s', g', h1, h2, h3⟩ := sound_newA (t := e) hs (ys := zv.cells) hrz hT (Grow1.alloc w _ e) h
    refine wp_value (w' := w.alloc (.cells zv.cells e)) (z := .pointer (some ⟨w.heap.size, 0, none⟩)) ?_ (hn r s' g' _ _ h1 h3 h2)
    simp [execOp, Instr.alloc, zeroValue, typeInfo, hie, hzv, newVar, newRow]
  · obtain ⟨d, cs, rfl, hc, h⟩ := h
    rename_i e x
    obtain ⟨r, s', g', h1, h2, h3, _⟩ := sound_new (t := e) hs (ys := (a.eval x).cells) (cellsOf_rel (hs.ev x) hc) (Grow1.alloc w _ e) h
    refine wp_value (w' := w.alloc (.cells (a.eval x).cells e)) (z := .pointer (some ⟨w.heap.size, 0, none⟩)) ?_ (hn r s' g' _ _ h1 h3 h2)
    simp [execOp, Instr.box, newVar, newRow]
  · rename_i t parts
    obtain ⟨z, pl, cs, hz, hpl, hf, h⟩ := h
    obtain ⟨ie, zv, hie, hzv, rfl⟩ := zeroC_spec hz
    obtain ⟨ys, hfill, hr⟩ := aFill_rel (parts_rel hs parts.toList) (ofCells_rel g zv.cells.toList) hf
    have hb : P.built t (parts.toList.map fun p => (p.1, a.eval p.2)) = some ys := by
      unfold Program.built
      split at hpl
      · rename_i hu
        obtain ⟨n, hn', rfl⟩ := hpl
        obtain ⟨i2, hi2, hi3⟩ := sizeT_info hn'
        simp only [hie, hu, hzv, hi2, hi3]
        exact hfill
      · rename_i fs hu
        obtain ⟨l, hl, rfl⟩ := hpl
        simp only [hie, hu, hzv, hl]
        simpa using hfill
      · exact hpl.elim
    have hrun := run_build (P := P) w t _ ys hb
    refine wp_value (w' := w) (z := .agg ys) ?_ (hn _ s g w _ h hs ⟨ys, rfl, hr⟩)
    have e : (parts.map fun (i, x) => (i, a.eval x)) = (parts.toList.map fun p => (p.1, a.eval p.2)).toArray := by
      apply Array.ext'; simp
    simp only [execOp, e, Sem.run_bind]
    rw [hrun]
    rfl
  · rename_i t n parts
    obtain ⟨d, rfl, h⟩ := h
    obtain ⟨r, s', g', w', z, h1, h2, h3, h4⟩ := sound_buildSlice (t := t) hs (parts_rel hs parts.toList) h
    refine wp_value (w' := w') (z := z) ?_ (hn r s' g' _ _ h1 h3 h2)
    have e : (parts.map fun (i, x) => (i, a.eval x)) = (parts.toList.map fun p => (p.1, a.eval p.2)).toArray := by
      apply Array.ext'; simp
    simp only [execOp, e, Sem.run_bind, h4]
    rfl
  · obtain ⟨d, rfl, h⟩ := h
    obtain ⟨r, s', g', w', z, h1, h2, h3, h4⟩ := sound_makeSlice hs (hs.ev _) (hs.ev _) h
    refine wp_value (w' := w') (z := z) ?_ (hn r s' g' _ _ h1 h3 h2)
    simp [execOp, h4]
  · obtain ⟨d, rfl, h⟩ := h
    obtain ⟨r, s', g', w', z, h1, h2, h3, h4⟩ := sound_appX (ty := type) hs (hs.ev _) (hs.ev _) h
    refine wp_value (w' := w') (z := z) ?_ (hn r s' g' _ _ h1 h3 h2)
    simp [execOp, resolve, invoke, builtin, h4]
  · rename_i t' 
    obtain ⟨r, s', g', w', z, h1, h2, h3, h4⟩ := sound_copy (t' := t') (ty := type) hs (hs.ev _) (hs.ev _) h
    refine wp_value (w' := w') (z := z) ?_ (hn r s' g' _ _ h1 h3 h2)
    simp [execOp, resolve, invoke, builtin, h4]
  · rename_i f args ats
    split at h
    · rename_i k first caps hf
      have hfr := hs.ev f
      rw [hf] at hfr
      have hfv : a.eval f = .func (.func k) (first.map (pv g.B)).toArray (caps.map (pv g.B)).toArray := hfr
      have hargs : All2 (RelV g) (first.map pvV ++ args.map s.ev ++ caps.map pvV) (first.map (pv g.B) ++ args.map a.eval ++ caps.map (pv g.B)) :=
        ((pvs_rel g first).append (evs_rel hs args)).append (pvs_rel g caps)
      obtain ⟨hc, hcall⟩ := sound_callF hs hargs h
      unfold Oper.wp
      have e : (execOp a.eval { dst := dst, op := Op.call ⟨.value f, ⟨args⟩, ats⟩, type := type, pos := pos, after := after, guard := guard }).run P w = .ok (.enter k (first.map (pv g.B) ++ args.map a.eval ++ caps.map (pv g.B)).toArray) w := by
        have := hc (first.map (pv g.B) ++ args.map a.eval ++ caps.map (pv g.B)).toArray w
        simp only [execOp, resolve, hfv, Deferred.ofValue, invoke, Sem.run_bind, Sem.run_pure, Result.andThen_ok]
        rw [← this]
        congr 2
        simp
      rw [e]
      refine hcall.mono ?_
      rintro e w' ⟨x, v, s', g', rfl, h1, h2, h3⟩
      exact hn v s' g' w' x h1 h3 h2
    · exact h.elim
  · exact pure_ (K' := fun v => K v s) h fun _ h => h
end

/-! ### regions -/
def aWanted (ops : Array Oper) (o : Oper) (s : St) (yes no : Prop) : Prop :=
  match o.guard with
  | none => yes
  | some (j, want) => match (ops[j]?).bind (·.dst) with
    | some t => match s.slots.getD t V.undef with
      | .w (.c (.val (.bool b))) => (b = want → yes) ∧ (b = !want → no)
      | .tup [] => no
      | _ => False
    | none => False
/-- what an operation leaves that was not wanted -/
abbrev V.off : V := .tup []
theorem off_rel {g : Gh} : RelV g V.off undef := ⟨#[], rfl, .nil⟩
def aList (P : Program) (ops : Array Oper) : List Oper → (St → Prop) → St → Prop
  | [], K, s => K s
  | o :: rest, K, s => aWanted ops o s (aOp P o s fun v s' => aList P ops rest K (s'.put o.dst v)) (aList P ops rest K (s.put o.dst V.off))

section
variable {P : Program} {E : Entry} {g : Gh} {w : World} {s : St} {a : Act}
theorem wanted_sound {ops : Array Oper} {o : Oper} {yes no : Prop} (hs : Sim E g s a w) (h : aWanted ops o s yes no) :
    (Region.wanted o (yielded ops a.tmps) = true ∧ yes) ∨ (Region.wanted o (yielded ops a.tmps) = false ∧ no) := by
  unfold aWanted at h
  split at h
  · rename_i hg; exact .inl ⟨by simp [Region.wanted, hg], h⟩
  · rename_i j want hg
    split at h
    · rename_i t ht
      split at h
      · rename_i b hb
        have hr := hs.ev (.tmp t)
        simp only [St.ev, hb] at hr
        obtain ⟨_, hv⟩ := hr
        have hlt : t < a.tmps.size := by
          rcases Nat.lt_or_ge t a.tmps.size with h | h
          · exact h
          · simp only [Act.eval] at hv
            rw [Array.getD_eq_getD_getElem?, Array.getElem?_eq_none h] at hv
            cases hv
        have hy : yielded ops a.tmps j = some b := by
          unfold yielded
          simp only [Act.eval] at hv
          rw [Array.getD_eq_getD_getElem?, Array.getElem?_eq_getElem hlt] at hv
          simp only [Option.getD_some] at hv
          simp [ht, Array.getElem?_eq_getElem hlt, hv]
        by_cases hbw : b = want
        · exact .inl ⟨by simp [Region.wanted, hg, hy, hbw], h.1 hbw⟩
        · refine .inr ⟨by simp [Region.wanted, hg, hy, hbw], h.2 ?_⟩
          cases b <;> cases want <;> simp_all
      · rename_i hb
        have hr := hs.ev (.tmp t)
        simp only [St.ev, hb] at hr
        obtain ⟨ys, hv, _⟩ := hr
        have hy : yielded ops a.tmps j = none := by
          unfold yielded
          simp only [Act.eval] at hv
          rw [Array.getD_eq_getD_getElem?] at hv
          simp only [ht, Option.bind_some]
          cases hq : a.tmps[t]? with
          | none => rfl
          | some z =>
            rw [hq] at hv
            simp only [Option.getD_some] at hv
            subst hv
            rfl
        exact .inr ⟨by simp [Region.wanted, hg, hy], h⟩
      · exact h.elim
    · exact h.elim
theorem aList_sound {ops : Array Oper} {Q : Exit → Act → World → Prop} {l : List Oper} : ∀ {g : Gh} {s : St} {a : Act} {w : World} {K : St → Prop}, Sim E g s a w → aList P ops l K s →
    (∀ s' g' a' w', K s' → Sim E g' s' a' w' → Q .normal a' w') → wpList P ops Q l a w := by
  induction l with
  | nil => intro g s a w K hs h hn; exact hn s g a w h hs
  | cons o l ih =>
    intro g s a w K hs h hn
    unfold wpList
    rcases wanted_sound hs h with ⟨hw, h⟩ | ⟨hw, h⟩
    · rw [if_pos hw]
      refine .inl (aOp_sound hs h fun v s' g' w' x hk hs' hr => ?_)
      exact ih (hs'.put hr o.dst) hk hn
    · rw [if_neg (by simp [hw])]
      exact ih (hs.put (v := V.off) off_rel o.dst) h hn
end

/-- in which order a region that draws is looked at -/
inductive Plan where
  | done
  | take (i : Nat) (p : Plan)
  | both (l : List (Nat × Plan))
def quietOp : Op → Bool
  | .move _ => true
  | .assign _ => true
  | .pick _ _ _ => true
  | .binOp _ _ _ _ _ => true
  | .unOp _ _ _ => true
  | .convert _ _ _ => true
  | .fieldAddr _ _ _ => true
  | .field _ _ _ => true
  | .indexAddr _ _ _ => true
  | .index _ _ _ => true
  | .extract _ _ => true
  | .nilCheck _ => true
  | .makeFunc _ _ _ => true
  | .makeInterface _ _ => true
  | .slice _ _ _ _ _ => true
  | .load _ _ => true
  | .call ⟨.builtin .len, _, _⟩ => true
  | .call ⟨.builtin .max, _, _⟩ => true
  | .call ⟨.builtin .min, _, _⟩ => true
  | _ => false
def allQuiet (ops : Array Oper) (listed : Array Bool) : Bool := (List.range ops.size).all fun i => listed.getD i true || ((ops[i]?).map fun o => quietOp o.op).getD true

/-- one operation out of turn -/
def aTake (P : Program) (ops : Array Oper) (i : Nat) (s : St) (K : St → Prop) : Prop :=
  match ops[i]? with
  | some o => aWanted ops o s (match o.op with
      | .load t x => aLoad P t (s.ev x) s fun v => K (s.put o.dst v)
      | op => aPureOp P op s fun v => K (s.put o.dst v)) (K (s.put o.dst V.off))
  | none => False
def takesOnly : Plan → Bool
  | .done => true
  | .take _ p => takesOnly p
  | .both _ => false
mutual
def planOK (ops : Array Oper) : Nat → Array Bool → Plan → Bool
  | _, listed, .done => (Region.ready .any ops listed).isEmpty
  | 0, _, _ => false
  | n + 1, listed, .take i p => (Region.ready .any ops listed).contains i && Region.free .any ops listed i && (match ops[i]? with
      | some o => quietOp o.op && (!isLoad o.op || (allQuiet ops listed && takesOnly p))
      | none => false) && planOK ops n (listed.setIfInBounds i true) p
  | n + 1, listed, .both l => !l.isEmpty && (Region.ready .any ops listed == l.map (·.1)) && plansOK ops n listed l
def plansOK (ops : Array Oper) : Nat → Array Bool → List (Nat × Plan) → Bool
  | _, _, [] => true
  | n, listed, (i, p) :: l => planOK ops n (listed.setIfInBounds i true) p && plansOK ops n listed l
end
mutual
def aPlan (P : Program) (ops : Array Oper) : Plan → (St → Prop) → St → Prop
  | .done, K, s => K s
  | .take i p, K, s => aTake P ops i s (aPlan P ops p K)
  | .both l, K, s => aPlans P ops l K s
def aPlans (P : Program) (ops : Array Oper) : List (Nat × Plan) → (St → Prop) → St → Prop
  | [], _, _ => True
  | (i, p) :: l, K, s => (match ops[i]? with
      | some o => aWanted ops o s (aOp P o s fun v s' => aPlan P ops p K (s'.put o.dst v)) (aPlan P ops p K (s.put o.dst V.off))
      | none => False) ∧ aPlans P ops l K s
end

section
variable {P : Program} {E : Entry} {g : Gh} {w : World} {s : St} {a : Act}
theorem Sim.sameHeap {w' : World} (hs : Sim E g s a w) (hh : w'.heap = w.heap) (ho : w'.os = w.os) (ht : w'.tape = w.tape) (hp : w'.output = w.output) : Sim E g s a w' := by
  have hc : ∀ ad, w'.cell? ad = w.cell? ad := fun ad => cell_eq (by rw [hh])
  refine ⟨hs.slots, hs.defers, ⟨fun ad v ha => by rw [hc]; exact hs.wi.mem ad v ha, fun i cs hi => by rw [hh]; exact hs.wi.box i cs hi, hs.wi.inj, hs.wi.boxM, fun t r ht => by rw [hh]; exact hs.wi.own t r ht, hs.wi.ownB, hs.wi.ownI⟩, ?_⟩
  exact ⟨ho.trans hs.cum.os, ht.trans hs.cum.tape, hp.trans hs.cum.output, by rw [hh]; exact hs.cum.size, fun k h1 h2 => by rw [hh]; exact hs.cum.unch k h1 h2, hs.cum.foot, hs.cum.mem, hs.cum.memN, hs.cum.argB⟩
/-- what is taken out of turn yields its value -/
theorem take_sound {ops : Array Oper} {i : Nat} {o : Oper} {K : St → Prop} (hi : ops[i]? = some o) (hs : Sim E g s a w) (h : aTake P ops i s K) :
    ∃ v z, K (s.put o.dst v) ∧ RelV g v z ∧ (isLoad o.op = false → YieldsIf P ops (fun _ => True) o z a) ∧ YieldsIf P ops (fun w' => w'.heap = w.heap) o z a := by
  unfold aTake at h
  rw [hi] at h
  simp only at h
  rcases wanted_sound hs h with ⟨hw, h⟩ | ⟨hw, h⟩
  · have pure_ : ∀ {K' : V → Prop}, aPureOp P o.op s K' → ∃ v z, K' v ∧ RelV g v z ∧ (isLoad o.op = false → YieldsIf P ops (fun _ => True) o z a) ∧ YieldsIf P ops (fun w' => w'.heap = w.heap) o z a := fun h => by
      obtain ⟨r, z, h1, h2, h3⟩ := aPureOp_sound (P := P) (o := o) (ρ := a.eval) (fun x => hs.ev x) h
      exact ⟨r, z, h1, h2, fun hl => .inl ⟨hw, fun w' _ => h3 w' fun e => by rw [hl] at e; cases e⟩, .inl ⟨hw, fun w' hh => h3 w' fun _ => fun ad v ha => (cell_eq (w := w) (w' := w') (by rw [hh])).trans (hs.wi.mem ad v ha)⟩⟩
    obtain ⟨dst, op, type, pos, after, guard⟩ := o
    simp only at h pure_ ⊢
    split at h
    · rename_i t x
      unfold aLoad at h
      split at h
      · obtain ⟨r, z, h1, h2, h3⟩ := sound_loadBox hs.wi (hs.ev _) h
        exact ⟨r, z, h1, h2, (fun hl => (by cases hl)), .inl ⟨hw, fun w' hh => by simp [execOp, h3 w' hh]⟩⟩
      · exact pure_ (K' := fun v => K (s.put dst v)) h
    · exact pure_ (K' := fun v => K (s.put dst v)) h
  · exact ⟨V.off, undef, h, off_rel, fun _ => .inr ⟨hw, rfl⟩, .inr ⟨hw, rfl⟩⟩
theorem wpAnyH_imp {md : Region.Mode} {ops : Array Oper} {Q : Exit → Act → World → Prop} {S S' : World → Prop} (h : ∀ w, S w → S' w) : ∀ (fuel : Nat) (listed : Array Bool) (a : Act) (w : World), wpAnyH P md ops Q S fuel listed a w → wpAnyH P md ops Q S' fuel listed a w
  | 0, _, _, _, H => H
  | fuel + 1, _, _, _, H => ⟨H.1, fun i hi => wpOp_mono (fun a' w' h' => ⟨h _ h'.1, wpAnyH_imp h fuel _ a' w' h'.2⟩) (H.2 i hi)⟩
section
variable {ops : Array Oper} {Q : Exit → Act → World → Prop} {K : St → Prop} (hsel : Region.noSelect ops = true) (hQ : ∀ c a w, ¬ Q (.panic c) a w) (hK : ∀ s' g' a' w', K s' → Sim E g' s' a' w' → Q .normal a' w')
include hsel hQ hK
theorem takes_sound {heap : Array Obj} : ∀ (n : Nat) (p : Plan) (listed : Array Bool) (g : Gh) (s : St) (a : Act) (w : World), takesOnly p = true → planOK ops n listed p = true → aPlan P ops p K s → Sim E g s a w → w.heap = heap →
    wpAnyH P .any ops Q (fun w' => w'.heap = heap) n listed a w := by
  intro n
  induction n with
  | zero =>
    intro p listed g s a w ht hp h hs hh
    cases p with
    | done =>
      simp only [planOK] at hp
      exact wpAnyH_done (by simpa using hp) (hK s g a w (by simpa [aPlan] using h) hs) _
    | take i p => simp [planOK] at hp
    | both l => simp [takesOnly] at ht
  | succ n ih =>
    intro p listed g s a w ht hp h hs hh
    cases p with
    | done =>
      simp only [planOK] at hp
      exact wpAnyH_done (by simpa using hp) (hK s g a w (by simpa [aPlan] using h) hs) _
    | take i p =>
      simp only [planOK, Bool.and_eq_true] at hp
      obtain ⟨⟨⟨h1, h2⟩, h3⟩, h4⟩ := hp
      cases ho : ops[i]? with
      | none => rw [ho] at h3; simp at h3
      | some o =>
        simp only [aPlan] at h
        obtain ⟨v, z, hk, hr, _, hy⟩ := take_sound ho hs h
        have hy' : YieldsIf P ops (fun w' => w'.heap = heap) o z a := by rw [← hh]; exact hy
        exact wpAnyH_take ho hsel h2 h1 (fun c a w hq => absurd hq (hQ c _ w)) hy' hh (ih p _ g _ _ w (by simpa [takesOnly] using ht) h4 hk (hs.put hr o.dst) hh)
    | both l => simp [takesOnly] at ht
theorem plan_sound : ∀ (n : Nat) (p : Plan) (listed : Array Bool) (g : Gh) (s : St) (a : Act) (w : World), planOK ops n listed p = true → aPlan P ops p K s → Sim E g s a w →
    wpAnyH P .any ops Q (fun _ => True) n listed a w := by
  intro n
  induction n with
  | zero =>
    intro p listed g s a w hp h hs
    cases p with
    | done =>
      simp only [planOK] at hp
      exact wpAnyH_done (by simpa using hp) (hK s g a w (by simpa [aPlan] using h) hs) _
    | take i p => simp [planOK] at hp
    | both l => simp [planOK] at hp
  | succ n ih =>
    intro p listed g s a w hp h hs
    cases p with
    | done =>
      simp only [planOK] at hp
      exact wpAnyH_done (by simpa using hp) (hK s g a w (by simpa [aPlan] using h) hs) _
    | take i p =>
      have hp0 := hp
      simp only [planOK, Bool.and_eq_true] at hp
      obtain ⟨⟨⟨h1, h2⟩, h3⟩, h4⟩ := hp
      cases ho : ops[i]? with
      | none => rw [ho] at h3; simp at h3
      | some o =>
        rw [ho] at h3
        simp only [Bool.and_eq_true, Bool.or_eq_true] at h3
        cases hl : isLoad o.op with
        | true =>
          rw [hl] at h3
          obtain ⟨_, h3⟩ := h3
          rcases h3 with h3 | ⟨_, h3⟩
          · cases h3
          · exact wpAnyH_imp (fun _ _ => trivial) _ _ _ _ (takes_sound (heap := w.heap) hsel hQ hK (n + 1) (.take i p) listed g s a w (by simpa [takesOnly] using h3) hp0 h hs rfl)
        | false =>
          simp only [aPlan] at h
          obtain ⟨v, z, hk, hr, hy, _⟩ := take_sound ho hs h
          exact wpAnyH_take ho hsel h2 h1 (fun c a w hq => absurd hq (hQ c _ w)) (hy hl) trivial (ih p _ g _ _ w h4 hk (hs.put hr o.dst))
    | both l =>
      simp only [planOK, Bool.and_eq_true] at hp
      obtain ⟨⟨h1, h2⟩, h3⟩ := hp
      have hrd : Region.ready .any ops listed = l.map (·.1) := by simpa using h2
      refine wpAnyH_all hrd (by cases l <;> simp at h1 ⊢) fun i hi => ?_
      simp only [aPlan] at h
      clear h1 h2 hrd
      induction l with
      | nil => simp at hi
      | cons q l ihl =>
        obtain ⟨j, p⟩ := q
        simp only [plansOK, Bool.and_eq_true] at h3
        simp only [aPlans] at h
        by_cases hij : i = j
        · subst hij
          unfold wpOp
          cases ho : ops[i]? with
          | none => rw [ho] at h; exact h.1.elim
          | some o =>
            rw [ho] at h
            simp only
            rcases wanted_sound hs h.1 with ⟨hw, h⟩ | ⟨hw, h⟩
            · rw [if_pos hw]
              exact .inl (aOp_sound hs h fun v s' g' w' x hk hs' hr => ⟨trivial, ih p _ g' _ _ w' h3.1 hk (hs'.put hr o.dst)⟩)
            · rw [if_neg (by simp [hw])]
              exact ⟨trivial, ih p _ g _ _ w h3.1 h (hs.put (v := V.off) off_rel o.dst)⟩
        · have hi' : i ∈ l.map (·.1) := by
            simp only [List.map_cons, List.mem_cons] at hi
            rcases hi with hi | hi
            · exact absurd hi hij
            · exact hi
          first | exact ihl h.2 h3.2 hi' | exact ihl h.2 hi' h3.2 | exact ihl hi' h3.2 h.2 | exact ihl hi' h.2 h3.2 | exact ihl h3.2 hi' h.2
end
end

/-! ### code -/
inductive AExit where
  | normal
  | exit (i : Nat)
  | ret
def AExit.conc : AExit → Exit
  | .normal => .normal
  | .exit i => .exit i
  | .ret => .ret
def thenK (K : St → Prop) (Q : AExit → St → Prop) : AExit → St → Prop
  | .normal, s => K s
  | e, s => Q e s
def blockK (id : Nat) (Q : AExit → St → Prop) : AExit → St → Prop
  | .exit i, s => if i = id then Q .normal s else Q (.exit i) s
  | e, s => Q e s
def aCond (c : V) (x y : Prop) : Prop :=
  match c with
  | .w (.c (.val (.bool b))) => (b = true → x) ∧ (b = false → y)
  | _ => False
def aReg (P : Program) (ops : Array Oper) (draw : Bool) (K : St → Prop) (s : St) : Prop :=
  match draw with
  | false => aList P ops ops.toList K s
  | true => ∃ p, Region.noSelect ops = true ∧ planOK ops ops.size (Array.replicate ops.size false) p = true ∧ aPlan P ops p (fun s' => ∃ s'', leS s'' s' ∧ K s'') s
def awp (P : Program) : Code → (AExit → St → Prop) → St → Prop
  | .skip, Q, s => Q .normal s
  | .region _ ops draw, Q, s => aReg P ops draw (Q .normal) s
  | .seq a b, Q, s => awp P a (thenK (awp P b Q) Q) s
  | .cond c a b, Q, s => aCond (s.ev c) (awp P a Q s) (awp P b Q s)
  | .block id c, Q, s => awp P c (blockK id Q) s
  | .loop c, Q, s => ∃ (I : Nat → St → Prop) (n₀ : Nat), (∃ s', leS s' s ∧ I n₀ s') ∧ ∀ n s, I n s → awp P c (thenK (fun s' => ∃ m, m < n ∧ ∃ s'', leS s'' s' ∧ I m s'') Q) s
  | .exit id, Q, s => Q (.exit id) s
  | .scope c, Q, s => awp P c Q s
  | .ret, Q, s => Q .ret s
  | _, _, _ => False

theorem awp_sound {P : Program} {E : Entry} (hm : P.follows .mixedOrders = true) (c : Code) : ∀ {g : Gh} {s : St} {a : Act} {w : World} {Q : AExit → St → Prop} {Q' : Exit → Act → World → Prop}, Sim E g s a w → awp P c Q s →
    (∀ e s' g' a' w', Q e s' → Sim E g' s' a' w' → Q' e.conc a' w') → c.wp P Q' a w := by
  induction c with
  | skip => intro g s a w Q Q' hs h hn; exact wp_skip (hn .normal s g a w h hs)
  | region id ops draw =>
    intro g s a w Q Q' hs h hn
    cases draw with
    | false => exact wp_region_list (aList_sound hs h fun s' g' a' w' hk hs' => hn .normal s' g' a' w' hk hs')
    | true =>
      obtain ⟨p, hsel, hp, h⟩ := h
      let Q0 : Exit → Act → World → Prop := fun e a w => match e with
        | .panic _ => False
        | e => Q' e a w
      have h0 : (Code.region id ops true).wp P Q0 a w := by
        refine wp_region_held (S := fun _ => True) hm ?_
        exact plan_sound (E := E) (Q := Q0) (K := fun s' => ∃ s'', leS s'' s' ∧ Q .normal s'') hsel (fun c a w hq => hq) (fun s' g' a' w' ⟨s'', hle, hk⟩ hs' => hn .normal s'' g' a' w' hk (hs'.le hle)) ops.size p _ g s a _ hp h (hs.sameHeap rfl rfl rfl rfl)
      refine wp_mono h0 fun e a w hq => ?_
      cases e <;> first | exact hq | exact hq.elim
  | seq x y ihx ihy =>
    intro g s a w Q Q' hs h hn
    refine wp_seq (ihx hs h fun e s' g' a' w' hk hs' => ?_)
    cases e with
    | normal => exact ihy hs' hk hn
    | exit i => exact hn (.exit i) s' g' a' w' hk hs'
    | ret => exact hn .ret s' g' a' w' hk hs'
  | cond c x y ihx ihy =>
    intro g s a w Q Q' hs h hn
    simp only [awp] at h
    unfold aCond at h
    split at h
    · rename_i b hb
      have hr := hs.ev c
      rw [hb] at hr
      obtain ⟨_, hv⟩ := hr
      exact wp_cond_split hv (fun e => ihx hs (h.1 e) hn) (fun e => ihy hs (h.2 e) hn)
    · exact h.elim
  | block id c ih =>
    intro g s a w Q Q' hs h hn
    refine wp_block (ih hs h fun e s' g' a' w' hk hs' => ?_)
    cases e with
    | normal => exact hn .normal s' g' a' w' hk hs'
    | exit i =>
      simp only [blockK] at hk
      show Exit.inBlock id Q' (.exit i) a' w'
      simp only [Exit.inBlock]
      split
      · rename_i e; rw [if_pos e] at hk; exact hn .normal s' g' a' w' hk hs'
      · rename_i e; rw [if_neg e] at hk; exact hn (.exit i) s' g' a' w' hk hs'
    | ret => exact hn .ret s' g' a' w' hk hs'
  | loop c ih =>
    intro g s a w Q Q' hs h hn
    obtain ⟨I, n₀, ⟨s0, hle, h0⟩, hr⟩ := h
    refine wp_loop_ghost (fun n a w => ∃ g s, I n s ∧ Sim E g s a w) n₀ ⟨g, _, h0, hs.le hle⟩ ?_
    rintro n a w ⟨g, s, hI, hs⟩
    refine ih hs (hr n s hI) fun e s' g' a' w' hk hs' => ?_
    cases e with
    | normal => obtain ⟨m, hm, s'', hle', hI'⟩ := hk; exact ⟨m, hm, g', _, hI', hs'.le hle'⟩
    | exit i => exact hn (.exit i) s' g' a' w' hk hs'
    | ret => exact hn .ret s' g' a' w' hk hs'
  | exit id => intro g s a w Q Q' hs h hn; exact wp_exit (hn (.exit id) s g a w h hs)
  | scope c ih =>
    intro g s a w Q Q' hs h hn
    refine wp_scope_straight (ih hs h fun e s' g' a' w' hk hs' => ?_)
    cases e <;> exact hn _ s' g' a' w' hk hs'
  | ret => intro g s a w Q Q' hs h hn; exact wp_ret (hn .ret s g a w h hs)
  | rangeFunc => intro g s a w Q Q' hs h hn; exact h.elim
  | label => intro g s a w Q Q' hs h hn; exact h.elim
  | goto => intro g s a w Q Q' hs h hn; exact h.elim
  | refuse => intro g s a w Q Q' hs h hn; exact h.elim
end Go.Proofs.Ytamcjecgkfmjkaa
