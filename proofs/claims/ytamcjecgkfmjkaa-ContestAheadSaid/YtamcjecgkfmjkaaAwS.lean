/- The logic: how memory and its words go on together: boxes made and written, rows made. -/
import Derived.Test.YtamcjecgkfmjkaaAwQ
open Go Go.RowKit
namespace Go.Proofs.Ytamcjecgkfmjkaa
set_option linter.unusedSimpArgs false

theorem cell_eq {w w' : World} {a : Addr} (h : w'.heap[a.block]? = w.heap[a.block]?) : w'.cell? a = w.cell? a := World.cell?_of_block h
theorem cell_row {w : World} {k : Nat} {ys : Array Value} {t : TypeId} {fr : Nat × Nat} (h : w.heap[k]? = some (.cells ys t fr)) (o : Nat) : w.cell? ⟨k, o, none⟩ = ys[o]? := by
  simp [World.cell?, h]
theorem spot_none {w : World} {a : Addr} {v : Value} (h : w.cell? a = some v) : a.spot = none := by
  unfold World.cell? at h
  split at h
  · split at h
    · cases h
    · rename_i hs; simpa using hs
  · cases h

section
variable {E : Entry} {g g' : Gh} {h : Heap} {w w' : World} {s : St} {a : Act} {bi : Id → Bool} {bt : Tag → Bool}

/-- what is struck -/
theorem WI.clean (hw : WI g h w) (hM : g'.M = g.M) (hB : ∀ i, bi i = false → g'.B i = g.B i) (hO : ∀ t, g'.O t = if bt t then none else g.O t) : WI g' (hclean bi bt h) w := by
  have hb : ∀ i cs, hget (hclean bi bt h) i = some cs → bi i = false ∧ ∃ cs0, hget h i = some cs0 ∧ cs = cs0.map (C.clean bi bt) := by
    intro i cs hi
    rw [hget_hclean] at hi
    cases hq : bi i with
    | true => rw [hq] at hi; cases hi
    | false =>
      rw [hq] at hi
      cases hc : hget h i with
      | none => rw [hc] at hi; cases hi
      | some c => rw [hc] at hi; cases hi; exact ⟨rfl, _, rfl, rfl⟩
  have ho : ∀ t r, g'.O t = some r → g.O t = some r := by
    intro t r ht; rw [hO] at ht; split at ht
    · cases ht
    · exact ht
  refine ⟨?_, ?_, ?_, ?_, ?_, ?_, ?_⟩
  · intro a v ha; rw [hM] at ha; exact hw.mem a v ha
  · intro i cs hi
    obtain ⟨hbi, cs0, h0, rfl⟩ := hb i cs hi
    obtain ⟨ys, t, h1, h2, hT⟩ := hw.box i cs0 h0
    refine ⟨ys, t, by rw [hB i hbi]; exact h1, h2.map fun c y hc => ?_, hT.mapf clean_typ⟩
    exact RelC.clean (fun a v ha => by rw [hM]; exact ha) hB (fun t ht => by rw [hO, if_neg (by simp [ht])]) hc
  · intro i j cs ds hi hj e
    obtain ⟨hbi, cs0, h0, rfl⟩ := hb i cs hi
    obtain ⟨hbj, ds0, h1, rfl⟩ := hb j ds hj
    rw [hB i hbi, hB j hbj] at e
    exact hw.inj i j _ _ h0 h1 e
  · intro i cs a v hi ha
    obtain ⟨hbi, cs0, h0, rfl⟩ := hb i cs hi
    rw [hM] at ha
    rw [hB i hbi]
    exact hw.boxM i _ a v h0 ha
  · intro t r ht
    obtain ⟨cur, h1, h2, h3, h4, h5⟩ := hw.own t r (ho t r ht)
    exact ⟨cur, h1, h2, h3, h4, by rw [hM]; exact h5⟩
  · intro t r i cs ht hi
    obtain ⟨hbi, cs0, h0, rfl⟩ := hb i cs hi
    rw [hB i hbi]
    exact hw.ownB t r i _ (ho t r ht) h0
  · intro t t' r r' h1 h2 e
    exact hw.ownI t t' r r' (ho t r h1) (ho t' r' h2) e
theorem Sim.clean (hs : Sim E g s a w) (hM : g'.M = g.M) (hB : ∀ i, bi i = false → g'.B i = g.B i) (hO : ∀ t, g'.O t = if bt t then none else g.O t) (hA : ∀ k, g'.B (.arg k) = g.B (.arg k)) :
    Sim E g' (s.clean bi bt) a w := by
  have hO' : ∀ t, bt t = false → g'.O t = g.O t := fun t ht => by rw [hO, if_neg (by simp [ht])]
  refine ⟨hs.slots.map fun v x hv => RelV.clean (fun a v ha => by rw [hM]; exact ha) hB hO' hv, hs.defers, hs.wi.clean hM hB hO, ?_⟩
  refine hs.cum.trans ⟨rfl, rfl, rfl, Nat.le_refl _, fun _ _ _ => rfl, ?_, fun a v ha => by rw [hM]; exact ha, fun a v ha => .inl (by rw [hM] at ha; exact ha), hA⟩
  rintro k (⟨i, cs, hi, rfl⟩ | ⟨t, r, ht, rfl⟩)
  · simp only [St.clean] at hi
    rw [hget_hclean] at hi
    cases hq : bi i with
    | true => rw [hq] at hi; cases hi
    | false =>
      rw [hq] at hi
      cases hc : hget s.heap i with
      | none => rw [hc] at hi; cases hi
      | some c => exact .inl (.inl ⟨i, c, hc, (hB i hq).symm⟩)
  · rw [hO] at ht
    split at ht
    · cases ht
    · exact .inl (.inr ⟨t, r, ht, rfl⟩)

/-- one block more -/
structure Grow1 (w w' : World) (ys : Array Value) (t : TypeId) : Prop where
  os : w'.os = w.os
  tape : w'.tape = w.tape
  output : w'.output = w.output
  size : w'.heap.size = w.heap.size + 1
  old : ∀ k, k < w.heap.size → w'.heap[k]? = w.heap[k]?
  new : w'.heap[w.heap.size]? = some (.cells ys t (0, 0))
theorem Grow1.alloc (w : World) (ys : Array Value) (t : TypeId) : Grow1 w (w.alloc (.cells ys t)) ys t :=
  ⟨rfl, rfl, rfl, by simp, fun k hk => Below.heap_alloc w _ k hk, heap_alloc_new w _⟩
theorem Grow1.allocDrew (w : World) (ys : Array Value) (t : TypeId) : Grow1 w (w.drew.alloc (.cells ys t)) ys t :=
  ⟨rfl, rfl, rfl, by simp, fun k hk => Below.heap_alloc w.drew _ k hk, heap_alloc_new w.drew _⟩
variable {ys : Array Value} {t : TypeId}
theorem Grow1.cell (hg : Grow1 w w' ys t) {a : Addr} {v : Value} (h : w.cell? a = some v) : w'.cell? a = some v := by
  rw [cell_eq (hg.old _ (World.block_lt_of_cell? w a h))]; exact h

theorem WI.addBox (hw : WI g h w) (hg : Grow1 w w' ys t) {i : Id} {cs : List C} (hB : g.B i = w.heap.size) (hr : All2 (RelC g) cs ys.toList) (hT : tyOK t cs) : WI g ((i, cs) :: h) w' := by
  have hb : ∀ j ds, hget ((i, cs) :: h) j = some ds → (j = i ∧ ds = cs) ∨ (j ≠ i ∧ hget h j = some ds) := by
    intro j ds hj
    simp only [hget] at hj
    split at hj
    · rename_i e; cases hj; exact .inl ⟨e.symm, rfl⟩
    · rename_i e; exact .inr ⟨fun e' => e e'.symm, hj⟩
  have lt : ∀ j ds, hget h j = some ds → g.B j < w.heap.size := fun j ds hj => by obtain ⟨_, _, h1, _⟩ := hw.box j ds hj; exact block_lt h1
  refine ⟨fun a v ha => hg.cell (hw.mem a v ha), ?_, ?_, ?_, ?_, ?_, hw.ownI⟩
  · intro j ds hj
    rcases hb j ds hj with ⟨rfl, rfl⟩ | ⟨_, hj⟩
    · exact ⟨ys, t, by rw [hB]; exact hg.new, hr, hT⟩
    · obtain ⟨zs, u, h1, h2⟩ := hw.box j ds hj
      exact ⟨zs, u, by rw [hg.old _ (lt j ds hj)]; exact h1, h2⟩
  · intro j k ds es hj hk e
    rcases hb j ds hj with ⟨e1, _⟩ | ⟨hji, hj'⟩ <;> rcases hb k es hk with ⟨e2, _⟩ | ⟨hki, hk'⟩
    · rw [e1, e2]
    · have := lt k es hk'; rw [e1] at e; omega
    · have := lt j ds hj'; rw [e2] at e; omega
    · exact hw.inj j k _ _ hj' hk' e
  · intro j ds a v hj ha
    rcases hb j ds hj with ⟨rfl, rfl⟩ | ⟨_, hj⟩
    · have := hw.mem_lt ha; omega
    · exact hw.boxM j ds a v hj ha
  · intro t r ht
    obtain ⟨cur, h1, h2⟩ := hw.own t r ht
    exact ⟨cur, by rw [hg.old _ (block_lt h1)]; exact h1, h2⟩
  · intro t r j ds ht hj
    obtain ⟨cur, h1, h2⟩ := hw.own t r ht
    have := block_lt h1
    rcases hb j ds hj with ⟨rfl, rfl⟩ | ⟨_, hj⟩
    · omega
    · exact hw.ownB t r j ds ht hj
theorem Sim.addBox (hs : Sim E g s a w) (hg : Grow1 w w' ys t) {i : Id} {cs : List C} (hB : g.B i = w.heap.size) (hr : All2 (RelC g) cs ys.toList) (hT : tyOK t cs) : Sim E g ⟨s.slots, (i, cs) :: s.heap⟩ a w' := by
  refine ⟨hs.slots, hs.defers, hs.wi.addBox hg hB hr hT, hs.cum.trans ⟨hg.os, hg.tape, hg.output, by show w.heap.size ≤ _; rw [hg.size]; omega, fun k hk _ => hg.old k hk, ?_, fun _ _ h => h, fun _ _ h => .inl h, fun _ => rfl⟩⟩
  rintro k (⟨j, ds, hj, rfl⟩ | ⟨t, r, ht, rfl⟩)
  · simp only [hget] at hj
    split at hj
    · rename_i e; subst e; exact .inr (by show w.heap.size ≤ _; omega)
    · exact .inl (.inl ⟨j, ds, hj, rfl⟩)
  · exact .inl (.inr ⟨t, r, ht, rfl⟩)

/-- memory that is read from now on: a row of cells in a block -/
def addM (M : Addr → Option Value) (k : Nat) (ys : List Value) : Addr → Option Value := fun a => if a.block = k ∧ a.spot = none ∧ a.off < ys.length then ys[a.off]? else M a
theorem addM_get {M : Addr → Option Value} {k : Nat} {ys : List Value} {i : Nat} {v : Value} (h : ys[i]? = some v) : addM M k ys ((⟨k, 0, none⟩ : Addr).add i) = some v := by
  rw [add_mk, Nat.zero_add]
  unfold addM
  rw [if_pos ⟨rfl, rfl, (List.getElem?_eq_some_iff.1 h).1⟩]
  exact h
theorem addM_old {M : Addr → Option Value} {k : Nat} {ys : List Value} (hn : ∀ a v, M a = some v → a.block = k → a.off < ys.length → ys[a.off]? = some v) {a : Addr} {v : Value} (h : M a = some v) : addM M k ys a = some v := by
  unfold addM
  split
  · rename_i hc; exact hn a v h hc.1 hc.2.2
  · exact h
theorem addM_inv {M : Addr → Option Value} {k : Nat} {ys : List Value} {a : Addr} {v : Value} (h : addM M k ys a = some v) : M a = some v ∨ (a.block = k ∧ a.spot = none ∧ a.off < ys.length ∧ ys[a.off]? = some v) := by
  unfold addM at h
  split at h
  · rename_i hc; exact .inr ⟨hc.1, hc.2.1, hc.2.2, h⟩
  · exact .inl h

/-- a row that is made: it may be read, and it is somebody's -/
theorem Sim.addRow (hs : Sim E g s a w) (hg : Grow1 w w' ys t) {τ : Tag} {n c sz : Nat} (hτ : g.O τ = none) (hc : ys.size = c * sz) (hn : n ≤ c) (hm : c ≤ maxLen)
    (hM : g'.M = addM g.M w.heap.size (ys.toList.take (n * sz))) (hB : g'.B = g.B) (hO : ∀ u, g'.O u = if u = τ then some ⟨w.heap.size, n, c, sz, t⟩ else g.O u) : Sim E g' s a w' := by
  have hold : ∀ a v, g.M a = some v → a.block = w.heap.size → a.off < (ys.toList.take (n * sz)).length → (ys.toList.take (n * sz))[a.off]? = some v := fun a v ha e => by
    have := hs.wi.mem_lt ha; omega
  have hMm : ∀ a v, g.M a = some v → g'.M a = some v := fun a v ha => by rw [hM]; exact addM_old hold ha
  have hOm : ∀ u r, g.O u = some r → g'.O u = some r := fun u r hu => by
    rw [hO, if_neg]; exact hu
    rintro rfl; rw [hτ] at hu; cases hu
  have lt : ∀ j ds, hget s.heap j = some ds → g.B j < w.heap.size := fun j ds hj => by obtain ⟨_, _, h1, _⟩ := hs.wi.box j ds hj; exact block_lt h1
  have relC : ∀ c y, RelC g c y → RelC g' c y := by
    intro c y hc
    cases c with
    | undef => trivial
    | val x => exact hc
    | lst o nl sz' xs =>
      refine ⟨hc.1.mono hMm, ?_⟩
      cases o with
      | no => trivial
      | full => exact hc.2
      | tag u =>
        rcases hc.2 with h | ⟨r, h1, h2⟩
        · exact .inl h
        · exact .inr ⟨r, hOm u r h1, h2⟩
    | ptr i o => show y = _; rw [hB]; exact hc
    | mem xs => obtain ⟨a, h1, h2⟩ := hc; exact ⟨a, h1, h2.mono hMm⟩
    | row i o n c => show y = _; rw [hB]; exact hc
    | fn f x y' => show y = _; rw [hB]; exact hc
    | typ => exact hc
    | ifc => exact hc
  have relW : ∀ c y, RelW g c y → RelW g' c y := by
    intro c y hc
    cases c with
    | c x => exact relC _ _ hc
    | agg cs => obtain ⟨ys, h1, h2⟩ := hc; exact ⟨ys, h1, h2.mono relC⟩
  have relV : ∀ c y, RelV g c y → RelV g' c y := by
    intro c y hc
    cases c with
    | w x => exact relW _ _ hc
    | tup cs => obtain ⟨ys, h1, h2⟩ := hc; exact ⟨ys, h1, h2.mono relW⟩
  refine ⟨hs.slots.mono relV, hs.defers, ⟨?_, ?_, ?_, ?_, ?_, ?_, ?_⟩, hs.cum.trans ⟨hg.os, hg.tape, hg.output, by show w.heap.size ≤ _; rw [hg.size]; omega, fun k hk _ => hg.old k hk, ?_, hMm, ?_, fun k => by rw [hB]; rfl⟩⟩
  · intro a v ha
    rw [hM] at ha
    rcases addM_inv ha with ha | ⟨h1, h2, h3, h4⟩
    · exact hg.cell (hs.wi.mem a v ha)
    · obtain ⟨b, o, sp⟩ := a
      simp only at h1 h2 h3 h4
      subst h1; subst h2
      rw [cell_row hg.new, ← Array.getElem?_toList]
      rw [List.getElem?_take] at h4
      split at h4
      · exact h4
      · cases h4
  · intro j ds hj
    obtain ⟨zs, u, h1, h2, hT⟩ := hs.wi.box j ds hj
    exact ⟨zs, u, by rw [hB, hg.old _ (lt j ds hj)]; exact h1, h2.mono relC, hT⟩
  · intro i j cs ds hi hj e; rw [hB] at e; exact hs.wi.inj i j _ _ hi hj e
  · intro j ds a v hj ha
    rw [hB]
    rw [hM] at ha
    rcases addM_inv ha with ha | ⟨h1, _⟩
    · exact hs.wi.boxM j ds a v hj ha
    · have := lt j ds hj; omega
  · intro u r hu
    rw [hO] at hu
    split at hu
    · cases hu
      refine ⟨ys, hg.new, hc, hn, hm, fun a v ha hb => ?_⟩
      rw [hM] at ha
      rcases addM_inv ha with ha | ⟨_, _, h3, _⟩
      · have := hs.wi.mem_lt ha; simp only at hb; omega
      · simp only [List.length_take] at h3; simp only; omega
    · obtain ⟨cur, h1, h2, h3, h4, h5⟩ := hs.wi.own u r hu
      have := block_lt h1
      refine ⟨cur, by rw [hg.old _ this]; exact h1, h2, h3, h4, fun a v ha hb => ?_⟩
      rw [hM] at ha
      rcases addM_inv ha with ha | ⟨h6, _⟩
      · exact h5 a v ha hb
      · omega
  · intro u r j ds hu hj
    rw [hB]
    have := lt j ds hj
    rw [hO] at hu
    split at hu
    · cases hu; simp only; omega
    · exact hs.wi.ownB u r j ds hu hj
  · intro u u' r r' h1 h2 e
    have own_lt : ∀ u r, g.O u = some r → r.blk < w.heap.size := fun u r hu => by obtain ⟨cur, h1, _⟩ := hs.wi.own u r hu; exact block_lt h1
    rw [hO] at h1 h2
    split at h1 <;> split at h2
    · rename_i e1 e2; rw [e1, e2]
    · cases h1; have := own_lt _ _ h2; simp only at e; omega
    · cases h2; have := own_lt _ _ h1; simp only at e; omega
    · exact hs.wi.ownI u u' r r' h1 h2 e
  · rintro k (⟨j, ds, hj, rfl⟩ | ⟨u, r, hu, rfl⟩)
    · rw [hB]; exact .inl (.inl ⟨j, ds, hj, rfl⟩)
    · rw [hO] at hu
      split at hu
      · cases hu; exact .inr (Nat.le_refl _)
      · exact .inl (.inr ⟨u, r, hu, rfl⟩)
  · intro a v ha
    rw [hM] at ha
    rcases addM_inv ha with ha | ⟨h1, _⟩
    · exact .inl ha
    · exact .inr (.inr (by show w.heap.size ≤ _; omega))

/-- a box is written -/
theorem Sim.setBox (hs : Sim E g s a w) {i : Id} {cs : List C} (hi : hget s.heap i = some cs) {cs' : List C} {ys' : Array Value} (hr : All2 (RelC g) cs' ys'.toList)
    (hw : ∀ k, k ≠ g.B i → w'.heap[k]? = w.heap[k]?) (hn : ∃ ys t, w.heap[g.B i]? = some (.cells ys t (0, 0)) ∧ w'.heap[g.B i]? = some (.cells ys' t (0, 0))) (hTT : ∀ t, tyOK t cs → tyOK t cs') (ho : w'.os = w.os) (ht : w'.tape = w.tape) (hp : w'.output = w.output) (hz : w'.heap.size = w.heap.size) :
    Sim E g ⟨s.slots, hset s.heap i cs'⟩ a w' := by
  have hb : ∀ j ds, hget (hset s.heap i cs') j = some ds → (j = i ∧ ds = cs') ∨ (j ≠ i ∧ hget s.heap j = some ds) := by
    intro j ds hj
    rw [hget_hset] at hj
    split at hj
    · rename_i e; cases hj; exact .inl ⟨e.symm, rfl⟩
    · rename_i e; exact .inr ⟨fun e' => e e'.symm, hj⟩
  have hb' : ∀ j ds, hget (hset s.heap i cs') j = some ds → ∃ ds0, hget s.heap j = some ds0 := by
    intro j ds hj
    rcases hb j ds hj with ⟨rfl, _⟩ | ⟨_, hj⟩
    · exact ⟨_, hi⟩
    · exact ⟨_, hj⟩
  refine ⟨hs.slots, hs.defers, ⟨?_, ?_, ?_, ?_, ?_, ?_, hs.wi.ownI⟩, hs.cum.trans ⟨ho, ht, hp, by show w.heap.size ≤ _; omega, ?_, ?_, fun _ _ h => h, fun _ _ h => .inl h, fun _ => rfl⟩⟩
  · intro a v ha
    rw [cell_eq (hw _ (hs.wi.boxM i cs a v hi ha))]
    exact hs.wi.mem a v ha
  · intro j ds hj
    rcases hb j ds hj with ⟨rfl, rfl⟩ | ⟨hne, hj⟩
    · obtain ⟨ys0, t, h0, ht⟩ := hn
      obtain ⟨zs, u, h1, _, hT⟩ := hs.wi.box j cs hi
      rw [h0] at h1
      cases h1
      exact ⟨ys', t, ht, hr, hTT t hT⟩
    · obtain ⟨zs, u, h1, h2⟩ := hs.wi.box j ds hj
      exact ⟨zs, u, by rw [hw _ (fun e => hne (hs.wi.inj j i _ _ hj hi e))]; exact h1, h2⟩
  · intro j k ds es hj hk e
    obtain ⟨d0, h1⟩ := hb' j ds hj
    obtain ⟨e0, h2⟩ := hb' k es hk
    exact hs.wi.inj j k _ _ h1 h2 e
  · intro j ds a v hj ha
    obtain ⟨d0, h1⟩ := hb' j ds hj
    exact hs.wi.boxM j d0 a v h1 ha
  · intro t r hr'
    obtain ⟨cur, h1, h2⟩ := hs.wi.own t r hr'
    exact ⟨cur, by rw [hw _ (hs.wi.ownB t r i cs hr' hi)]; exact h1, h2⟩
  · intro t r j ds hr' hj
    obtain ⟨d0, h1⟩ := hb' j ds hj
    exact hs.wi.ownB t r j d0 hr' h1
  · intro k hk hF
    exact hw k (fun e => hF (.inl ⟨i, cs, hi, e.symm⟩))
  · rintro k (⟨j, ds, hj, rfl⟩ | ⟨u, r, hu, rfl⟩)
    · obtain ⟨d0, h1⟩ := hb' j ds hj
      exact .inl (.inl ⟨j, d0, h1, rfl⟩)
    · exact .inl (.inr ⟨u, r, hu, rfl⟩)
end
end Go.Proofs.Ytamcjecgkfmjkaa
