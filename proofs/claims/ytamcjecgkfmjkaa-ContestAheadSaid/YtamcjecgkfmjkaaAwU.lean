/- The logic: operations that make or write memory do what the logic says. -/
import Derived.Test.YtamcjecgkfmjkaaAwT
open Go Go.RowKit
namespace Go.Proofs.Ytamcjecgkfmjkaa
set_option linter.unusedSimpArgs false

section
variable {P : Program} {E : Entry} {g : Gh} {w : World} {s : St} {a : Act}

theorem sound_loadBox {t : TypeId} {x : V} {u : Value} {K : V → Prop} (hw : WI g s.heap w) (hx : RelV g x u) (h : aLoadBox P t x s K) : ∃ r z, K r ∧ RelV g r z ∧ ∀ w' : World, w'.heap = w.heap → (Instr.loadAt t u).run P w' = .ok z w' := by
  unfold aLoadBox at h
  split at h
  · obtain rfl := hx
    rename_i i off
    obtain ⟨cs, sz, hi, hz, h⟩ := h
    obtain ⟨ys, ty, hb, hr, _⟩ := hw.box i cs hi
    have hc : ∀ w' : World, w'.heap = w.heap → ∀ j, w'.cell? ⟨g.B i, j, none⟩ = ys[j]? := fun w' hw' j => cell_row (by rw [hw']; exact hb) j
    unfold aPart at h
    split at h
    · rename_i ha
      obtain ⟨hl, h⟩ := h
      have hlen := hr.length
      simp only [Array.length_toList] at hlen
      refine ⟨_, .agg ((ys.toList.drop off).take sz).toArray, h, ⟨_, rfl, (hr.drop off).take sz⟩, fun w' hw' => ?_⟩
      have hl2 := run_loadCells_list (P := P) w' ⟨g.B i, off, none⟩ ((ys.toList.drop off).take sz) (fun j v hj => by
        rw [add_mk, hc w' hw']
        rw [List.getElem?_take] at hj
        split at hj
        · rw [List.getElem?_drop] at hj; rw [← Array.getElem?_toList]; exact hj
        · cases hj)
      rw [show ((ys.toList.drop off).take sz).length = sz by simp; omega] at hl2
      simp [Instr.loadAt, Instr.sureAddr, loadVar, run_isAgg ha, run_sizeOf hz, hl2]
    · rename_i ha
      obtain ⟨c, hc1, h⟩ := h
      obtain ⟨v, hv, hv2⟩ := hr.get hc1
      rw [Array.getElem?_toList] at hv
      exact ⟨_, v, h, hv2, fun w' hw' => by simp [Instr.loadAt, Instr.sureAddr, loadVar, run_isAgg ha, load, Sem.run, hc w' hw', hv]⟩
    · exact h.elim
  · exact h.elim

theorem rels_clean {bi : Id → Bool} {bt : Tag → Bool} {g g' : Gh} (hM : ∀ a v, g.M a = some v → g'.M a = some v) (hB : ∀ i, bi i = false → g'.B i = g.B i) (hO : ∀ t, bt t = false → g'.O t = g.O t) {cs : List C} {ys : List Value} (h : All2 (RelC g) cs ys) :
    All2 (RelC g') (cs.map (C.clean bi bt)) ys := h.map fun _ _ h => RelC.clean hM hB hO h

theorem run_storeAt {t ty : TypeId} {v : Value} {k off : Nat} {ys : Array Value} (hb : w.heap[k]? = some (.cells ys ty (0, 0))) (hz : sizeT P t = some v.cells.size) (hfit : off + v.cells.size ≤ ys.size) (h1 : ∀ u ∈ v.cells.toList, u.oneCell' = true) :
    (Instr.storeAt t (.pointer (some ⟨k, off, none⟩)) v).run P w = .ok () (w.setRow k (spl ys.toList off v.cells.toList).toArray) := by
  have hst := run_storeCells_at P k off ty v.cells.toList 0 ys w hb (by simpa using hfit) h1
  rw [← Nat.add_zero off, spl_eq (by simpa using hfit), Nat.add_zero]
  simp only [Nat.add_zero] at hst
  simp [Instr.storeAt, Instr.sureAddr, storeVar, run_sizeOf hz, hst]

theorem sound_store {t : TypeId} {x v : V} {u y : Value} {K : V → St → Prop} (hs : Sim E g s a w) (hx : RelV g x u) (hv : RelV g v y) (h : aStore P t x v s K) :
    ∃ r s' g' w', K r s' ∧ r = V.undef ∧ Sim E g' s' a w' ∧ (Instr.storeAt t u y).run P w = .ok () w' := by
  unfold aStore at h
  split at h
  · obtain rfl := hx
    rename_i i off
    obtain ⟨cs, vs, hi, hc, hz, hfit, hk, h⟩ := h
    obtain ⟨ys, ty, hb, hr, _⟩ := hs.wi.box i cs hi
    have hcells := cellsOf_rel hv hc
    have hlen := hcells.length
    have hlen2 := hr.length
    simp only [Array.length_toList] at hlen hlen2
    have h1 : ∀ q ∈ y.cells.toList, q.oneCell' = true := by
      intro q hq
      obtain ⟨j, hj⟩ := List.mem_iff_getElem?.1 hq
      have hlt := (List.getElem?_eq_some_iff.1 hj).1
      rw [← hcells.length] at hlt
      obtain ⟨b, hb1, hb2⟩ := hcells.get (List.getElem?_eq_getElem hlt)
      rw [hj] at hb1
      cases hb1
      exact hb2.one (known_ne (List.all_eq_true.1 hk _ (List.getElem_mem hlt)))
    have hrun := run_storeAt (P := P) (t := t) (v := y) (off := off) hb (by rw [hz, hlen]) (by omega) h1
    unfold St.stow at h
    split at h
    · rename_i τ nl sz xs
      simp only at h
      -- what is struck, and the row's new owner
      let bt : Tag → Bool := fun t => t == τ || t == sigT τ i off
      let g1 : Gh := ⟨g.M, g.B, fun t => if bt t then none else g.O t⟩
      let g2 : Gh := ⟨g.M, g.B, fun t => if t = sigT τ i off then g.O τ else if bt t then none else g.O t⟩
      have hs1 : Sim E g1 (s.clean (fun _ => false) bt) a w := hs.clean rfl (fun _ _ => rfl) (fun _ => rfl) (fun _ => rfl)
      have hcl : ∀ t, t = sigT τ i off → bt t = true := fun t ht => by simp [bt, ht]
      have hO2 : ∀ t, bt t = false → g2.O t = g.O t := fun t ht => by
        show (if t = sigT τ i off then g.O τ else if bt t then none else g.O t) = _
        rw [if_neg (fun e => by rw [hcl t e] at ht; cases ht), if_neg (by simp [ht])]
      have relC2 : ∀ c z, RelC g c z → RelC g2 (c.clean (fun _ => false) bt) z := fun c z hc => RelC.clean (g := g) (g' := g2) (fun _ _ h => h) (fun _ _ => rfl) hO2 hc
      have inv2 : ∀ t r, g2.O t = some r → (t = sigT τ i off ∧ g.O τ = some r) ∨ (bt t = false ∧ g.O t = some r) := by
        intro t r ht
        change (if t = sigT τ i off then g.O τ else if bt t then none else g.O t) = some r at ht
        split at ht
        · rename_i e; exact .inl ⟨e, ht⟩
        · split at ht
          · cases ht
          · rename_i e; exact .inr ⟨by simpa using e, ht⟩
      have own2 : ∀ t r, g2.O t = some r → ∃ t0, g.O t0 = some r := fun t r ht => by
        rcases inv2 t r ht with ⟨_, h⟩ | ⟨_, h⟩ <;> exact ⟨_, h⟩
      have hs2 : Sim E g2 (s.clean (fun _ => false) bt) a w := by
        refine ⟨?_, hs.defers, ⟨hs.wi.mem, ?_, ?_, ?_, ?_, ?_, ?_⟩, hs.cum.trans ⟨rfl, rfl, rfl, Nat.le_refl _, fun _ _ _ => rfl, ?_, fun _ _ h => h, fun _ _ h => .inl h, fun _ => rfl⟩⟩
        · exact hs.slots.map fun v x hv => RelV.clean (g := g) (g' := g2) (fun _ _ h => h) (fun _ _ => rfl) hO2 hv
        · intro j ds hj
          simp only [St.clean] at hj
          rw [hget_hclean] at hj
          simp only [Bool.false_eq_true, if_false, Option.map_eq_some_iff] at hj
          obtain ⟨d0, hj, rfl⟩ := hj
          obtain ⟨zs, u, h1, h2, hT⟩ := hs.wi.box j d0 hj
          exact ⟨zs, u, h1, h2.map relC2, hT.mapf clean_typ⟩
        · exact hs1.wi.inj
        · exact hs1.wi.boxM
        · intro t r ht
          obtain ⟨t0, h0⟩ := own2 t r ht
          exact hs.wi.own t0 r h0
        · intro t r j ds ht hj
          obtain ⟨t0, h0⟩ := own2 t r ht
          simp only [St.clean] at hj
          rw [hget_hclean] at hj
          simp only [Bool.false_eq_true, if_false, Option.map_eq_some_iff] at hj
          obtain ⟨d0, hj, rfl⟩ := hj
          exact hs.wi.ownB t0 r j d0 h0 hj
        · intro t t' r r' h1 h2 e
          rcases inv2 t r h1 with ⟨e1, h1⟩ | ⟨b1, h1⟩ <;> rcases inv2 t' r' h2 with ⟨e2, h2⟩ | ⟨b2, h2⟩
          · rw [e1, e2]
          · have := hs.wi.ownI _ _ _ _ h1 h2 e
            subst this
            simp [bt] at b2
          · have := hs.wi.ownI _ _ _ _ h1 h2 e
            subst this
            simp [bt] at b1
          · exact hs.wi.ownI _ _ _ _ h1 h2 e
        · rintro k (⟨j, ds, hj, rfl⟩ | ⟨t, r, ht, rfl⟩)
          · simp only [St.clean] at hj
            rw [hget_hclean] at hj
            simp only [Bool.false_eq_true, if_false, Option.map_eq_some_iff] at hj
            obtain ⟨d0, hj, rfl⟩ := hj
            exact .inl (.inl ⟨j, d0, hj, rfl⟩)
          · obtain ⟨t0, h0⟩ := own2 t r ht
            exact .inl (.inr ⟨t0, r, h0, rfl⟩)
      have hi2 : hget (s.clean (fun _ => false) bt).heap i = some (cs.map (C.clean (fun _ => false) bt)) := by
        simp only [St.clean]
        rw [hget_hclean, hi]
        rfl
      refine ⟨_, _, g2, _, h, rfl, hs2.setBox (w' := w.setRow (g.B i) (spl ys.toList off y.cells.toList).toArray) (ys' := (spl ys.toList off y.cells.toList).toArray) hi2 ?_ (fun k hk => setRow_other w _ k _ hk) ⟨ys, ty, hb, setRow_heap w _ ys _ ty _ hb⟩ (fun t ht => ht.spl (by simp)) rfl rfl rfl (by simp), hrun⟩
      refine spl_rel (hr.map relC2) ?_
      obtain ⟨y0, l, e, h2, h3⟩ := hcells.cons_inv
      obtain rfl := h3.nil_inv
      rw [e]
      refine .cons ⟨h2.1, ?_⟩ .nil
      rcases h2.2 with h4 | ⟨r, h4, h5, h6⟩
      · exact .inl ⟨sig_lax h4.1, h4.2⟩
      · refine .inr ⟨r, ?_, ⟨h5.1, fun q hq => h5.2 q (by rw [sig_ty] at hq; exact hq)⟩, h6⟩
        show (if sigT τ i off = sigT τ i off then g.O τ else _) = _
        rw [if_pos rfl]; exact h4
    · refine ⟨_, _, g, _, h, rfl, hs.setBox (w' := w.setRow (g.B i) (spl ys.toList off y.cells.toList).toArray) (ys' := (spl ys.toList off y.cells.toList).toArray) hi ?_ (fun k hk => setRow_other w _ k _ hk) ⟨ys, ty, hb, setRow_heap w _ ys _ ty _ hb⟩ (fun t ht => ht.spl (no_typ rfl _)) rfl rfl rfl (by simp), hrun⟩
      exact spl_rel hr (rels_clean (g := g) (g' := g) (fun _ _ h => h) (fun _ _ => rfl) (fun _ h => by cases h) hcells)
  · exact h.elim

theorem sound_new {d : Nat} {cs : List C} {ys : Array Value} {t : TypeId} {K : V → St → Prop} {w' : World} (hs : Sim E g s a w) (hr : All2 (RelC g) cs ys.toList) (hg : Grow1 w w' ys t) (h : aNew d cs s K) :
    ∃ r s' g', K r s' ∧ RelV g' r (.pointer (some ⟨w.heap.size, 0, none⟩)) ∧ Sim E g' s' a w' ∧ g'.B (.loc [d]) = w.heap.size := by
  let g1 : Gh := ⟨g.M, fun i => if i = .loc [d] then w.heap.size else g.B i, fun t => if rootT d t then none else g.O t⟩
  have hB : ∀ i, rootI d i = false → g1.B i = g.B i := fun i hi => by
    show (if i = Id.loc [d] then w.heap.size else g.B i) = _
    rw [if_neg]; rintro rfl; simp [rootI] at hi
  have hs1 : Sim E g1 (s.clean (rootI d) (rootT d)) a w := hs.clean rfl hB (fun _ => rfl) (fun k => hB _ rfl)
  exact ⟨_, _, g1, h, by simp [RelV, RelW, RelC, g1], hs1.addBox hg (by simp [g1]) (rels_clean (g := g) (g' := g1) (fun _ _ h => h) hB (fun _ h => by cases h) hr) (clean_all rfl _), by simp [g1]⟩

theorem allocC_spec {e : TypeId} {cs : List C} (h : allocC P e = some cs) : ∃ i z, P.info? e = some i ∧ i.zero = some z ∧ (∀ g, All2 (RelC g) cs z.cells.toList) ∧ tyOK e cs := by
  unfold allocC at h
  cases hz : zeroC P e with
  | none => rw [hz] at h; cases h
  | some cs0 =>
    rw [hz] at h
    simp only [Option.map_some, Option.some.injEq] at h
    obtain ⟨i, z, h1, h2, rfl⟩ := zeroC_spec hz
    have hr : ∀ g, All2 (RelC g) (z.cells.toList.map ofCell) z.cells.toList := fun g => ofCells_rel g _
    refine ⟨i, z, h1, h2, ?_⟩
    split at h
    · split at h
      · rename_i r hc
        subst h
        refine ⟨fun g => ?_, ?_⟩
        · have := hr g
          rw [hc] at this
          obtain ⟨y, m, hm, h3, h4⟩ := this.cons_inv
          rw [hm]
          exact .cons h3.2 h4
        · intro τ hτ
          rcases List.mem_cons.1 hτ with h | h
          · cases h; rfl
          · exact absurd (show C.typ τ ∈ z.cells.toList.map ofCell by rw [hc]; exact List.mem_cons_of_mem _ h) (no_typV _ τ)
      · subst h; exact ⟨hr, tyOK.none (no_typV _)⟩
    · subst h; exact ⟨hr, tyOK.none (no_typV _)⟩
theorem sound_newA {d : Nat} {cs : List C} {ys : Array Value} {t : TypeId} {K : V → St → Prop} {w' : World} (hs : Sim E g s a w) (hr : ∀ g, All2 (RelC g) cs ys.toList) (hT : tyOK t cs) (hg : Grow1 w w' ys t) (h : aNewA d cs s K) :
    ∃ r s' g', K r s' ∧ RelV g' r (.pointer (some ⟨w.heap.size, 0, none⟩)) ∧ Sim E g' s' a w' := by
  let g1 : Gh := ⟨g.M, fun i => if i = .loc [d] then w.heap.size else g.B i, fun t => if rootT d t then none else g.O t⟩
  have hB : ∀ i, rootI d i = false → g1.B i = g.B i := fun i hi => by
    show (if i = Id.loc [d] then w.heap.size else g.B i) = _
    rw [if_neg]; rintro rfl; simp [rootI] at hi
  have hs1 : Sim E g1 (s.clean (rootI d) (rootT d)) a w := hs.clean rfl hB (fun _ => rfl) (fun k => hB _ rfl)
  exact ⟨_, _, g1, h, by simp [RelV, RelW, RelC, g1], hs1.addBox hg (by simp [g1]) (hr g1) hT⟩
theorem All2.refl_of {α : Type} {R : α → α → Prop} (h : ∀ a, R a a) (l : List α) : All2 R l l := by
  induction l with
  | nil => exact .nil
  | cons a l ih => exact .cons (h a) ih

/-- the data of a row that was just made -/
theorem relM_new {M : Addr → Option Value} {k : Nat} {ys : List Value} {ds : List D} (h : All2 (RelD (addM M k ys)) ds ys) : RelM (addM M k ys) ⟨k, 0, none⟩ ds := fun i d hd => by
  obtain ⟨y, hy, hr⟩ := h.get hd
  exact ⟨y, addM_get hy, hr⟩

theorem sound_buildSlice {t : TypeId} {len d : Nat} {parts : List (Nat × V)} {us : List (Nat × Value)} {K : V → St → Prop} (hs : Sim E g s a w) (hp : All2 (fun p q => p.1 = q.1 ∧ RelV g p.2 q.2) parts us) (h : aBuildSlice P t len parts d s K) :
    ∃ r s' g' w' z, K r s' ∧ RelV g' r z ∧ Sim E g' s' a w' ∧ (Instr.buildSlice t len us.toArray).run P w = .ok z w' := by
  obtain ⟨e, sz, z, cs, ds, ht, h0, hsmall, hz, hzl, hf, hd, h⟩ := h
  obtain ⟨hu, hsz⟩ := idxT_slc ht
  obtain ⟨ie, zv, hie, hzv, rfl⟩ := zeroC_spec hz
  have hzl' : zv.cells.size = sz := by simpa using hzl
  have hsz' : ie.size = sz := by simpa [sizeT, hie] using hsz
  obtain ⟨ys, hfill, hr⟩ := aFill_rel (ys := (List.replicate len zv.cells.toList).flatten.toArray) hp (by simpa using flat_rel (ofCells_rel g zv.cells.toList) len) hf
  have hz0 : ((Array.range (len * ie.size)).map (zv.cells[· % zv.cells.size]!)) = (List.replicate len zv.cells.toList).flatten.toArray := by
    apply Array.ext'
    have := zeros_eq zv.cells len (by omega)
    rw [hzl'] at this
    rw [hsz', hzl']
    simpa using this
  have hrun : (Instr.buildSlice t len us.toArray).run P w = .ok (.slice (some ⟨w.heap.size, 0, none⟩) len len) (w.alloc (.cells ys e)) := by
    rcases Nat.eq_zero_or_pos (len * ie.size) with hl0 | hl0
    · have hf' : Instr.fill (fun i => some (i * ie.size, ie.size)) #[] us = some ys := by
        rw [hsz']
        have : len = 0 := by rcases Nat.eq_zero_or_pos len with h | h; exact h; have := Nat.mul_pos h h0; rw [hsz'] at hl0; omega
        subst this
        simpa using hfill
      simp [Instr.buildSlice, run_underlying hu, sizeOf, typeInfo, hie, hl0, hf', newRow, zeroValue, hzv, Array.range_zero']
    · refine run_buildSlice (P := P) w t e len us.toArray ys ie zv hu hie hzv (by rw [hsz']; omega) (by omega) ?_
      rw [hz0, hsz']
      exact hfill
  have hlen := hr.length
  simp only [Array.length_toList] at hlen
  have hcs : cs.length = len * sz := by
    have : ∀ (pl : Nat → Option (Nat × Nat)) (parts : List (Nat × V)) (cs cs' : List C), aFill pl cs parts = some cs' → cs'.length = cs.length := by
      intro pl parts
      induction parts with
      | nil => intro cs cs' h; cases h; rfl
      | cons p parts ih =>
        intro cs cs' h
        obtain ⟨i, v⟩ := p
        simp only [aFill] at h
        split at h
        · split at h
          · cases h
          · rw [ih _ _ h, spl_length]
        · cases h
    rw [this _ _ _ _ hf]
    simp [hzl']
  let g1 : Gh := ⟨g.M, g.B, fun t => if rootT d t then none else g.O t⟩
  have hs1 : Sim E g1 (s.clean (fun _ => false) (rootT d)) a w := hs.clean rfl (fun _ _ => rfl) (fun _ => rfl) (fun _ => rfl)
  let g2 : Gh := ⟨addM g.M w.heap.size (ys.toList.take (len * sz)), g.B, fun u => if u = Tag.made [d] then some ⟨w.heap.size, len, len, sz, e⟩ else g1.O u⟩
  have hs2 : Sim E g2 (s.clean (fun _ => false) (rootT d)) a (w.alloc (.cells ys e)) :=
    hs1.addRow (Grow1.alloc w ys e) (τ := .made [d]) (n := len) (c := len) (sz := sz) (by simp [g1, rootT]) (by omega) (Nat.le_refl _)
      (by have : len ≤ len * sz := Nat.le_mul_of_pos_right _ h0
          simp only [maxLen]; omega) rfl rfl (fun _ => rfl)
  have htake : ys.toList.take (len * sz) = ys.toList := List.take_of_length_le (by simp; omega)
  have hown : RelO g2.O (ownB len d) sz (.slice (some ⟨w.heap.size, 0, none⟩) len len) := by
    unfold ownB
    split
    · exact fun a n c h => by cases h; rfl
    · exact .inr ⟨_, by simp [g2]; rfl, ⟨rfl, fun _ h => by cases h⟩, rfl⟩
  refine ⟨_, _, g2, _, _, h, ⟨RelD.mk (by simp) h0 ?_ (Nat.le_refl _) ?_ ?_, hown⟩, hs2, hrun⟩
  · have := (allD_rel hd hr).length
    simp only [Array.length_toList] at this
    omega
  · have : len ≤ len * sz := Nat.le_mul_of_pos_right _ h0
    simp only [maxLen]; omega
  · show RelM (addM _ _ _) _ _
    rw [htake]
    refine relM_new ?_
    have := allD_rel hd hr
    refine this.mono fun _ _ h => RelD.mono (fun a v ha => ?_) h
    refine addM_old (fun a v ha e => ?_) ha
    have := hs.wi.mem_lt ha
    omega
end
end Go.Proofs.Ytamcjecgkfmjkaa
