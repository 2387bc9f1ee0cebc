/- The logic: a call does what the logic says. -/
import Derived.Test.YtamcjecgkfmjkaaAwX
open Go Go.RowKit
namespace Go.Proofs.Ytamcjecgkfmjkaa
set_option linter.unusedSimpArgs false

section
variable {P : Program} {E : Entry} {g : Gh} {w : World} {s : St} {a : Act}

theorem ren_typ {ks : List Id} {d : Nat} (c : C) (τ : TypeId) (h : c.ren ks d = .typ τ) : c = .typ τ := by
  cases c with
  | lst o nl sz xs => cases o <;> cases h
  | typ t => exact h
  | undef => cases h
  | val => cases h
  | mem => cases h
  | ptr => cases h
  | row => cases h
  | fn => cases h
  | ifc => cases h
theorem frz_typ {i : Id} {sz : Nat} {ds : List D} (c : C) (τ : TypeId) (h : c.frz i sz ds = .typ τ) : c = .typ τ := by
  cases c with
  | lst o nl sz xs => cases h
  | typ t => exact h
  | undef => cases h
  | val => cases h
  | mem => cases h
  | ptr => simp only [C.frz] at h; split at h <;> cases h
  | row => simp only [C.frz] at h; split at h
           · split at h <;> cases h
           · cases h
  | fn => simp only [C.frz] at h; split at h <;> cases h
  | ifc => cases h
/-- the callee's memory out of the caller's -/
def pull (g : Gh) (ks : List Id) (d : Nat) : Gh := ⟨g.M, fun i => g.B (renI ks d i), fun t => g.O (renT ks d t)⟩
theorem WI.pull (hw : WI g s.heap w) {ks : List Id} {d : Nat} (hk : okKs ks d) {hl : Heap} (hh : ∀ i cs, hget hl i = some cs → ∃ k j ds, i = .arg k ∧ ks[k]? = some j ∧ hget s.heap j = some ds ∧ leCs (cs.map (C.ren ks d)) ds) :
    WI (pull g ks d) hl w := by
  have hb : ∀ i cs, hget hl i = some cs → ∃ ds, hget s.heap (renI ks d i) = some ds ∧ leCs (cs.map (C.ren ks d)) ds := by
    intro i cs hi
    obtain ⟨k, j, ds, rfl, hj, h, hle⟩ := hh i cs hi
    exact ⟨ds, by simpa [renI, hj] using h, hle⟩
  refine ⟨hw.mem, ?_, ?_, ?_, ?_, ?_, ?_⟩
  · intro i cs hi
    obtain ⟨ds0, hb1, hb2⟩ := hb i cs hi
    obtain ⟨ys, t, h1, h2, hT⟩ := hw.box _ _ hb1
    replace h2 := leCs_rel hb2 h2
    refine ⟨ys, t, h1, All2.of_get (by have := h2.length; simpa using this) fun j c y hc hy => ?_, (hT.le hb2).sub fun τ hτ => List.mem_map.2 ⟨_, hτ, rfl⟩⟩
    obtain ⟨y', hy', hr⟩ := h2.get (i := j) (a := c.ren ks d) (by simp [hc])
    rw [hy] at hy'
    cases hy'
    exact RelC.unren (g := g) (g' := Proofs.Ytamcjecgkfmjkaa.pull g ks d) rfl (fun _ => rfl) (fun _ => rfl) hr
  · intro i j cs ds hi hj e
    obtain ⟨_, hb1, _⟩ := hb i cs hi
    obtain ⟨_, hb2, _⟩ := hb j ds hj
    exact renI_inj hk (hw.inj _ _ _ _ hb1 hb2 e)
  · intro i cs ad v hi ha
    obtain ⟨_, hb1, _⟩ := hb i cs hi
    exact hw.boxM _ _ ad v hb1 ha
  · exact fun t r ht => hw.own _ r ht
  · intro t r i cs ht hi
    obtain ⟨_, hb1, _⟩ := hb i cs hi
    exact hw.ownB _ r _ _ ht hb1
  · exact fun t u r q h1 h2 e => renT_inj hk (hw.ownI _ _ r q h1 h2 e)

theorem sound_call0 {f : FuncId} {args : List V} {us : List Value} {d : Nat} {K : V → St → Prop} (hs : Sim E g s a w) (ha : All2 (RelV g) args us) (h : aCall0 P f args d s K) :
    Callable P f ∧ Calls P f us.toArray w fun e w' => ∃ x v s' g', e = .returned x ∧ K v s' ∧ RelV g' v x ∧ Sim E g' s' a w' := by
  obtain ⟨ks, args', hl, R, H, hk, hargs, hh, hK⟩ := h
  let gc := pull g ks d
  have hwc : WI gc hl w := hs.wi.pull hk hh
  have hac : All2 (RelW gc) args' us := by
    have gen : ∀ (args' : List W) (args : List V) (us : List Value), leA ks d args' args → All2 (RelV g) args us → All2 (RelW gc) args' us := by
      intro args'
      induction args' with
      | nil => intro args us h ha; cases args with
        | nil => rw [ha.nil_inv]; exact .nil
        | cons v _ => cases v <;> exact h.elim
      | cons x l ih => intro args us h ha; cases args with
        | nil => exact h.elim
        | cons v m =>
          obtain ⟨u, us', rfl, h1, h2⟩ := ha.cons_inv
          cases v with
          | w y => exact .cons (RelW.unren (g := g) (g' := gc) rfl (fun _ => rfl) (fun _ => rfl) (leW_rel h.1 h1)) (ih m us' h.2 h2)
          | tup _ => exact h.elim
    exact gen args' args us hargs ha
  have hb : ∀ i cs, hget hl i = some cs → ∃ ds, hget s.heap (renI ks d i) = some ds ∧ leCs (cs.map (C.ren ks d)) ds := by
    intro i cs hi
    obtain ⟨k, j, ds, rfl, hj, h, hle⟩ := hh i cs hi
    exact ⟨ds, by simpa [renI, hj] using h, hle⟩
  have hfoot : ∀ k, Foot gc hl k → Foot g s.heap k := by
    rintro k (⟨i, cs, hi, rfl⟩ | ⟨t, r, ht, rfl⟩)
    · obtain ⟨_, hb1, _⟩ := hb i cs hi; exact .inl ⟨_, _, hb1, rfl⟩
    · exact .inr ⟨_, r, ht, rfl⟩
  refine ⟨H.1, (H.2 gc w us (fun k => (hs.defers.2 k).mono hs.cum.mem) hac hwc).mono ?_⟩
  rintro e w' ⟨x, v, h', g', rfl, hR, hv, hw', hc⟩
  let g2 : Gh := ⟨g'.M, mixB ks d g.B g'.B, mixO ks d g.O g'.O⟩
  have hB2 : ∀ i, g2.B (renI ks d i) = g'.B i := mixB_ren hk g.B g'.B
  have hO2 : ∀ t, g2.O (renT ks d t) = g'.O t := mixO_ren hk g.O g'.O
  have hMm : ∀ ad v, g.M ad = some v → g2.M ad = some v := hc.mem
  -- names that are not struck are as they were
  have hBold : ∀ j, rootI d j = false → g2.B j = g.B j := by
    intro j hj
    by_cases h : ∃ i, renI ks d i = j
    · obtain ⟨i, rfl⟩ := h
      rcases ren_cases (ks := ks) (d := d) i with ⟨k, rfl, hk'⟩ | h
      · rw [hB2, hc.argB]
        rfl
      · rw [h] at hj; cases hj
    · exact mixB_old _ _ fun i hi => h ⟨i, hi⟩
  have hOold : ∀ t, bornT ks d t = false → g2.O t = g.O t := by
    intro t ht
    refine mixO_old _ _ fun u hu => ?_
    rw [← hu, bornT_ren] at ht
    cases ht
  have relC : ∀ c y, RelC g c y → RelC g2 (c.clean (rootI d) (bornT ks d)) y := fun c y h => RelC.clean (g := g) (g' := g2) hMm hBold hOold h
  have relV : ∀ c y, RelV g c y → RelV g2 (c.clean (rootI d) (bornT ks d)) y := fun c y h => RelV.clean (g := g) (g' := g2) hMm hBold hOold h
  have relR : ∀ c y, RelC g' c y → RelC g2 (c.ren ks d) y := fun c y h => RelC.ren (g := g') (g' := g2) (fun _ _ h => h) hB2 hO2 h
  -- what is in the heap behind
  have heap : ∀ j cs, hget (s.back ks d h').heap j = some cs → (∃ i c0, j = renI ks d i ∧ hget h' i = some c0 ∧ cs = c0.map (C.ren ks d)) ∨
      (∃ c0, (∀ i, renI ks d i ≠ j) ∧ rootI d j = false ∧ j ∉ ks ∧ hget s.heap j = some c0 ∧ cs = c0.map (C.clean (rootI d) (bornT ks d))) := by
    intro j cs hj
    simp only [St.back] at hj
    rw [hget_append] at hj
    cases hq : hget (hren ks d h') j with
    | some c =>
      rw [hq] at hj
      cases hj
      obtain ⟨i, rfl⟩ := hget_hren_inv h' j hq
      rw [hget_hren hk] at hq
      simp only [Option.map_eq_some_iff] at hq
      obtain ⟨c0, h0, rfl⟩ := hq
      exact .inl ⟨i, c0, rfl, h0, rfl⟩
    | none =>
      rw [hq] at hj
      simp only at hj
      rw [hget_hkeep] at hj
      split at hj
      · cases hj
      · rename_i hnk
        rw [hget_hclean] at hj
        cases hr : rootI d j with
        | true => rw [hr] at hj; cases hj
        | false =>
          rw [hr] at hj
          simp only [Bool.false_eq_true, if_false, Option.map_eq_some_iff] at hj
          obtain ⟨c0, h0, rfl⟩ := hj
          have hnk' : j ∉ ks := by simpa using hnk
          refine .inr ⟨c0, fun i hi => ?_, rfl, hnk', h0, rfl⟩
          rcases ren_cases (ks := ks) (d := d) i with ⟨k, _, h1⟩ | h1
          · rw [hi] at h1; exact hnk' (List.mem_of_getElem? h1)
          · rw [hi, hr] at h1; cases h1
  -- a kept box is not the callee's
  have apart : ∀ j c0, (∀ i, renI ks d i ≠ j) → hget s.heap j = some c0 → ¬ Foot gc hl (g.B j) := by
    rintro j c0 hn hj (⟨i, cs, hi, e⟩ | ⟨t, r, ht, e⟩)
    · obtain ⟨_, hb1, _⟩ := hb i cs hi; exact hn i (hs.wi.inj _ _ _ _ hb1 hj e)
    · exact hs.wi.ownB _ r _ _ ht hj e
  have boxlt : ∀ j c0, hget s.heap j = some c0 → g.B j < w.heap.size := fun j c0 hj => by obtain ⟨_, _, h1, _⟩ := hs.wi.box j c0 hj; exact block_lt h1
  have apartO : ∀ t r, (∀ u, renT ks d u ≠ t) → g.O t = some r → ¬ Foot gc hl r.blk := by
    rintro t r hn ht (⟨i, cs, hi, e⟩ | ⟨u, q, hu, e⟩)
    · obtain ⟨_, hb1, _⟩ := hb i cs hi; exact hs.wi.ownB _ r _ _ ht hb1 e.symm
    · exact hn u (hs.wi.ownI _ _ q r hu ht e)
  have ownlt : ∀ t r, g.O t = some r → r.blk < w.heap.size := fun t r ht => by obtain ⟨_, h1, _⟩ := hs.wi.own t r ht; exact block_lt h1
  have own : ∀ t r, g2.O t = some r → (∃ u, t = renT ks d u ∧ g'.O u = some r) ∨ ((∀ u, renT ks d u ≠ t) ∧ g.O t = some r) := by
    intro t r ht
    by_cases h : ∃ u, renT ks d u = t
    · obtain ⟨u, rfl⟩ := h
      rw [hO2] at ht
      exact .inl ⟨u, rfl, ht⟩
    · have hn : ∀ u, renT ks d u ≠ t := fun u hu => h ⟨u, hu⟩
      refine .inr ⟨hn, ?_⟩
      rw [show g2.O t = g.O t from mixO_old _ _ hn] at ht
      exact ht
  -- memory that became readable is the callee's, or new
  have memN : ∀ k, k < w.heap.size → ¬ Foot gc hl k → ∀ ad v, g'.M ad = some v → ad.block = k → g.M ad = some v := by
    intro k hlt hn ad v ha e
    rcases hc.memN ad v ha with h | h | h
    · exact h
    · rw [e] at h; exact absurd h hn
    · have h : w.heap.size ≤ ad.block := h
      omega
  have keep : ∀ k, k < w.heap.size → ¬ Foot gc hl k → w'.heap[k]? = w.heap[k]? := fun k hlt hn => hc.unch k hlt hn
  have foot' : ∀ k, Foot g' h' k → Foot gc hl k ∨ w.heap.size ≤ k := hc.foot
  refine ⟨x, v.ren ks d, s.back ks d h', g2, rfl, hK v h' hR, RelV.ren (g := g') (g' := g2) (fun _ _ h => h) hB2 hO2 hv, hs.slots.map relV, hs.defers, ⟨hw'.mem, ?_, ?_, ?_, ?_, ?_, ?_⟩, hs.cum.trans ⟨hc.os, hc.tape, hc.output, hc.size, ?_, ?_, hMm, ?_, ?_⟩⟩
  · intro j cs hj
    rcases heap j cs hj with ⟨i, c0, rfl, h0, rfl⟩ | ⟨c0, hn, hr, _, h0, rfl⟩
    · obtain ⟨ys, t, h1, h2, hT⟩ := hw'.box i c0 h0
      exact ⟨ys, t, by rw [hB2]; exact h1, h2.map relR, hT.mapf ren_typ⟩
    · obtain ⟨ys, t, h1, h2, hT⟩ := hs.wi.box j c0 h0
      refine ⟨ys, t, ?_, h2.map relC, hT.mapf clean_typ⟩
      rw [hBold j hr, keep _ (boxlt j c0 h0) (apart j c0 hn h0)]
      exact h1
  · intro i j cs ds hi hj e
    rcases heap i cs hi with ⟨i', c0, rfl, h0, _⟩ | ⟨c0, hn, hr, _, h0, _⟩ <;> rcases heap j ds hj with ⟨j', d0, rfl, k0, _⟩ | ⟨d0, hm, hq, _, k0, _⟩
    · rw [hB2, hB2] at e
      rw [hw'.inj _ _ _ _ h0 k0 e]
    · rw [hB2, hBold j hq] at e
      rcases foot' _ (.inl ⟨i', c0, h0, e⟩) with h | h
      · exact absurd h (apart j d0 hm k0)
      · have := boxlt j d0 k0; omega
    · rw [hB2, hBold i hr] at e
      rcases foot' _ (.inl ⟨j', d0, k0, e.symm⟩) with h | h
      · exact absurd h (apart i c0 hn h0)
      · have := boxlt i c0 h0; omega
    · rw [hBold i hr, hBold j hq] at e
      exact hs.wi.inj _ _ _ _ h0 k0 e
  · intro j cs ad v hj ha
    rcases heap j cs hj with ⟨i, c0, rfl, h0, rfl⟩ | ⟨c0, hn, hr, _, h0, rfl⟩
    · rw [hB2]; exact hw'.boxM i c0 ad v h0 ha
    · rw [hBold j hr]
      intro e
      exact hs.wi.boxM j c0 ad v h0 (memN _ (boxlt j c0 h0) (apart j c0 hn h0) ad v ha e) e
  · intro t r ht
    rcases own t r ht with ⟨u, rfl, hu⟩ | ⟨hn, hu⟩
    · exact hw'.own u r hu
    · obtain ⟨cur, h1, h2, h3, h4, h5⟩ := hs.wi.own t r hu
      refine ⟨cur, by rw [keep _ (ownlt t r hu) (apartO t r hn hu)]; exact h1, h2, h3, h4, fun ad v ha e => h5 ad v (memN _ (ownlt t r hu) (apartO t r hn hu) ad v ha e) e⟩
  · intro t r j cs ht hj e
    rcases own t r ht with ⟨u, rfl, hu⟩ | ⟨hn, hu⟩ <;> rcases heap j cs hj with ⟨j', d0, rfl, k0, _⟩ | ⟨d0, hm, hq, _, k0, _⟩
    · rw [hB2] at e; exact hw'.ownB u r j' d0 hu k0 e
    · rw [hBold j hq] at e
      rcases foot' _ (.inr ⟨u, r, hu, e⟩) with h | h
      · exact absurd h (apart j d0 hm k0)
      · have := boxlt j d0 k0; omega
    · rw [hB2] at e
      rcases foot' _ (.inl ⟨j', d0, k0, e.symm⟩) with h | h
      · exact absurd h (apartO t r hn hu)
      · have := ownlt t r hu; omega
    · rw [hBold j hq] at e; exact hs.wi.ownB t r j d0 hu k0 e
  · intro t t' r r' h1 h2 e
    rcases own t r h1 with ⟨u, rfl, hu⟩ | ⟨hn, hu⟩ <;> rcases own t' r' h2 with ⟨u', rfl, hu'⟩ | ⟨hn', hu'⟩
    · rw [hw'.ownI _ _ _ _ hu hu' e]
    · rcases foot' _ (.inr ⟨u, r, hu, e⟩) with h | h
      · exact absurd h (apartO t' r' hn' hu')
      · have := ownlt t' r' hu'; omega
    · rcases foot' _ (.inr ⟨u', r', hu', e.symm⟩) with h | h
      · exact absurd h (apartO t r hn hu)
      · have := ownlt t r hu; omega
    · exact hs.wi.ownI _ _ _ _ hu hu' e
  · intro k hlt hF
    exact keep k hlt fun h => hF (hfoot k h)
  · rintro k (⟨j, cs, hj, rfl⟩ | ⟨t, r, ht, rfl⟩)
    · rcases heap j cs hj with ⟨i, c0, rfl, h0, rfl⟩ | ⟨c0, hn, hr, _, h0, rfl⟩
      · rw [hB2]
        rcases foot' _ (.inl ⟨i, c0, h0, rfl⟩) with h | h
        · exact .inl (hfoot _ h)
        · exact .inr h
      · rw [hBold j hr]; exact .inl (.inl ⟨j, c0, h0, rfl⟩)
    · rcases own t r ht with ⟨u, rfl, hu⟩ | ⟨hn, hu⟩
      · rcases foot' _ (.inr ⟨u, r, hu, rfl⟩) with h | h
        · exact .inl (hfoot _ h)
        · exact .inr h
      · exact .inl (.inr ⟨t, r, hu, rfl⟩)
  · intro ad v ha
    rcases hc.memN ad v ha with h | h | h
    · exact .inl h
    · exact .inr (.inl (hfoot _ h))
    · exact .inr (.inr h)
  · intro k
    exact hBold _ rfl
theorem sound_callT {f : FuncId} {d : Nat} {K : V → St → Prop} {args : List V} {us : List Value} (hs : Sim E g s a w) (ha : All2 (RelV g) args us) (h : aCallT P f args d s K) :
    Callable P f ∧ Calls P f us.toArray w fun e w' => ∃ x v s' g', e = .returned x ∧ K v s' ∧ RelV g' v x ∧ Sim E g' s' a w' := by
  obtain ⟨rt, h⟩ := h
  induction rt generalizing g s args with
  | nil =>
    have e : V.retags [] = id := rfl
    rw [e, List.map_id] at h
    exact sound_call0 hs ha h
  | cons p l ih =>
    refine ih (g := g.retag p.1 p.2) (s := s.retag p.1 p.2) (args := args.map (V.retag p.1 p.2)) (hs.retag p.1 p.2) (ha.map fun _ _ h => RelV.retag h) ?_
    rw [List.map_map]
    exact h

theorem hget_hfrz (i : Id) (sz : Nat) (ds : List D) (h : Heap) (j : Id) : hget (hfrz i sz ds h) j = if j = i then none else (hget h j).map (List.map (C.frz i sz ds)) := by
  induction h with
  | nil => simp [hfrz, hget]
  | cons p h ih =>
    obtain ⟨k, c⟩ := p
    simp only [hfrz]
    by_cases hk : k = i
    · subst hk
      simp only [if_true, ih, hget]
      by_cases hj : j = k
      · simp [hj]
      · simp [hj, Ne.symm hj]
    · rw [if_neg hk]
      simp only [hget]
      by_cases hj : k = j
      · subst hj; simp [hk]
      · rw [if_neg hj, if_neg hj, ih]
/-- memory that may be read from now on: a whole box -/
theorem Sim.frz {i : Id} {sz : Nat} {ds : List D} (hs : Sim E g s a w) (hf : frzOK s i ds) : ∃ g', Sim E g' (s.frz i sz ds) a w ∧ ∀ v x, RelV g v x → RelV g' (v.frz i sz ds) x := by
  obtain ⟨cs, hi, hle, hd⟩ := hf
  obtain ⟨ys, ty, hb, hr, _⟩ := hs.wi.box i cs hi
  have hlen := hr.length
  simp only [Array.length_toList] at hlen
  let g1 : Gh := ⟨addM g.M (g.B i) ys.toList, g.B, g.O⟩
  have hold : ∀ a v, g.M a = some v → a.block = g.B i → a.off < ys.toList.length → ys.toList[a.off]? = some v := fun a v ha e => absurd e (hs.wi.boxM i cs a v hi ha)
  have hMm : ∀ a v, g.M a = some v → g1.M a = some v := fun a v ha => addM_old hold ha
  have hdr : All2 (RelD g.M) ds (ys.toList.take ds.length) := allD_rel hd (hr.take _)
  have relC : ∀ c y, RelC g c y → RelC g1 (c.frz i sz ds) y := by
    intro c y hc
    cases c with
    | undef => trivial
    | val x => exact hc
    | lst o nl sz' xs => exact ⟨hc.1.mono hMm, hc.2⟩
    | ptr j o =>
      simp only [C.frz]
      split
      · trivial
      · exact hc
    | mem xs => obtain ⟨a, h1, h2⟩ := hc; exact ⟨a, h1, h2.mono hMm⟩
    | row j o n c =>
      simp only [C.frz]
      split
      · rename_i e
        subst e
        split
        · rename_i hq
          obtain ⟨h0, h1, h2, h3⟩ := hq
          obtain rfl := hc
          have hln : ((ds.drop o).take (n * sz)).length = n * sz := by simp; omega
          refine ⟨RelD.mk (by simp) h0 (by rw [hln]) h1 h2 ?_, trivial⟩
          intro k d hk
          rw [List.getElem?_take] at hk
          split at hk
          · rw [List.getElem?_drop] at hk
            obtain ⟨y, hy, hy2⟩ := hdr.get hk
            rw [List.getElem?_take] at hy
            split at hy
            · refine ⟨y, ?_, hy2.mono hMm⟩
              rw [add_mk]
              show addM g.M (g.B j) ys.toList _ = some y
              unfold addM
              rw [if_pos ⟨rfl, rfl, (List.getElem?_eq_some_iff.1 hy).1⟩]
              exact hy
            · cases hy
          · cases hk
        · trivial
      · exact hc
    | typ => exact hc
    | ifc => exact hc
    | fn f x z =>
      simp only [C.frz]
      split
      · trivial
      · exact hc
  have relW : ∀ c y, RelW g c y → RelW g1 (c.frz i sz ds) y := by
    intro c y hc
    cases c with
    | c x => exact relC _ _ hc
    | agg cs => obtain ⟨ys, h1, h2⟩ := hc; exact ⟨ys, h1, h2.map relC⟩
  have relV : ∀ c y, RelV g c y → RelV g1 (c.frz i sz ds) y := by
    intro c y hc
    cases c with
    | w x => exact relW _ _ hc
    | tup cs => obtain ⟨ys, h1, h2⟩ := hc; exact ⟨ys, h1, h2.map relW⟩
  have heap : ∀ j c, hget (s.frz i sz ds).heap j = some c → j ≠ i ∧ ∃ c0, hget s.heap j = some c0 ∧ c = c0.map (C.frz i sz ds) := by
    intro j c hj
    simp only [St.frz] at hj
    rw [hget_hfrz] at hj
    split at hj
    · cases hj
    · rename_i hne
      simp only [Option.map_eq_some_iff] at hj
      obtain ⟨c0, h0, rfl⟩ := hj
      exact ⟨hne, c0, h0, rfl⟩
  refine ⟨g1, ⟨hs.slots.map relV, hs.defers, ⟨?_, ?_, ?_, ?_, ?_, ?_, hs.wi.ownI⟩, hs.cum.trans ⟨rfl, rfl, rfl, Nat.le_refl _, fun _ _ _ => rfl, ?_, hMm, ?_, fun _ => rfl⟩⟩, relV⟩
  · intro ad v ha
    rcases addM_inv ha with ha | ⟨h1, h2, h3, h4⟩
    · exact hs.wi.mem ad v ha
    · obtain ⟨b, o, sp⟩ := ad
      simp only at h1 h2 h3 h4
      subst h1; subst h2
      rw [cell_row hb, ← Array.getElem?_toList]
      exact h4
  · intro j c hj
    obtain ⟨_, c0, h0, rfl⟩ := heap j c hj
    obtain ⟨zs, u, h1, h2, hT⟩ := hs.wi.box j c0 h0
    exact ⟨zs, u, h1, h2.map relC, hT.mapf frz_typ⟩
  · intro j k c d hj hk e
    obtain ⟨_, c0, h0, _⟩ := heap j c hj
    obtain ⟨_, d0, h1, _⟩ := heap k d hk
    exact hs.wi.inj j k _ _ h0 h1 e
  · intro j c ad v hj ha
    obtain ⟨hne, c0, h0, _⟩ := heap j c hj
    rcases addM_inv ha with ha | ⟨h1, _⟩
    · exact hs.wi.boxM j c0 ad v h0 ha
    · intro e
      exact hne (hs.wi.inj j i _ _ h0 hi (e.symm.trans h1))
  · intro t r ht
    obtain ⟨cur, h1, h2, h3, h4, h5⟩ := hs.wi.own t r ht
    refine ⟨cur, h1, h2, h3, h4, fun ad v ha e => ?_⟩
    rcases addM_inv ha with ha | ⟨h6, _⟩
    · exact h5 ad v ha e
    · exact absurd (e.symm.trans h6) (hs.wi.ownB t r i cs ht hi)
  · intro t r j c ht hj
    obtain ⟨_, c0, h0, _⟩ := heap j c hj
    exact hs.wi.ownB t r j c0 ht h0
  · rintro k (⟨j, c, hj, rfl⟩ | ⟨t, r, ht, rfl⟩)
    · obtain ⟨_, c0, h0, _⟩ := heap j c hj
      exact .inl (.inl ⟨j, c0, h0, rfl⟩)
    · exact .inl (.inr ⟨t, r, ht, rfl⟩)
  · intro ad v ha
    rcases addM_inv ha with ha | ⟨h1, _⟩
    · exact .inl ha
    · exact .inr (.inl (.inl ⟨i, cs, hi, h1.symm⟩))
theorem sound_callF {f : FuncId} {d : Nat} {K : V → St → Prop} {args : List V} {us : List Value} (hs : Sim E g s a w) (ha : All2 (RelV g) args us) (h : aCallF P f args d s K) :
    Callable P f ∧ Calls P f us.toArray w fun e w' => ∃ x v s' g', e = .returned x ∧ K v s' ∧ RelV g' v x ∧ Sim E g' s' a w' := by
  rcases h with h | ⟨i, sz, ds, hf, h⟩
  · exact sound_callT hs ha h
  · obtain ⟨g1, hs1, hr⟩ := hs.frz (sz := sz) hf
    exact sound_callT hs1 (ha.map hr) h
end
end Go.Proofs.Ytamcjecgkfmjkaa
