/- The logic: conversions of rows of bytes. -/
import Derived.Test.YtamcjecgkfmjkaaAwB
import Derived.Laws.BytesString
import Derived.Laws.IdiomStrings
open Go Go.RowKit
namespace Go.Proofs.Ytamcjecgkfmjkaa
set_option linter.unusedSimpArgs false

def strB (bs : List UInt8) : ByteArray := ⟨bs.toArray⟩
def aConvL (P : Program) (t t' : TypeId) (o : Own) (nl : Option Bool) (sz : Nat) (xs : List D) (s : St) (K : V → St → Prop) : Prop :=
  isSlcT P t = true ∧ ∃ e, idxT P t = some (none, e, 1) ∧ kindT P e = some .u8 ∧ sz = 1 ∧
  ((isStrT P t' = true ∧ ∃ bs : List UInt8, xs = bs.map (fun b => .val (.int .u8 b.toNat)) ∧ K (.val (.string (strB bs))) s) ∨
   (t' = t ∧ ∃ p, o = .tag (.made p) ∧ K (.cell (.lst .no nl sz xs)) (s.clean (fun _ => false) (fun u => u == .made p))))
/-- bytes of a box as a string -/
def aConvR (P : Program) (t t' : TypeId) (i : Id) (off n : Nat) (s : St) (K : V → St → Prop) : Prop :=
  isSlcT P t = true ∧ (∃ e, idxT P t = some (none, e, 1) ∧ kindT P e = some .u8) ∧ isStrT P t' = true ∧
  ∃ cs, hget s.heap i = some cs ∧ ∃ bs : List UInt8, off + n ≤ cs.length ∧ (cs.drop off).take n = bs.map (fun b => C.val (.int .u8 b.toNat)) ∧ K (.val (.string (strB bs))) s
/-- a string as a string of another type, or as bytes -/
def aConvT (q : Option Bool) (P : Program) (t t' : TypeId) (b : ByteArray) (s : St) (K : V → St → Prop) : Prop :=
  match q with
  | some true => isStrT P t = true ∧ b.size ≤ 140737488355328 ∧ K (.cell (.lst .no (some false) 1 (b.data.toList.map fun c => .val (.int .u8 c.toNat)))) s
  | _ => aConv P t t' (V.val (.string b)) fun v => K v s
def aConvS (P : Program) (t t' : TypeId) (x : V) (s : St) (K : V → St → Prop) : Prop :=
  match x with
  | .w (.c (.lst o nl sz xs)) => aConvL P t t' o nl sz xs s K
  | .w (.c (.row i off n _)) => aConvR P t t' i off n s K
  | .w (.c (.val (.string b))) => aConvT (sbT P t') P t t' b s K
  | x => aConv P t t' x fun v => K v s

section
variable {P : Program} {E : Entry} {g : Gh} {w : World} {s : St} {a : Act}
theorem kindT_und {e : TypeId} {k : IntKind} (h : kindT P e = some k) : P.underlying e = some (.int k) := by
  unfold kindT at h
  split at h
  · rename_i k' hu; cases h; exact hu
  · cases h
theorem isStrT_und {t : TypeId} (h : isStrT P t = true) : P.underlying t = some .string := by
  unfold isStrT at h
  split at h
  · rename_i hu; exact hu
  · cases h
theorem foldl_push_b (m : List UInt8) : ∀ (b : ByteArray), (m.map (fun c => (c.toNat : Int))).foldl (fun r n => r.push (UInt8.ofNat n.toNat)) b = ⟨b.data ++ m.toArray⟩ := by
  induction m with
  | nil => intro b; simp
  | cons c m ih =>
    intro b
    rw [List.map_cons, List.foldl_cons, ih]
    simp [ByteArray.push]
theorem freeze_heap (w : World) (k off n : Nat) (j : Nat) (hj : j ≠ k) : (w.freeze ⟨k, off, none⟩ n).heap[j]? = w.heap[j]? := by
  unfold World.freeze
  split
  · rfl
  · show (w.heap.modify k _)[j]? = _
    rw [Array.getElem?_modify, if_neg (Ne.symm hj)]
theorem freeze_same (w : World) (k off n : Nat) (hn : n ≠ 0) {cs : Array Value} {e : TypeId} (hb : w.heap[k]? = some (.cells cs e (0, 0))) : ∃ m, (w.freeze ⟨k, off, none⟩ n).heap[k]? = some (.cells cs e m) := by
  unfold World.freeze
  rw [if_neg (by simp [hn])]
  refine ⟨(off, off + n), ?_⟩
  show (w.heap.modify k _)[k]? = _
  rw [Array.getElem?_modify, if_pos rfl, hb]
  rfl
/-- memory that is read from now on: a block that is new, and nobody's -/
theorem Sim.addMem {w' : World} {ys : Array Value} {t : TypeId} {fr : Nat × Nat} (hs : Sim E g s a w) (ho : w'.os = w.os) (ht : w'.tape = w.tape) (hp : w'.output = w.output) (hz : w'.heap.size = w.heap.size + 1)
    (hold : ∀ k, k < w.heap.size → w'.heap[k]? = w.heap[k]?) (hnew : w'.heap[w.heap.size]? = some (.cells ys t fr)) (n : Nat) : Sim E ⟨addM g.M w.heap.size (ys.toList.take n), g.B, g.O⟩ s a w' := by
  have hO : ∀ a v, g.M a = some v → a.block = w.heap.size → a.off < (ys.toList.take n).length → (ys.toList.take n)[a.off]? = some v := fun a v ha e => by
    have := hs.wi.mem_lt ha; omega
  have hMm : ∀ a v, g.M a = some v → addM g.M w.heap.size (ys.toList.take n) a = some v := fun a v ha => addM_old hO ha
  have lt : ∀ j ds, hget s.heap j = some ds → g.B j < w.heap.size := fun j ds hj => by obtain ⟨_, _, h1, _⟩ := hs.wi.box j ds hj; exact block_lt h1
  have lO : ∀ u r, g.O u = some r → r.blk < w.heap.size := fun u r hu => by obtain ⟨_, h1, _⟩ := hs.wi.own u r hu; exact block_lt h1
  refine ⟨hs.slots.mono fun _ _ h => RelV.grow (g := g) (g' := ⟨addM g.M w.heap.size (ys.toList.take n), g.B, g.O⟩) hMm (fun _ => rfl) (fun _ => rfl) h, hs.defers, ⟨?_, ?_, hs.wi.inj, ?_, ?_, hs.wi.ownB, hs.wi.ownI⟩, hs.cum.trans ⟨ho, ht, hp, by show w.heap.size ≤ _; omega, fun k hk _ => hold k hk, fun k hk => .inl hk, hMm, ?_, fun k => rfl⟩⟩
  · intro ad v ha
    rcases addM_inv ha with ha | ⟨h1, h2, h3, h4⟩
    · rw [cell_eq (hold _ (hs.wi.mem_lt ha))]; exact hs.wi.mem ad v ha
    · obtain ⟨b, o, sp⟩ := ad
      simp only at h1 h2 h3 h4
      subst h1; subst h2
      rw [cell_of_row _ _ _ _ _ _ hnew, ← Array.getElem?_toList]
      rw [List.getElem?_take] at h4
      split at h4
      · exact h4
      · cases h4
  · intro j ds hj
    obtain ⟨zs, u, h1, h2, hT⟩ := hs.wi.box j ds hj
    exact ⟨zs, u, by rw [hold _ (lt j ds hj)]; exact h1, h2.mono fun _ _ h => RelC.grow (g := g) (g' := ⟨addM g.M w.heap.size (ys.toList.take n), g.B, g.O⟩) hMm (fun _ => rfl) (fun _ => rfl) h, hT⟩
  · intro j ds ad v hj ha
    rcases addM_inv ha with ha | ⟨h1, _⟩
    · exact hs.wi.boxM j ds ad v hj ha
    · have := lt j ds hj; show ad.block ≠ g.B j; omega
  · intro u r hu
    obtain ⟨cur, h1, h2, h3, h4, h5⟩ := hs.wi.own u r hu
    have := lO u r hu
    refine ⟨cur, by rw [hold _ this]; exact h1, h2, h3, h4, fun ad v ha e => ?_⟩
    rcases addM_inv ha with ha | ⟨h6, _⟩
    · exact h5 ad v ha e
    · omega
  · intro ad v ha
    rcases addM_inv ha with ha | ⟨h1, _⟩
    · exact .inl ha
    · exact .inr (.inr (by show w.heap.size ≤ _; omega))
theorem sound_convS {t t' : TypeId} {x : V} {u : Value} {K : V → St → Prop} (hs : Sim E g s a w) (hx : RelV g x u) (h : aConvS P t t' x s K)
    (hpure : ∀ {K' : V → Prop}, aConv P t t' x K' → ∃ r z, K' r ∧ RelV g r z ∧ ∀ w : World, (convert t t' u).run P w = .ok z w) :
    ∃ r s' g' w' z, K r s' ∧ RelV g' r z ∧ Sim E g' s' a w' ∧ (convert t t' u).run P w = .ok z w' := by
  unfold aConvS at h
  split at h
  · rename_i o nl sz xs
    obtain ⟨_, e, hidx, hk, rfl, h⟩ := h
    have hu := (idxT_slc hidx).1
    have he := kindT_und hk
    obtain ⟨hD, hO⟩ : RelD g.M (.lst nl 1 xs) u ∧ RelO g.O o 1 u := hx
    rcases h with ⟨hstr, bs, rfl, hK⟩ | ⟨rfl, p, rfl, hK⟩
    · have hd := isStrT_und hstr
      refine ⟨_, s, g, w, .string (strB bs), hK, ⟨rfl, rfl⟩, hs, ?_⟩
      obtain ⟨hp, hy⟩ := RelD.lst_inv hD
      rcases hy with ⟨rfl, hbs, hn⟩ | ⟨ad, n, c, rfl, hn, hl, hc, hm, hM⟩
      · rw [run_convert_bytes_string w _ _ _ _ _ _ hu he hd]
        have : bs = [] := by simpa using hbs
        subst this
        rfl
      · rw [run_convert_bytes_string w _ _ _ _ _ _ hu he hd]
        have hlen : n = bs.length := by simpa using hl
        subst hlen
        have hcell : ∀ j v, (bs.map fun c => Value.int .u8 (c.toNat : Int))[j]? = some v → w.cell? (ad.add j) = some v := by
          intro j v hj
          simp only [List.getElem?_map, Option.map_eq_some_iff] at hj
          obtain ⟨b, hb, rfl⟩ := hj
          obtain ⟨u, h1, h2⟩ := hM j (.val (.int .u8 (b.toNat : Int))) (by simp [hb])
          cases h2
          exact hs.wi.mem _ _ h1
        have h1 := run_loadCells_list (P := P) (w := w) ad _ hcell
        rw [List.length_map] at h1
        rw [run_bytesToString w ad _ _ (bs.map fun c => (c.toNat : Int)) (by rw [h1]; congr 2; rw [List.map_map]; rfl), foldl_push_b]
        simp [strB]
    · rcases hO with ⟨hx, _⟩ | ⟨r, hr, hrs, rfl⟩
      · cases hx
      · obtain ⟨cur, hb, hcs, hnc, hcm, hMo⟩ := hs.wi.own _ r hr
        let w' := w.freeze ⟨r.blk, cur.size, none⟩ 1
        obtain ⟨m, hfz⟩ := freeze_same w r.blk cur.size 1 (by decide) hb
        have hne : ∀ j, j ≠ r.blk → w'.heap[j]? = w.heap[j]? := fun j hj => freeze_heap w _ _ _ j hj
        have hsh : w.shape? r.blk = some (r.e, cur.size) := by unfold World.shape?; rw [hb]
        have hrun : (convert t' t' (.slice (some ⟨r.blk, 0, none⟩) r.n r.c)).run P w = .ok (.slice (some ⟨r.blk, 0, none⟩) r.n r.c) w' := by
          simp [convert, run_underlying hu, run_underlying he, markStringish, hsh, w']
        have hcell : ∀ ad v, w.cell? ad = some v → w'.cell? ad = some v := by
          intro ad v h
          by_cases hbk : ad.block = r.blk
          · obtain ⟨k, off, st⟩ := ad
            cases hbk
            cases st with
            | none =>
              rw [cell_of_row _ _ _ _ _ _ hb] at h
              rw [cell_of_row _ _ _ _ _ _ hfz]
              exact h
            | some _ =>
              unfold World.cell? at h ⊢
              simp only [hb] at h
              rw [show w'.heap[r.blk]? = _ from hfz]
              exact h
          · rw [cell_eq (hne _ hbk)]; exact h
        let g1 : Gh := ⟨g.M, g.B, fun u => if (u == Tag.made p) then none else g.O u⟩
        have hs1 : Sim E g1 (s.clean (fun _ => false) (fun u => u == .made p)) a w := hs.clean rfl (fun _ _ => rfl) (fun _ => rfl) (fun _ => rfl)
        have hO1 : ∀ u q, g1.O u = some q → g.O u = some q ∧ u ≠ .made p := by
          intro u q hq
          simp only [g1] at hq
          split at hq
          · cases hq
          · rename_i hne; exact ⟨hq, by simpa using hne⟩
        have hsz : w'.heap.size = w.heap.size := by
          simp only [w']
          unfold World.freeze
          split
          · rfl
          · simp
        have hos : w'.os = w.os ∧ w'.tape = w.tape ∧ w'.output = w.output := by
          simp only [w']
          unfold World.freeze
          split <;> exact ⟨rfl, rfl, rfl⟩
        refine ⟨_, _, g1, w', _, hK, ⟨?_, trivial⟩, ⟨hs1.slots, hs1.defers, ⟨fun ad v ha => hcell _ _ (hs1.wi.mem ad v ha), ?_, hs1.wi.inj, hs1.wi.boxM, ?_, hs1.wi.ownB, hs1.wi.ownI⟩, ?_⟩, hrun⟩
        · exact hD
        · intro i cs hi
          obtain ⟨ys, ty, h1, h2⟩ := hs1.wi.box i cs hi
          refine ⟨ys, ty, ?_, h2⟩
          rw [hne]
          · exact h1
          · intro e
            have hi' : ∃ ds, hget s.heap i = some ds := by
              simp only [St.clean] at hi
              rw [hget_hclean] at hi
              simp only [Bool.false_eq_true, if_false, Option.map_eq_some_iff] at hi
              obtain ⟨ds, hd, _⟩ := hi
              exact ⟨ds, hd⟩
            obtain ⟨ds, hd⟩ := hi'
            exact hs.wi.ownB _ r i ds hr hd e.symm
        · intro u q hq
          obtain ⟨cur', h1, h2⟩ := hs1.wi.own u q hq
          refine ⟨cur', ?_, h2⟩
          rw [hne]
          · exact h1
          · intro e
            obtain ⟨h3, h4⟩ := hO1 u q hq
            exact h4 (hs.wi.ownI _ _ _ _ h3 hr e)
        · have hc := hs1.cum
          refine ⟨hos.1.trans hc.os, hos.2.1.trans hc.tape, hos.2.2.trans hc.output, by rw [hsz]; exact hc.size, ?_, hc.foot, hc.mem, hc.memN, hc.argB⟩
          intro k hk hF
          rw [hne]
          · exact hc.unch k hk hF
          · intro e
            subst e
            rcases hs.cum.foot _ (.inr ⟨_, r, hr, rfl⟩) with h | h
            · exact hF h
            · omega
  · rename_i i off n cp
    obtain ⟨_, ⟨e, hidx, hk⟩, hstr, cs, hi, bs, hfit, hcs, hK⟩ := h
    have hu := (idxT_slc hidx).1
    have he := kindT_und hk
    have hd := isStrT_und hstr
    obtain rfl := hx
    obtain ⟨ys, ty, hb, hr, _⟩ := hs.wi.box i cs hi
    refine ⟨_, s, g, w, .string (strB bs), hK, ⟨rfl, rfl⟩, hs, ?_⟩
    rw [run_convert_bytes_string w _ _ _ _ _ _ hu he hd]
    have hlen : n = bs.length := by
      have := congrArg List.length hcs
      simp at this
      omega
    subst hlen
    have hsub := (hr.drop off).take bs.length
    rw [hcs] at hsub
    have hcell : ∀ j v, (bs.map fun c => Value.int .u8 (c.toNat : Int))[j]? = some v → w.cell? ((⟨g.B i, off, none⟩ : Addr).add j) = some v := by
      intro j v hj
      simp only [List.getElem?_map, Option.map_eq_some_iff] at hj
      obtain ⟨b, hb', rfl⟩ := hj
      obtain ⟨y, hy, hy2⟩ := hsub.get (i := j) (a := C.val (.int .u8 b.toNat)) (by simp [hb'])
      obtain ⟨_, rfl⟩ := hy2
      rw [add_mk, cell_row hb, ← Array.getElem?_toList]
      rw [List.getElem?_take] at hy
      split at hy
      · rw [List.getElem?_drop] at hy; exact hy
      · cases hy
    have h1 := run_loadCells_list (P := P) (w := w) ⟨g.B i, off, none⟩ _ hcell
    rw [List.length_map] at h1
    rw [run_bytesToString w ⟨g.B i, off, none⟩ _ _ (bs.map fun c => (c.toNat : Int)) (by rw [h1]; congr 2; rw [List.map_map]; rfl), foldl_push_b]
    simp [strB]
  · rename_i b
    unfold aConvT at h
    split at h
    · rename_i hq
      obtain ⟨hst, hsz, hK⟩ := h
      obtain ⟨_, rfl⟩ := hx
      have hsb : ∃ e, P.underlying t' = some (.slice e) ∧ P.underlying e = some (.int .u8) := by
        unfold sbT at hq
        split at hq
        · cases hq
        · split at hq
          · rename_i e hi
            split at hq
            · rename_i hk; exact ⟨e, (idxT_slc hi).1, kindT_und hk⟩
            · cases hq
          · cases hq
      obtain ⟨e, hu, he⟩ := hsb
      have hrun := run_bytes_of_string (P := P) w t t' e b (isStrT_und hst) hu he
      have hcap := grownCap_ge w b.size 0 e
      have hcm : grownCap w b.size 0 e ≤ maxLen := grownCap_le_maxLen w b.size 0 e (by simp only [maxLen]; omega)
      have hbs : (bytesRow b (grownCap w b.size 0 e)).toList.take b.size = b.data.toList.map fun c => Value.int .u8 c.toNat := by
        have hl : b.size = (b.data.toList.map fun c => Value.int .u8 c.toNat).length := by simp
        unfold bytesRow
        rw [Array.toList_append, Array.toList_map, hl, List.take_left']
        simp
      generalize bytesRow b (grownCap w b.size 0 e) = ys at hrun hbs
      have hs' := hs.addMem (w' := w.drew.alloc (.cells ys e (ys.size, ys.size + 1))) (ys := ys) (t := e) (fr := (ys.size, ys.size + 1)) rfl rfl rfl (by simp) (fun k hk => Below.heap_alloc w.drew _ k hk) (heap_alloc_new w.drew _) b.size
      refine ⟨_, _, _, _, _, hK, ⟨?_, trivial⟩, hs', hrun⟩
      have hl : b.size = (b.data.toList.map fun c => D.val (.int .u8 c.toNat)).length := by simp
      refine RelD.mk (by simp) (by omega) (by rw [Nat.mul_one]; exact hl) hcap hcm ?_
      intro j d hd
      simp only [List.getElem?_map, Option.map_eq_some_iff] at hd
      obtain ⟨c, hc, rfl⟩ := hd
      refine ⟨_, addM_get (i := j) (v := .int .u8 c.toNat) ?_, .val rfl⟩
      rw [hbs]
      simp [hc]
    · obtain ⟨r, z, h1, h2, h3⟩ := hpure (K' := fun v => K v s) h
      exact ⟨r, s, g, w, z, h1, h2, hs, h3 w⟩
  · obtain ⟨r, z, h1, h2, h3⟩ := hpure (K' := fun v => K v s) h
    exact ⟨r, s, g, w, z, h1, h2, hs, h3 w⟩
end
end Go.Proofs.Ytamcjecgkfmjkaa
