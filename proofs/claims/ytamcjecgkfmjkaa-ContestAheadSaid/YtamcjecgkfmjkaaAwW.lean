/- The logic: rows that are made, grow, are copied. -/
import Derived.Test.YtamcjecgkfmjkaaAwU
import Derived.Lib.AppendStr
open Go Go.RowKit
namespace Go.Proofs.Ytamcjecgkfmjkaa
set_option linter.unusedSimpArgs false
set_option linter.unusedVariables false

section
variable {P : Program} {E : Entry} {g : Gh} {w : World} {s : St} {a : Act}

/-- where what is appended lies -/
structure SrcAt (g : Gh) (w : World) (sz : Nat) (ds : List D) (y : Value) (A : Option Addr) (m c : Nat) (us : List Value) : Prop where
  form : y = .slice A m c
  len : us.length = m * sz
  rel : All2 (RelD g.M) ds us
  cells : 0 < us.length → ∃ ad, A = some ad ∧ ∀ j u, us[j]? = some u → w.cell? (ad.add j) = some u
theorem All2.of_some {α β : Type} {R : α → β → Prop} {l : List α} (h : ∀ (i : Nat) (x : α), l[i]? = some x → ∃ y, R x y) : ∃ m, All2 R l m := by
  induction l with
  | nil => exact ⟨[], .nil⟩
  | cons x l ih =>
    obtain ⟨y, hy⟩ := h 0 x (by simp)
    obtain ⟨m, hm⟩ := ih fun i x hx => h (i + 1) x (by simpa using hx)
    exact ⟨y :: m, .cons hy hm⟩
theorem relM_list {M : Addr → Option Value} {ad : Addr} {ds : List D} (h : RelM M ad ds) : ∃ us, All2 (RelD M) ds us ∧ ∀ j u, us[j]? = some u → M (ad.add j) = some u := by
  refine ⟨(List.range ds.length).map fun i => (M (ad.add i)).getD undef, All2.of_get (by simp) fun i d u hd hu => ?_, fun j u hu => ?_⟩
  · obtain ⟨v, hv, hr⟩ := h i d hd
    have hi := (List.getElem?_eq_some_iff.1 hd).1
    simp [hi, hv] at hu
    subst hu
    exact hr
  · by_cases hj : j < ds.length
    · obtain ⟨v, hv, _⟩ := h j _ (List.getElem?_eq_getElem hj)
      simp [hj, hv] at hu
      rw [hv, hu]
    · simp [hj] at hu
theorem src_at {sz : Nat} {x : V} {y : Value} {K : List D → Prop} (h0 : 0 < sz) (hs : Sim E g s a w) (hx : RelV g x y) (h : aSrc sz x s K) : ∃ ds, K ds ∧ ∃ A m c us, SrcAt g w sz ds y A m c us := by
  unfold aSrc at h
  split at h
  · rename_i o nl sz' ys
    obtain ⟨hz, h⟩ := h
    refine ⟨ys, h, ?_⟩
    obtain ⟨hsz, h2⟩ := RelD.lst_inv hx.1
    rcases h2 with ⟨rfl, rfl, _⟩ | ⟨ad, n, c, rfl, _, hl, hc, _, hm⟩
    · exact ⟨none, 0, 0, [], rfl, by simp, .nil, fun h => by simp at h⟩
    · obtain ⟨us, h3, h4⟩ := relM_list hm
      refine ⟨some ad, n, c, us, rfl, ?_, h3, fun _ => ⟨ad, rfl, fun j u hu => hs.wi.mem _ _ (h4 j u hu)⟩⟩
      rw [← h3.length, ← hl]
      rcases hz with rfl | rfl
      · rfl
      · simp only [List.length_nil] at hl
        have : n = 0 := by
          rcases Nat.eq_zero_or_pos n with h | h
          · exact h
          · have := Nat.mul_pos h hsz; omega
        subst this
        simp
  · rename_i i off n cp
    obtain ⟨cs, ds, hi, hfit, hd, h⟩ := h
    obtain rfl := hx
    refine ⟨ds, h, ?_⟩
    obtain ⟨ys, t, hb, hr, _⟩ := hs.wi.box i cs hi
    have hlen := hr.length
    simp only [Array.length_toList] at hlen
    refine ⟨some ⟨g.B i, off, none⟩, n, cp, (ys.toList.drop off).take (n * sz), rfl, by simp; omega, allD_rel hd ((hr.drop off).take _), fun _ => ⟨_, rfl, fun j u hu => ?_⟩⟩
    rw [add_mk, cell_row hb, ← Array.getElem?_toList]
    rw [List.getElem?_take] at hu
    split at hu
    · rw [List.getElem?_drop] at hu; exact hu
    · cases hu
  · exact h.elim

theorem bytesT_spec {t : TypeId} {b : Nat} (h : bytesT P t = some b) : ∃ i, P.info? t = some i ∧ i.bytes = b := by
  unfold bytesT at h
  cases hq : P.info? t with
  | none => rw [hq] at h; cases h
  | some i => rw [hq] at h; simp at h; exact ⟨i, rfl, h⟩
theorem mul_le_pos {n b K : Nat} (hb : 0 < b) (h : n * b ≤ K) : n ≤ K := Nat.le_trans (Nat.le_mul_of_pos_right _ hb) h

/-- a row onto which is laid, in its own block -/
theorem Sim.growRow (hs : Sim E g s a w) {τ0 τ : Tag} {r : Rec} {cur : Array Value} {us : List Value} {m : Nat} (hr : g.O τ0 = some r) (hτ : τ = τ0 ∨ g.O τ = none) (hb : w.heap[r.blk]? = some (.cells cur r.e (0, 0))) (hl : us.length = m * r.sz) (hroom : r.n + m ≤ r.c) {g' : Gh}
    (hM : g'.M = addM g.M r.blk (cur.toList.take (r.n * r.sz) ++ us)) (hB : g'.B = g.B) (hO : ∀ u, g'.O u = if u = τ then some ⟨r.blk, r.n + m, r.c, r.sz, r.e⟩ else if u = τ0 then none else g.O u)
    (hslots : All2 (RelV g') s.slots a.tmps.toList) (hheap : ∀ j cs ys, hget s.heap j = some cs → All2 (RelC g) cs ys → All2 (RelC g') cs ys) :
    Sim E g' s a (w.setRow r.blk (cur.toList.take (r.n * r.sz) ++ us ++ cur.toList.drop (r.n * r.sz + us.length)).toArray) := by
  obtain ⟨cur', hb', hcs, hnc, hcm, hMo⟩ := hs.wi.own τ0 r hr
  rw [hb] at hb'
  cases hb'
  have hfit : r.n * r.sz + us.length ≤ cur.size := by rw [hl, hcs, ← Nat.add_mul]; exact Nat.mul_le_mul_right _ hroom
  have htl : (cur.toList.take (r.n * r.sz)).length = r.n * r.sz := by simp; omega
  have hold : ∀ a v, g.M a = some v → a.block = r.blk → a.off < (cur.toList.take (r.n * r.sz) ++ us).length → (cur.toList.take (r.n * r.sz) ++ us)[a.off]? = some v := by
    intro ad v ha e _
    have h1 := hMo ad v ha e
    rw [List.getElem?_append_left (by omega), List.getElem?_take, if_pos h1]
    have h2 := hs.wi.mem ad v ha
    obtain ⟨b, o, sp⟩ := ad
    obtain rfl : sp = none := spot_none h2
    simp only at e
    subst e
    rw [cell_row hb] at h2
    rw [Array.getElem?_toList]; exact h2
  have hMm : ∀ a v, g.M a = some v → g'.M a = some v := fun a v ha => by rw [hM]; exact addM_old hold ha
  have hnew : (w.setRow r.blk (cur.toList.take (r.n * r.sz) ++ us ++ cur.toList.drop (r.n * r.sz + us.length)).toArray).heap[r.blk]? = some (.cells (cur.toList.take (r.n * r.sz) ++ us ++ cur.toList.drop (r.n * r.sz + us.length)).toArray r.e (0, 0)) := setRow_heap w _ cur _ _ _ hb
  have hoth : ∀ k, k ≠ r.blk → (w.setRow r.blk (cur.toList.take (r.n * r.sz) ++ us ++ cur.toList.drop (r.n * r.sz + us.length)).toArray).heap[k]? = w.heap[k]? := fun k hk => setRow_other w _ k _ hk
  have inv : ∀ u q, g'.O u = some q → (u = τ ∧ q = ⟨r.blk, r.n + m, r.c, r.sz, r.e⟩) ∨ (u ≠ τ ∧ u ≠ τ0 ∧ g.O u = some q) := by
    intro u q hu
    rw [hO] at hu
    split at hu
    · rename_i e; cases hu; exact .inl ⟨e, rfl⟩
    · split at hu
      · cases hu
      · rename_i e1 e2; exact .inr ⟨e1, e2, hu⟩
  refine ⟨hslots, hs.defers, ⟨?_, ?_, ?_, ?_, ?_, ?_, ?_⟩, hs.cum.trans ⟨rfl, rfl, rfl, by show w.heap.size ≤ _; simp, ?_, ?_, hMm, ?_, fun k => by rw [hB]; rfl⟩⟩
  · intro ad v ha
    rw [hM] at ha
    rcases addM_inv ha with ha | ⟨h1, h2, h3, h4⟩
    · by_cases e : ad.block = r.blk
      · have h5 := hold ad v ha e (by have := hMo ad v ha e; simp; omega)
        obtain ⟨b, o, sp⟩ := ad
        obtain rfl : sp = none := spot_none (hs.wi.mem _ v ha)
        simp only at e
        subst e
        rw [cell_row hnew, ← Array.getElem?_toList]
        rw [List.getElem?_append_left (List.getElem?_eq_some_iff.1 h5).1]
        exact h5
      · rw [cell_eq (hoth _ e)]; exact hs.wi.mem ad v ha
    · obtain ⟨b, o, sp⟩ := ad
      simp only at h1 h2 h3 h4
      subst h1; subst h2
      rw [cell_row hnew, ← Array.getElem?_toList]
      rw [List.getElem?_append_left h3]
      exact h4
  · intro j ds hj
    obtain ⟨zs, u, h1, h2, hT⟩ := hs.wi.box j ds hj
    refine ⟨zs, u, by rw [hB, hoth _ (fun e => hs.wi.ownB τ0 r j ds hr hj e.symm)]; exact h1, hheap j ds _ hj h2, hT⟩
  · intro i j cs ds hi hj e; rw [hB] at e; exact hs.wi.inj i j _ _ hi hj e
  · intro j ds ad v hj ha
    rw [hB]
    rw [hM] at ha
    rcases addM_inv ha with ha | ⟨h1, _⟩
    · exact hs.wi.boxM j ds ad v hj ha
    · rw [h1]; exact hs.wi.ownB τ0 r j ds hr hj
  · intro u q hu
    rcases inv u q hu with ⟨rfl, rfl⟩ | ⟨_, hne, hu⟩
    · refine ⟨_, hnew, ?_, hroom, hcm, fun ad v ha hb => ?_⟩
      · simp only [List.size_toArray, List.length_append, List.length_drop, Array.length_toList]; omega
      · rw [hM] at ha
        simp only at hb ⊢
        rw [Nat.add_mul]
        rcases addM_inv ha with ha | ⟨_, _, h3, _⟩
        · have := hMo ad v ha hb; omega
        · rw [List.length_append] at h3; omega
    · obtain ⟨cur2, h1, h2, h3, h4, h5⟩ := hs.wi.own u q hu
      have hneb : q.blk ≠ r.blk := fun e => hne (hs.wi.ownI u τ0 q r hu hr e)
      refine ⟨cur2, by rw [hoth _ hneb]; exact h1, h2, h3, h4, fun ad v ha hb => ?_⟩
      rw [hM] at ha
      rcases addM_inv ha with ha | ⟨h6, _⟩
      · exact h5 ad v ha hb
      · exact absurd (hb.symm.trans h6) hneb
  · intro u q j ds hu hj
    rw [hB]
    rcases inv u q hu with ⟨_, rfl⟩ | ⟨_, _, hu⟩
    · exact hs.wi.ownB τ0 r j ds hr hj
    · exact hs.wi.ownB u q j ds hu hj
  · intro u u' q q' h1 h2 e
    rcases inv u q h1 with ⟨e1, rfl⟩ | ⟨n1, m1, h1⟩ <;> rcases inv u' q' h2 with ⟨e2, rfl⟩ | ⟨n2, m2, h2⟩
    · rw [e1, e2]
    · exact absurd (hs.wi.ownI u' τ0 q' r h2 hr e.symm) m2
    · exact absurd (hs.wi.ownI u τ0 q r h1 hr e) m1
    · exact hs.wi.ownI u u' q q' h1 h2 e
  · intro k hk hF
    exact hoth k (fun e => hF (.inr ⟨τ0, r, hr, e.symm⟩))
  · rintro k (⟨j, ds, hj, rfl⟩ | ⟨u, q, hu, rfl⟩)
    · rw [hB]; exact .inl (.inl ⟨j, ds, hj, rfl⟩)
    · rcases inv u q hu with ⟨_, rfl⟩ | ⟨_, _, hu⟩
      · exact .inl (.inr ⟨τ0, r, hr, rfl⟩)
      · exact .inl (.inr ⟨u, q, hu, rfl⟩)
  · intro ad v ha
    rw [hM] at ha
    rcases addM_inv ha with ha | ⟨h1, _⟩
    · exact .inl ha
    · exact .inr (.inl (.inr ⟨τ0, r, hr, h1.symm⟩))

theorem C.clean_idem {bi : Id → Bool} {bt : Tag → Bool} (c : C) : (c.clean bi bt).clean bi bt = c.clean bi bt := by
  cases c with
  | lst o nl sz xs =>
    cases o with
    | tag t => by_cases h : bt t = true <;> simp [C.clean, h]
    | _ => rfl
  | ptr i o => by_cases h : bi i = true <;> simp [C.clean, h]
  | row i o n c => by_cases h : bi i = true <;> simp [C.clean, h]
  | typ t => by_cases h : bt (.slot []) = true <;> simp [C.clean, h]
  | fn f x y =>
    by_cases h : (x.any (fun p => bi p.1) || y.any (fun p => bi p.1)) = true
    · simp only [C.clean, h, if_true]
    · simp only [C.clean, h]
      simp only [Bool.false_eq_true, if_false, C.clean, h]
  | _ => rfl
theorem run_append_room_any (t ty e t0 : TypeId) (i : TypeInfo) (ht : P.underlying t = some (.slice e)) (hi : P.info? e = some i)
    (g sLen sCap : Nat) (cur : Array Value) (hg : w.heap[g]? = some (.cells cur t0 (0, 0)))
    (a : Addr) (m c : Nat) (news : List Value) (hl : news.length = m * i.size) (hnews : ∀ j u, news[j]? = some u → w.cell? (a.add j) = some u) (h1 : ∀ u ∈ news, u.oneCell' = true)
    (hroom : sLen + m ≤ sCap) (hfit : sLen * i.size + news.length ≤ cur.size) :
    (Builtin.append_ #[t, t] ty #[.slice (some ⟨g, 0, none⟩) sLen sCap, .slice (some a) m c]).run P w =
      .ok (.slice (some ⟨g, 0, none⟩) (sLen + m) sCap) (w.setRow g (cur.toList.take (sLen * i.size) ++ news ++ cur.toList.drop (sLen * i.size + news.length)).toArray) := by
  have hf := run_firstCells_some (P := P) w i.size m a m c news hl hnews
  have hst := run_storeCells_at P g (sLen * i.size) t0 news 0 cur w hg (by simpa using hfit) h1
  simp only [Nat.add_zero] at hst
  simp [Builtin.append_, run_underlying ht, sizeOf, typeInfo, hi, Builtin.lenOf, hroom, hf, Addr.add_lit, hst]
theorem Sim.strike (hs : Sim E g s a w) (bt : Tag → Bool) : Sim E g (s.clean (fun _ => false) bt) a w := by
  refine ⟨hs.slots.map fun v x hv => RelV.clean (g := g) (g' := g) (fun _ _ h => h) (fun _ _ => rfl) (fun _ _ => rfl) hv, hs.defers, ⟨hs.wi.mem, ?_, ?_, ?_, hs.wi.own, ?_, hs.wi.ownI⟩, hs.cum.trans ⟨rfl, rfl, rfl, Nat.le_refl _, fun _ _ _ => rfl, ?_, fun _ _ h => h, fun _ _ h => .inl h, fun _ => rfl⟩⟩
  · intro j ds hj
    simp only [St.clean] at hj
    rw [hget_hclean] at hj
    simp only [Bool.false_eq_true, if_false, Option.map_eq_some_iff] at hj
    obtain ⟨d0, hj, rfl⟩ := hj
    obtain ⟨zs, u, h1, h2, hT⟩ := hs.wi.box j d0 hj
    exact ⟨zs, u, h1, h2.map fun c y hc => RelC.clean (g := g) (g' := g) (fun _ _ h => h) (fun _ _ => rfl) (fun _ _ => rfl) hc, hT.mapf clean_typ⟩
  · intro i j cs ds hi hj e
    simp only [St.clean] at hi hj
    rw [hget_hclean] at hi hj
    simp only [Bool.false_eq_true, if_false, Option.map_eq_some_iff] at hi hj
    obtain ⟨c0, hi, rfl⟩ := hi
    obtain ⟨d0, hj, rfl⟩ := hj
    exact hs.wi.inj i j _ _ hi hj e
  · intro i cs ad v hi ha
    simp only [St.clean] at hi
    rw [hget_hclean] at hi
    simp only [Bool.false_eq_true, if_false, Option.map_eq_some_iff] at hi
    obtain ⟨c0, hi, rfl⟩ := hi
    exact hs.wi.boxM i _ ad v hi ha
  · intro t r i cs ht hi
    simp only [St.clean] at hi
    rw [hget_hclean] at hi
    simp only [Bool.false_eq_true, if_false, Option.map_eq_some_iff] at hi
    obtain ⟨c0, hi, rfl⟩ := hi
    exact hs.wi.ownB t r i _ ht hi
  · rintro k (⟨j, ds, hj, rfl⟩ | ⟨u, q, hu, rfl⟩)
    · simp only [St.clean] at hj
      rw [hget_hclean] at hj
      simp only [Bool.false_eq_true, if_false, Option.map_eq_some_iff] at hj
      obtain ⟨d0, hj, rfl⟩ := hj
      exact .inl (.inl ⟨j, d0, hj, rfl⟩)
    · exact .inl (.inr ⟨u, q, hu, rfl⟩)

theorem run_append_none (t ty e : TypeId) (i : TypeInfo) (ht : P.underlying t = some (.slice e)) (hi : P.info? e = some i) (b : Option Addr) (n cap : Nat) (hn : n ≤ cap) (A : Option Addr) (c : Nat) :
    (Builtin.append_ #[t, t] ty #[.slice b n cap, .slice A 0 c]).run P w = .ok (.slice b n cap) w := by
  cases A <;> cases b <;> simp [Builtin.append_, run_underlying ht, sizeOf, typeInfo, hi, Builtin.lenOf, Builtin.firstCells, loadCells, loadCellsFrom, hn, storeCells]

theorem grow_hold {τ0 : Tag} {r : Rec} {cur : Array Value} {us : List Value} (hw : WI g s.heap w) (hr : g.O τ0 = some r) (hb : w.heap[r.blk]? = some (.cells cur r.e (0, 0))) :
    ∀ a v, g.M a = some v → addM g.M r.blk (cur.toList.take (r.n * r.sz) ++ us) a = some v := by
  obtain ⟨cur', hb', hcs, hnc, hcm, hMo⟩ := hw.own τ0 r hr
  rw [hb] at hb'
  cases hb'
  have hfit : r.n * r.sz ≤ cur.size := by rw [hcs]; exact Nat.mul_le_mul_right _ hnc
  intro ad v ha
  refine addM_old (fun ad v ha e _ => ?_) ha
  have h1 := hMo ad v ha e
  rw [List.getElem?_append_left (by simp; omega), List.getElem?_take, if_pos h1]
  have h2 := hw.mem ad v ha
  obtain ⟨b, o, sp⟩ := ad
  obtain rfl : sp = none := spot_none h2
  simp only at e
  subst e
  rw [cell_row hb] at h2
  rw [Array.getElem?_toList]; exact h2

/-- what 'append' does with what is appended, wherever it comes from -/
structure SrcRun (P : Program) (w : World) (t t' ty : TypeId) (y : Value) (e : TypeId) (ie : TypeInfo) (zv : Value) (m : Nat) (us : List Value) : Prop where
  none : m = 0 → ∀ bs n cap, n ≤ cap → (Builtin.append_ #[t, t'] ty #[.slice bs n cap, y]).run P w = .ok (.slice bs n cap) w
  room : 0 < m → ∀ k n cap cur t0, w.heap[k]? = some (.cells cur t0 (0, 0)) → n + m ≤ cap → n * ie.size + us.length ≤ cur.size →
    (Builtin.append_ #[t, t'] ty #[.slice (some ⟨k, 0, .none⟩) n cap, y]).run P w = .ok (.slice (some ⟨k, 0, .none⟩) (n + m) cap) (w.setRow k (cur.toList.take (n * ie.size) ++ us ++ cur.toList.drop (n * ie.size + us.length)).toArray)
  grow : 0 < m → ∀ bs n cap (olds : List Value), olds.length = n * ie.size → (bs = .none → n = 0 ∧ cap = 0) → (∀ q, bs = some q → ∀ j v, olds[j]? = some v → w.cell? (q.add j) = some v) →
    cap < n + m → ((n + m : Nat) : Int) ≤ 9223372036854775807 → Builtin.nextslicecap (n + m) cap * ie.bytes ≤ 281474976710656 →
    (Builtin.append_ #[t, t'] ty #[.slice bs n cap, y]).run P w = .ok (.slice (some ⟨w.heap.size, 0, .none⟩) (n + m) (grownCap w (n + m) cap e)) (w.drew.alloc (.cells (olds.toArray ++ us.toArray ++ Builtin.zeroCells zv.cells (grownCap w (n + m) cap e - (n + m))) e))
theorem rel_one {g : Gh} {ds : List D} {us : List Value} (h : All2 (RelD g.M) ds us) : ∀ q ∈ us, q.oneCell' = true := by
  induction h with
  | nil => intro q hq; cases hq
  | cons h _ ih =>
    intro q hq
    rcases List.mem_cons.1 hq with rfl | hq
    · exact h.one
    · exact ih q hq
theorem SrcRun.ofAt {t ty e : TypeId} {ie : TypeInfo} {zv : Value} {sz m c : Nat} {ds : List D} {y : Value} {A : Option Addr} {us : List Value} (h : SrcAt g w sz ds y A m c us) (h0 : 0 < sz) (hu : P.underlying t = some (.slice e)) (hie : P.info? e = some ie) (hzv : ie.zero = some zv) (hies : ie.size = sz) : SrcRun P w t t ty y e ie zv m us := by
  obtain rfl := h.form
  refine ⟨fun hm bs n cap hn => ?_, fun hm k n cap cur t0 hk hroom hfit => ?_, fun hm bs n cap olds hol hn ho hg h63 hfits => ?_⟩
  · subst hm; exact run_append_none t ty e ie hu hie bs n cap hn A c
  · obtain ⟨ad, rfl, hcell⟩ := h.cells (by rw [h.len]; exact Nat.mul_pos hm h0)
    exact run_append_room_any (P := P) (w := w) t ty e t0 ie hu hie k n cap cur hk ad m c us (by rw [h.len, hies]) hcell (rel_one h.rel) hroom hfit
  · obtain ⟨ad, rfl, hcell⟩ := h.cells (by rw [h.len]; exact Nat.mul_pos hm h0)
    cases bs with
    | none =>
      obtain ⟨rfl, rfl⟩ := hn rfl
      obtain rfl : olds = [] := List.eq_nil_of_length_eq_zero (by simpa using hol)
      have h48 : m * ie.bytes ≤ 281474976710656 := by
        have : m ≤ Builtin.nextslicecap (0 + m) 0 := by rw [Nat.zero_add, nextslicecap_zero hm]; exact Nat.le_refl _
        exact Nat.le_trans (Nat.mul_le_mul_right _ this) hfits
      have := run_append_nil (P := P) w t ty e ie zv hu hie hzv ad m c us (by rw [h.len, hies]) hcell hm (by omega) h48
      simpa using this
    | some q => exact run_append_grow (P := P) w t ty e ie zv hu hie hzv q n cap olds hol (ho q rfl) ad m c us (by rw [h.len, hies]) hcell hg h63 hfits
theorem sound_appendG {τ : Tag} {t t' ty e : TypeId} {sz b m : Nat} {ie : TypeInfo} {zv : Value} {o : Own} {nl : Option Bool} {sz' : Nat} {xs ds : List D} {us : List Value} {u y : Value} {d : Nat} {K : V → St → Prop} (hs : Sim E g s a w) (hsv : RelV g (.cell (.lst o nl sz' xs)) u)
    (hu : P.underlying t = some (.slice e)) (h0 : 0 < sz) (hie : P.info? e = some ie) (hies : ie.size = sz) (hzs : zv.cells.size = sz) (hbs : ie.bytes = b) (hb0 : 0 < b) (hsz' : sz' = sz ∨ xs = [] ∧ ∀ τ, o ≠ .tag τ) (ho : o ≠ .no)
    (hlen : us.length = m * sz) (hrel : All2 (RelD g.M) ds us) (R : SrcRun P w t t' ty y e ie zv m us) (hbytes : (xs.length + ds.length) / sz * b ≤ 140737488355328) (hτr : rootT d τ = true) (hlx : τ.lax = true ∨ 0 < ds.length ∨ ∃ τ0, o = .tag τ0 ∧ τ0.lax = false) (hty : ∀ q, τ.ty = some q → q = e ∧ ∀ τ0, o = .tag τ0 → τ0.ty = some e)
    (hK : K (.cell (.lst (.tag τ) (if nl = some false then some false else none) sz (xs ++ ds))) (s.clean (fun _ => false) (killT o d))) :
    ∃ r s' g' w' z, K r s' ∧ RelV g' r z ∧ Sim E g' s' a w' ∧ (Builtin.append_ #[t, t'] ty #[u, y]).run P w = .ok z w' := by
  have hdl : ds.length = m * sz := by rw [hrel.length]; exact hlen
  let bt := killT o d
  have hbτ : ∀ t, rootT d t = true → bt t = true := fun t ht => by simp [bt, killT, ht]
  -- the target's form
  have hform : ∃ bs n cap, u = .slice bs n cap ∧ n * sz = xs.length ∧ n ≤ cap ∧ cap ≤ maxLen ∧ (nl = some false → ∃ q, bs = some q) ∧ (bs = none → n = 0 ∧ cap = 0 ∧ xs = []) ∧ ∃ olds, olds.length = n * sz ∧ All2 (RelD g.M) xs olds ∧ ∀ q, bs = some q → (nl ≠ some true ∧ RelM g.M q xs ∧ ∀ j v, olds[j]? = some v → g.M (q.add j) = some v) := by
    obtain ⟨hp, h2⟩ := RelD.lst_inv hsv.1
    rcases h2 with ⟨rfl, rfl, h3⟩ | ⟨q, n, cap, rfl, h3, hl, hc, hm, hM⟩
    · exact ⟨none, 0, 0, rfl, by simp, Nat.le_refl _, Nat.zero_le _, fun e => absurd e h3, fun _ => ⟨rfl, rfl, rfl⟩, [], by simp, .nil, fun q hq => by cases hq⟩
    · obtain ⟨olds, h4, h5⟩ := relM_list hM
      have hn : n * sz = xs.length := by
        rcases hsz' with rfl | ⟨rfl, _⟩
        · exact hl
        · have : n = 0 := by
            rcases Nat.eq_zero_or_pos n with h | h
            · exact h
            · have := Nat.mul_pos h hp; simp at hl; omega
          subst this; simp
      exact ⟨some q, n, cap, rfl, hn, hc, hm, fun _ => ⟨q, rfl⟩, fun e => (by cases e), olds, by rw [hn, h4.length], h4, fun q' hq => by cases hq; exact ⟨h3, hM, h5⟩⟩
  obtain ⟨bs, n, cap, rfl, hnx, hnc, hcm, hnf, hnone, olds, hol, horel, hosome⟩ := hform
  have htot : (n + m) * b ≤ 140737488355328 := by
    have : (xs.length + ds.length) / sz = n + m := by rw [← hnx, hdl, ← Nat.add_mul]; exact Nat.mul_div_cancel _ h0
    rw [this] at hbytes; exact hbytes
  have hnm : n + m ≤ 140737488355328 := mul_le_pos hb0 htot
  have hnl' : ∀ q : Addr, (if nl = some false then some false else none : Option Bool) ≠ some true := fun _ => by split <;> simp
  -- the value that comes back
  have back : ∀ {g' : Gh} {q : Addr} {n' c' : Nat}, n' = n + m → n' ≤ c' → c' ≤ maxLen → RelM g'.M q (xs ++ ds) → RelO g'.O (.tag τ) sz (.slice (some q) n' c') → RelV g' (.cell (.lst (.tag τ) (if nl = some false then some false else none) sz (xs ++ ds))) (.slice (some q) n' c') := by
    intro g' q n' c' hn' hc' hm' hM hO
    exact ⟨RelD.mk (hnl' q) h0 (by rw [hn', Nat.add_mul, hnx, List.length_append, hdl]) hc' hm' hM, hO⟩
  have app : ∀ {g' : Gh} {q : Addr}, (∀ ad v, g.M ad = some v → g'.M ad = some v) → (∀ j v, (olds ++ us)[j]? = some v → g'.M (q.add j) = some v) → RelM g'.M q (xs ++ ds) := by
    intro g' q hmo hc j dd hj
    have hall : All2 (RelD g.M) (xs ++ ds) (olds ++ us) := horel.append hrel
    obtain ⟨v, hv, hr⟩ := hall.get hj
    exact ⟨v, hc j v hv, hr.mono hmo⟩
  -- it must be laid anew
  have anew : cap < n + m → ∃ r s' g' w' z, K r s' ∧ RelV g' r z ∧ Sim E g' s' a w' ∧ (Builtin.append_ #[t, t'] ty #[.slice bs n cap, y]).run P w = .ok z w' := by
    intro hgr
    have hm0 : 0 < m := by omega
    have hul : 0 < us.length := by rw [hlen]; exact Nat.mul_pos hm0 h0
    have hge := grownCap_ge w (n + m) cap e
    have hcm' : grownCap w (n + m) cap e ≤ maxLen := grownCap_le_maxLen w (n + m) cap e (by simp only [maxLen]; omega)
    have hrun : (Builtin.append_ #[t, t'] ty #[.slice bs n cap, y]).run P w = .ok (.slice (some ⟨w.heap.size, 0, none⟩) (n + m) (grownCap w (n + m) cap e)) (w.drew.alloc (.cells (olds.toArray ++ us.toArray ++ Builtin.zeroCells zv.cells (grownCap w (n + m) cap e - (n + m))) e)) := by
      exact R.grow hm0 bs n cap olds (by rw [hol, hies]) (fun e => ⟨(hnone e).1, (hnone e).2.1⟩) (fun q hq j v hj => hs.wi.mem _ _ ((hosome q hq).2.2 j v hj)) hgr (by omega) (growslice_fits hgr (by rw [hbs]; exact htot))
    let g1 : Gh := ⟨g.M, g.B, fun t => if bt t then none else g.O t⟩
    have hs1 : Sim E g1 (s.clean (fun _ => false) bt) a w := hs.clean rfl (fun _ _ => rfl) (fun _ => rfl) (fun _ => rfl)
    let ys : Array Value := olds.toArray ++ us.toArray ++ Builtin.zeroCells zv.cells (grownCap w (n + m) cap e - (n + m))
    have hys : ys.size = grownCap w (n + m) cap e * sz := by
      simp only [ys, Array.size_append, List.size_toArray, size_zeroCells, hzs, hol, hlen, ← Nat.add_mul]
      congr 1; omega
    have hyt : ys.toList.take ((n + m) * sz) = olds ++ us := by
      simp only [ys, Array.toList_append]
      have : (olds ++ us).length = (n + m) * sz := by rw [List.length_append, hol, hlen, Nat.add_mul]
      rw [← this]
      exact List.take_left
    let g2 : Gh := ⟨addM g.M w.heap.size (ys.toList.take ((n + m) * sz)), g.B, fun v => if v = τ then some ⟨w.heap.size, n + m, grownCap w (n + m) cap e, sz, e⟩ else g1.O v⟩
    have hs2 : Sim E g2 (s.clean (fun _ => false) bt) a (w.drew.alloc (.cells ys e)) :=
      hs1.addRow (Grow1.allocDrew w ys e) (τ := τ) (n := n + m) (c := grownCap w (n + m) cap e) (sz := sz) (by simp [g1, hbτ τ hτr]) hys hge hcm' rfl rfl (fun _ => rfl)
    refine ⟨_, _, g2, _, _, hK, back rfl hge hcm' (app (fun ad v ha => ?_) fun j v hj => ?_) (.inr ⟨_, by simp [g2]; rfl, ⟨rfl, fun q hq => (hty q hq).1.symm⟩, rfl⟩), hs2, hrun⟩
    · refine addM_old (fun a v ha e => ?_) ha
      have := hs.wi.mem_lt ha; omega
    · exact addM_get (by rw [hyt]; exact hj)
  -- nothing is laid on
  have stay : RelF (.slice bs n cap) → τ.lax = true → m = 0 → ∃ r s' g' w' z, K r s' ∧ RelV g' r z ∧ Sim E g' s' a w' ∧ (Builtin.append_ #[t, t'] ty #[.slice bs n cap, y]).run P w = .ok z w' := by
    intro hf hlt hm0
    subst hm0
    obtain rfl : us = [] := List.eq_nil_of_length_eq_zero (by simpa using hlen)
    obtain rfl : ds = [] := List.eq_nil_of_length_eq_zero (by simpa using hdl)
    let g1 : Gh := ⟨g.M, g.B, fun t => if bt t then none else g.O t⟩
    have hs1 : Sim E g1 (s.clean (fun _ => false) bt) a w := hs.clean rfl (fun _ _ => rfl) (fun _ => rfl) (fun _ => rfl)
    refine ⟨_, _, g1, w, _, hK, ?_, hs1, R.none rfl bs n cap hnc⟩
    cases bs with
    | none =>
      obtain ⟨rfl, rfl, rfl⟩ := hnone rfl
      refine ⟨RelD.nil ?_ h0, .inl ⟨hlt, hf⟩⟩
      split
      · rename_i hq; obtain ⟨q, hq⟩ := hnf hq; cases hq
      · simp
    | some q => exact back rfl hnc hcm (by simpa using (hosome q rfl).2.1) (.inl ⟨hlt, hf⟩)
  cases o with
  | no => exact absurd rfl ho
  | full =>
    have hf : RelF (.slice bs n cap) := hsv.2
    rcases Nat.eq_zero_or_pos m with hm | hm
    · refine stay hf ?_ hm
      rcases hlx with h | h | ⟨τ0, h, _⟩
      · exact h
      · rw [hdl, hm] at h; simp at h
      · cases h
    · exact anew (by have := hf _ _ _ rfl; omega)
  | tag τ0 =>
    rcases hsv.2 with ⟨hlt0, hf⟩ | ⟨r, hr, hrs, hrf⟩
    · rcases Nat.eq_zero_or_pos m with hm | hm
      · refine stay hf ?_ hm
        rcases hlx with h | h | ⟨τ1, h, h2⟩
        · exact h
        · rw [hdl, hm] at h; simp at h
        · cases h; rw [hlt0] at h2; cases h2
      · exact anew (by have := hf _ _ _ rfl; omega)
    · cases hrf
      have hre := hrs.2
      replace hrs : r.sz = sz := by
        replace hrs := hrs.1
        rcases hsz' with h | ⟨_, h⟩
        · rw [hrs, h]
        · exact absurd rfl (h τ0)
      by_cases hroom : r.n + m ≤ r.c
      · obtain ⟨cur, hb, hcs, _, _, hMo⟩ := hs.wi.own τ0 r hr
        let bt1 : Tag → Bool := fun t => rootT d t && t != τ0
        let g1 : Gh := ⟨g.M, g.B, fun t => if bt1 t then none else g.O t⟩
        have hs1 : Sim E g1 (s.clean (fun _ => false) bt1) a w := hs.clean rfl (fun _ _ => rfl) (fun _ => rfl) (fun _ => rfl)
        have hr1 : g1.O τ0 = some r := by
          show (if bt1 τ0 then none else g.O τ0) = _
          rw [if_neg (by simp [bt1])]; exact hr
        let g2 : Gh := ⟨addM g.M r.blk (cur.toList.take (r.n * r.sz) ++ us), g.B, fun v => if v = τ then some ⟨r.blk, r.n + m, r.c, r.sz, r.e⟩ else if v = τ0 then none else g1.O v⟩
        have hmo : ∀ ad v, g.M ad = some v → g2.M ad = some v := grow_hold hs.wi hr hb
        have hO2 : ∀ t, bt t = false → g2.O t = g.O t := by
          intro t ht
          simp only [bt, killT, Bool.or_eq_false_iff] at ht
          obtain ⟨h1, h2⟩ := ht
          have n1 : t ≠ τ := fun e => by rw [e, hτr] at h1; cases h1
          have n2 : t ≠ τ0 := by simpa using h2
          show (if t = τ then _ else if t = τ0 then none else if bt1 t then none else g.O t) = _
          rw [if_neg n1, if_neg n2, if_neg (by simp [bt1, h1])]
        have hsS : Sim E g1 (s.clean (fun _ => false) bt) a w := by
          have h1 := hs1.strike bt
          refine ⟨hs.slots.map fun v x hv => RelV.clean (g := g) (g' := g1) (fun _ _ h => h) (fun _ _ => rfl) (fun t ht => ?_) hv, hs.defers, ?_, ?_⟩
          · simp only [bt, killT, Bool.or_eq_false_iff] at ht
            show (if bt1 t then none else g.O t) = _
            rw [if_neg (by simp [bt1, ht.1])]
          · have hw := hs.strike bt
            refine ⟨hw.wi.mem, ?_, hw.wi.inj, hw.wi.boxM, h1.wi.own, ?_, h1.wi.ownI⟩
            · intro j cs hj
              simp only [St.clean] at hj
              rw [hget_hclean] at hj
              simp only [Bool.false_eq_true, if_false, Option.map_eq_some_iff] at hj
              obtain ⟨d0, hj, rfl⟩ := hj
              obtain ⟨zs, u, h3, h4, hT⟩ := hs.wi.box j d0 hj
              refine ⟨zs, u, h3, h4.map fun c y hc => RelC.clean (g := g) (g' := g1) (fun _ _ h => h) (fun _ _ => rfl) (fun t ht => ?_) hc, hT.mapf clean_typ⟩
              simp only [bt, killT, Bool.or_eq_false_iff] at ht
              show (if bt1 t then none else g.O t) = _
              rw [if_neg (by simp [bt1, ht.1])]
            · intro t q j cs ht hj
              have ht' : g.O t = some q := by
                change (if bt1 t then none else g.O t) = some q at ht
                split at ht
                · cases ht
                · exact ht
              exact hw.wi.ownB t q j cs ht' hj
          · have hc := (hs.strike bt).cum
            refine ⟨hc.os, hc.tape, hc.output, hc.size, hc.unch, ?_, hc.mem, hc.memN, hc.argB⟩
            rintro k (⟨j, cs, hj, rfl⟩ | ⟨t, q, ht, rfl⟩)
            · exact hc.foot _ (.inl ⟨j, cs, hj, rfl⟩)
            · refine hc.foot _ (.inr ⟨t, q, ?_, rfl⟩)
              change (if bt1 t then none else g.O t) = some q at ht
              split at ht
              · cases ht
              · exact ht
        have hs2 := hsS.growRow (τ := τ) (us := us) (m := m) hr1 (by
          by_cases e : τ = τ0
          · exact .inl e
          · refine .inr ?_
            show (if bt1 τ then none else g.O τ) = none
            rw [if_pos (by simp [bt1, hτr, e])]) hb (by rw [hlen, hrs]) hroom (g' := g2) rfl rfl (fun _ => rfl)
          (hs.slots.map fun v x hv => RelV.clean (g := g) (g' := g2) hmo (fun _ _ => rfl) hO2 hv)
          (fun j cs ys hj hcy => by
            simp only [St.clean] at hj
            rw [hget_hclean] at hj
            simp only [Bool.false_eq_true, if_false, Option.map_eq_some_iff] at hj
            obtain ⟨d0, _, rfl⟩ := hj
            have h3 := hcy.map (T := RelC g2) (f := C.clean (fun _ => false) bt) fun c y hc => RelC.clean (g := g1) (g' := g2) hmo (fun _ _ => rfl) (fun t ht => by
              rw [hO2 t ht]
              simp only [bt, killT, Bool.or_eq_false_iff] at ht
              show _ = if bt1 t then none else g.O t
              rw [if_neg (by simp [bt1, ht.1])]) hc
            rw [List.map_map] at h3
            rwa [show (C.clean (fun _ => false) bt ∘ C.clean (fun _ => false) bt) = C.clean (fun _ => false) bt from funext fun c => C.clean_idem c] at h3)
        have hrun : (Builtin.append_ #[t, t'] ty #[.slice (some ⟨r.blk, 0, none⟩) r.n r.c, y]).run P w = .ok (.slice (some ⟨r.blk, 0, none⟩) (r.n + m) r.c) (w.setRow r.blk (cur.toList.take (r.n * r.sz) ++ us ++ cur.toList.drop (r.n * r.sz + us.length)).toArray) := by
          rcases Nat.eq_zero_or_pos m with hm | hm
          · subst hm
            obtain rfl : us = [] := List.eq_nil_of_length_eq_zero (by simpa using hlen)
            rw [R.none rfl _ _ _ hnc]
            simp only [List.append_nil, List.length_nil, Nat.add_zero, List.take_append_drop, Array.toArray_toList]
            rw [setRow_self w r.blk cur r.e (0, 0) hb]
          · have hul : 0 < us.length := by rw [hlen]; exact Nat.mul_pos hm h0
            have h1 : ∀ q ∈ us, q.oneCell' = true := by
              intro q hq
              obtain ⟨j, hj⟩ := List.mem_iff_getElem?.1 hq
              have hlt := (List.getElem?_eq_some_iff.1 hj).1
              rw [← hrel.length] at hlt
              obtain ⟨b, hb1, hb2⟩ := hrel.get (List.getElem?_eq_getElem hlt)
              rw [hj] at hb1
              cases hb1
              exact hb2.one
            have := R.room hm r.blk r.n r.c cur r.e hb hroom (by rw [hies, hlen, hcs, hrs, ← Nat.add_mul]; exact Nat.mul_le_mul_right _ hroom)
            rw [hies] at this
            rw [hrs]
            exact this
        refine ⟨_, _, g2, _, _, hK, back rfl hroom hcm (app hmo fun j v hj => ?_) (.inr ⟨⟨r.blk, r.n + m, r.c, r.sz, r.e⟩, by simp [g2], ⟨hrs, fun q hq => by have h1 := hty q hq; rw [h1.1]; exact hre e (h1.2 τ0 rfl)⟩, rfl⟩), hs2, hrun⟩
        have htake : cur.toList.take (r.n * r.sz) = olds := by
          apply List.ext_getElem?
          intro j
          rw [List.getElem?_take]
          split
          · rename_i hj
            have hj' : j < olds.length := by rw [hol, ← hrs]; exact hj
            have h2 := hs.wi.mem _ _ ((hosome _ rfl).2.2 j _ (List.getElem?_eq_getElem hj'))
            rw [add_mk, Nat.zero_add, cell_row hb] at h2
            rw [Array.getElem?_toList, h2, List.getElem?_eq_getElem hj']
          · rename_i hj
            rw [List.getElem?_eq_none (by rw [hol, ← hrs]; omega)]
        refine addM_get ?_
        rw [htake]
        exact hj
      · exact anew (by omega)
theorem zeroCells_eq (z : Array Value) (n : Nat) (hz : 0 < z.size) : Builtin.zeroCells z n = (List.replicate n z.toList).flatten.toArray := by
  apply Array.ext'
  have := zeros_eq z n hz
  simpa [Builtin.zeroCells] using this
theorem SrcRun.ofNum {t t' ty e : TypeId} {ie : TypeInfo} {zv : Value} {k : IntKind} {m : Nat} {k' : IntKind} (h0 : 0 < ie.size) (hu : P.underlying t = some (.slice e)) (ht' : P.underlying t' = some (.int k')) (hie : P.info? e = some ie) (hzv : ie.zero = some zv) (hzs : zv.cells.size = ie.size)
    (h1 : ∀ q ∈ zv.cells.toList, q.oneCell' = true) (hm : (m : Int) * ie.bytes ≤ 140737488355328) (hm2 : m ≤ 140737488355328) : SrcRun P w t t' ty (.int k m) e ie zv m (List.replicate m zv.cells.toList).flatten := by
  have hw : IntKind.i64.wrap (m : Int) = m := by simp [IntKind.wrap, IntKind.bits, IntKind.signed]; omega
  have hneg : ¬ ((m : Int) < 0) := by omega
  have hbig : ¬ ((281474976710656 : Int) < (m : Int) * ie.bytes) := by omega
  have hbig' : ¬ (2 ^ 48 < (m : Int) * ie.bytes) := by omega
  have hul : (List.replicate m zv.cells.toList).flatten.length = m * ie.size := by simp [hzs]
  have hone : ∀ u ∈ (List.replicate m zv.cells.toList).flatten, u.oneCell' = true := by
    intro u hu
    simp only [List.mem_flatten, List.mem_replicate] at hu
    obtain ⟨l, ⟨_, rfl⟩, hu⟩ := hu
    exact h1 u hu
  have hz := zeroCells_eq zv.cells m (by omega)
  refine ⟨fun hm0 bs n cap hn => ?_, fun hm0 k n cap cur t0 hk hroom hfit => ?_, fun hm0 bs n cap olds hol hn ho hg h63 hfits => ?_⟩
  · subst hm0
    have hw0 : IntKind.i64.wrap 0 = 0 := by decide
    cases bs <;> simp [Builtin.append_, run_underlying hu, run_underlying ht', sizeOf, typeInfo, hie, asInt, asIntOf, hw0, hn, storeCells]
  · have hst := run_storeCells_at P k (n * ie.size) t0 (List.replicate m zv.cells.toList).flatten 0 cur w hk (by simpa using hfit) hone
    simp only [Nat.add_zero] at hst
    have hpos : m * ie.size ≠ 0 := Nat.pos_iff_ne_zero.1 (Nat.mul_pos hm0 h0)
    have hp1 : m ≠ 0 := by omega
    have hp2 : ie.size ≠ 0 := by omega
    simp [Builtin.append_, run_underlying hu, run_underlying ht', sizeOf, typeInfo, zeroValue, hie, hzv, asInt, asIntOf, hw, hneg, hbig, hroom, hp1, hp2, hz, Addr.add_lit, hst]
    try (intro hq; exact absurd hq hpos)
  · have hpos : m * ie.size ≠ 0 := Nat.pos_iff_ne_zero.1 (Nat.mul_pos hm0 h0)
    have hp1 : m ≠ 0 := by omega
    have hp2 : ie.size ≠ 0 := by omega
    have hn' : ¬ (n + m ≤ cap) := by omega
    have h63' : ¬ (9223372036854775807 < ((n : Int) + (m : Int))) := by omega
    have h48' : ¬ (281474976710656 < Builtin.nextslicecap (n + m) cap * ie.bytes) := by omega
    have hfo : (Builtin.firstCells ie.size n (.slice bs n cap)).run P w.drew = .ok olds.toArray w.drew := by
      cases bs with
      | none =>
        obtain ⟨rfl, rfl⟩ := hn rfl
        obtain rfl : olds = [] := List.eq_nil_of_length_eq_zero (by simpa using hol)
        simp [Builtin.firstCells]
      | some q => exact run_firstCells_some (P := P) w.drew ie.size n q n cap olds hol (by simpa using ho q rfl)
    simp [Builtin.append_, run_underlying hu, run_underlying ht', sizeOf, typeInfo, zeroValue, hie, hzv, asInt, asIntOf, hw, hneg, hbig, hn', h63', h48', hp1, hp2, hz, Question.forced, hfo, newRow, grownCap]
    rw [if_neg hpos]
    congr 2
    refine congrArg (fun a => Obj.cells a e (0, 0)) ?_
    apply Array.ext'
    simp [List.append_assoc]
theorem sound_append {t ty : TypeId} {sv x : V} {u y : Value} {d : Nat} {K : V → St → Prop} (hs : Sim E g s a w) (hsv : RelV g sv u) (hx : RelV g x y) (h : aAppend P t sv x d s K) :
    ∃ r s' g' w' z, K r s' ∧ RelV g' r z ∧ Sim E g' s' a w' ∧ (Builtin.append_ #[t, t] ty #[u, y]).run P w = .ok z w' := by
  unfold aAppend at h
  split at h
  · rename_i o nl sz' xs
    obtain ⟨e, sz, z, b, ht, h0, hz, hzl, hby, hb0, hsz', ho, h⟩ := h
    obtain ⟨hu, hsz⟩ := idxT_slc ht
    obtain ⟨ie, zv, hie, hzv, rfl⟩ := zeroC_spec hz
    obtain ⟨ie', hie', hbs⟩ := bytesT_spec hby
    rw [hie] at hie'
    cases hie'
    have hies : ie.size = sz := by simpa [sizeT, hie] using hsz
    have hzs : zv.cells.size = sz := by simpa using hzl
    obtain ⟨ds, ⟨hbytes, hK⟩, A, m, c, us, hsrc⟩ := src_at h0 hs hx h
    exact sound_appendG hs hsv hu h0 hie hies hzs hbs hb0 hsz' ho hsrc.len hsrc.rel (SrcRun.ofAt hsrc h0 hu hie hzv hies) hbytes (by simp [rootT]) (.inl rfl) (fun _ h => by cases h) hK
  · exact h.elim
theorem sound_appendS {t ty : TypeId} {sv x : V} {u y : Value} {d : Nat} {K : V → St → Prop} (hs : Sim E g s a w) (hsv : RelV g sv u) (hx : RelV g x y) (h : aAppendS P t sv x d s K) :
    ∃ r s' g' w' z, K r s' ∧ RelV g' r z ∧ Sim E g' s' a w' ∧ (Builtin.append_ #[t, t] ty #[u, y]).run P w = .ok z w' := by
  unfold aAppendS at h
  split at h
  · rename_i o nl sz' xs
    obtain ⟨e, sz, z, b, ht, h0, hz, hzl, hby, hb0, hsz', h⟩ := h
    obtain ⟨hu, hsz⟩ := idxT_slc ht
    obtain ⟨ie, zv, hie, hzv, rfl⟩ := zeroC_spec hz
    obtain ⟨ie', hie', hbs⟩ := bytesT_spec hby
    rw [hie] at hie'
    cases hie'
    have hies : ie.size = sz := by simpa [sizeT, hie] using hsz
    have hzs : zv.cells.size = sz := by simpa using hzl
    obtain ⟨ds, ⟨hst, hbytes, hK⟩, A, m, c, us, hsrc⟩ := src_at h0 hs hx h
    have ho : o ≠ .no := by
      rcases hst with ⟨rfl, _⟩ | ⟨τ, rfl, _⟩ <;> simp
    refine sound_appendG hs hsv hu h0 hie hies hzs hbs hb0 hsz' ho hsrc.len hsrc.rel (SrcRun.ofAt hsrc h0 hu hie hzv hies) hbytes (by simp [rootT]) (.inr ?_) (fun q hq => ⟨by cases hq; rfl, fun τ0 h0 => by
      rcases hst with ⟨h1, _⟩ | ⟨τ, h1, h2⟩
      · rw [h1] at h0; cases h0
      · rw [h1] at h0; cases h0; exact h2⟩) hK
    rcases hst with ⟨_, hq⟩ | ⟨τ, rfl, hq⟩
    · exact .inl hq
    · exact .inr ⟨τ, rfl, strong_lax hq⟩
  · exact h.elim

theorem ofCell_one {v : Value} (h : ofCell v ≠ .undef) : v.oneCell' = true := by
  unfold ofCell at h
  split at h
  · rename_i hs; exact scalar_one hs
  · split at h
    · rfl
    · rfl
    · exact absurd rfl h
theorem allD_known : ∀ {l : List Value} {ds : List D}, allD (l.map ofCell) = some ds → ∀ q ∈ l, ofCell q ≠ .undef
  | [], _, _, q, hq => by cases hq
  | v :: l, ds, h, q, hq => by
    simp only [List.map_cons] at h
    unfold allD at h
    split at h
    · rename_i d ds' hd hds
      rcases List.mem_cons.1 hq with rfl | hq
      · intro e; rw [e] at hd; cases hd
      · exact allD_known hds q hq
    · cases h
theorem SrcRun.ofStr {t t' ty e : TypeId} {ie : TypeInfo} {zv : Value} {b : ByteArray} (hu : P.underlying t = some (.slice e)) (ht' : P.underlying t' = some .string) (hie : P.info? e = some ie) (hzv : ie.zero = some zv) (h1 : ie.size = 1) :
    SrcRun P w t t' ty (.string b) e ie zv b.size (Lib.strCells b) := by
  refine ⟨fun hm bs n cap hn => ?_, fun hm k n cap cur t0 hk hroom hfit => ?_, fun hm bs n cap olds hol hn ho hg h63 hfits => ?_⟩
  · have hf := Lib.run_firstCells_string (P := P) w 1 b
    have hb : (Lib.strCells b) = [] := List.eq_nil_of_length_eq_zero (by rw [Lib.strCells_length]; exact hm)
    rw [hb, hm] at hf
    cases bs <;> simp [Builtin.append_, run_underlying hu, run_underlying ht', sizeOf, typeInfo, hie, h1, Builtin.lenOf, hm, hn, hf, storeCells]
  · rw [h1, Nat.mul_one, Lib.strCells_length] at hfit
    have hf := Lib.run_firstCells_string (P := P) w 1 b
    have hst := run_storeCells_at P k n t0 (Lib.strCells b) 0 cur w hk (by simpa [Lib.strCells_length] using hfit) (Lib.strCells_oneCell b)
    simp only [Nat.add_zero, Lib.strCells_length] at hst
    simp [Builtin.append_, run_underlying hu, run_underlying ht', sizeOf, typeInfo, hie, h1, Builtin.lenOf, hroom, hf, Addr.add_lit, hst, Lib.strCells_length]
  · have hn' : ¬ (n + b.size ≤ cap) := by omega
    have h63' : ¬ (9223372036854775807 < ((n : Int) + (b.size : Int))) := by omega
    have h48' : ¬ (281474976710656 < Builtin.nextslicecap (n + b.size) cap * ie.bytes) := by omega
    have hf := Lib.run_firstCells_string (P := P) w.drew ie.size b
    have hfo : (Builtin.firstCells ie.size n (.slice bs n cap)).run P w.drew = .ok olds.toArray w.drew := by
      cases bs with
      | none =>
        obtain ⟨rfl, rfl⟩ := hn rfl
        obtain rfl : olds = [] := List.eq_nil_of_length_eq_zero (by simpa using hol)
        simp [Builtin.firstCells]
      | some q => exact run_firstCells_some (P := P) w.drew ie.size n q n cap olds hol (by simpa using ho q rfl)
    simp [Builtin.append_, run_underlying hu, run_underlying ht', sizeOf, typeInfo, zeroValue, hie, hzv, Builtin.lenOf, hn', h63', h48', Question.forced, hf, hfo, newRow, grownCap]
    congr 2
    apply Array.ext'
    simp [List.append_assoc]
theorem sound_appZ {t t' ty : TypeId} {o : Own} {nl : Option Bool} {sz' : Nat} {xs : List D} {b : ByteArray} {u : Value} {d : Nat} {K : V → St → Prop} (hs : Sim E g s a w) (hsv : RelV g (.cell (.lst o nl sz' xs)) u) (h : aAppZ P t t' o nl sz' xs b d s K) :
    ∃ r s' g' w' z, K r s' ∧ RelV g' r z ∧ Sim E g' s' a w' ∧ (Builtin.append_ #[t, t'] ty #[u, .string b]).run P w = .ok z w' := by
  obtain ⟨hst, e, z, q, ht, hz, hzl, hby, hb0, hsz', hbytes, h⟩ := h
  obtain ⟨hu, hsz⟩ := idxT_slc ht
  obtain ⟨ie, zv, hie, hzv, rfl⟩ := zeroC_spec hz
  obtain ⟨ie', hie', hbs⟩ := bytesT_spec hby
  rw [hie] at hie'
  cases hie'
  have hies : ie.size = 1 := by simpa [sizeT, hie] using hsz
  have hzs : zv.cells.size = 1 := by simpa using hzl
  have hrel : All2 (RelD g.M) (b.data.toList.map fun c => D.val (.int .u8 c.toNat)) (Lib.strCells b) := by
    unfold Lib.strCells
    generalize b.data.toList = l
    induction l with
    | nil => exact .nil
    | cons c l ih => exact .cons (.val rfl) ih
  have hl : (b.data.toList.map fun c => D.val (.int .u8 c.toNat)).length = b.size := by rw [hrel.length, Lib.strCells_length]
  have R := SrcRun.ofStr (P := P) (w := w) (ty := ty) (b := b) hu (strT_spec hst) hie hzv hies
  rcases h with ⟨ho, hK⟩ | ⟨ho, hK⟩
  · exact sound_appendG hs hsv hu (by omega) hie hies hzs hbs hb0 hsz' ho (by rw [Lib.strCells_length, Nat.mul_one]) hrel R (by rw [hl, Nat.div_one]; exact hbytes) (by simp [rootT]) (.inl rfl) (fun _ h => by cases h) hK
  · have ho' : o ≠ .no := by
      rcases ho with ⟨rfl, _⟩ | ⟨τ, rfl, _⟩ <;> simp
    refine sound_appendG hs hsv hu (by omega) hie hies hzs hbs hb0 hsz' ho' (by rw [Lib.strCells_length, Nat.mul_one]) hrel R (by rw [hl, Nat.div_one]; exact hbytes) (by simp [rootT]) (.inr ?_) (fun q hq => ⟨by cases hq; rfl, fun τ0 h0 => by
      rcases ho with ⟨h1, _⟩ | ⟨τ, h1, h2⟩
      · rw [h1] at h0; cases h0
      · rw [h1] at h0; cases h0; exact h2⟩) hK
    rcases ho with ⟨_, hq⟩ | ⟨τ, rfl, hq⟩
    · exact .inl (by rw [hl]; exact hq)
    · exact .inr ⟨τ, rfl, strong_lax hq⟩
theorem sound_appN {t t' ty : TypeId} {sv x : V} {u y : Value} {d : Nat} {K : V → St → Prop} (hs : Sim E g s a w) (hsv : RelV g sv u) (hx : RelV g x y) (h : aAppN P t t' sv x d s K) :
    ∃ r s' g' w' z, K r s' ∧ RelV g' r z ∧ Sim E g' s' a w' ∧ (Builtin.append_ #[t, t'] ty #[u, y]).run P w = .ok z w' := by
  unfold aAppN at h
  split at h
  · obtain ⟨_, rfl⟩ := hx
    exact sound_appZ hs hsv h
  · rename_i o nl sz' xs k n
    obtain ⟨_, rfl⟩ := hx
    obtain ⟨hint, e, sz, z, b, ds, ht, h0, hz, hzl, hds, hby, hb0, hsz', ho, hn0, hnb, hbytes, hK⟩ := h
    obtain ⟨hu, hsz⟩ := idxT_slc ht
    obtain ⟨ie, zv, hie, hzv, rfl⟩ := zeroC_spec hz
    obtain ⟨ie', hie', hbs⟩ := bytesT_spec hby
    rw [hie] at hie'
    cases hie'
    have hies : ie.size = sz := by simpa [sizeT, hie] using hsz
    have hzs : zv.cells.size = sz := by simpa using hzl
    obtain ⟨m, rfl⟩ := Int.eq_ofNat_of_zero_le hn0
    simp only [Int.toNat_natCast] at hbytes hK
    obtain ⟨k', hk'⟩ : ∃ k', P.underlying t' = some (.int k') := by
      unfold isIntT at hint
      split at hint
      · exact ⟨_, by assumption⟩
      · cases hint
    have hm2 : m ≤ 140737488355328 := by
      have : m * b ≤ 140737488355328 := by rw [← Int.natCast_mul] at hnb; omega
      exact Nat.le_trans (Nat.le_mul_of_pos_right _ hb0) this
    have hrel : All2 (RelD g.M) (List.replicate m ds).flatten (List.replicate m zv.cells.toList).flatten := flat_rel (allD_rel hds (ofCells_rel g zv.cells.toList)) m
    have hlen : ((List.replicate m zv.cells.toList).flatten).length = m * sz := by simp [hzs]
    refine sound_appendG hs hsv hu h0 hie hies hzs hbs hb0 hsz' ho hlen hrel (SrcRun.ofNum (by omega) hu hk' hie hzv (by omega) (fun q hq => ofCell_one (allD_known hds q hq)) (by rw [hbs]; exact hnb) hm2) ?_ (by simp [rootT]) (.inl rfl) (fun _ h => by cases h) hK
    rw [hrel.length, hlen]
    exact hbytes
  · exact h.elim
theorem sound_makeSlice {t : TypeId} {l c : V} {u y : Value} {d : Nat} {K : V → St → Prop} (hs : Sim E g s a w) (hl : RelV g l u) (hc : RelV g c y) (h : aMakeSlice P t l c d s K) :
    ∃ r s' g' w' z, K r s' ∧ RelV g' r z ∧ Sim E g' s' a w' ∧ (Instr.makeSlice t u y).run P w = .ok z w' := by
  unfold aMakeSlice at h
  split at h
  · obtain ⟨_, rfl⟩ := hl
    obtain ⟨_, rfl⟩ := hc
    rename_i kl l kc c _ _
    obtain ⟨e, sz, zc, ds, b, ht, h0, hz, hzl, hd, hby, hb0, hl0, hlc, hbytes, h⟩ := h
    obtain ⟨hu, hsz⟩ := idxT_slc ht
    obtain ⟨ie, zv, hie, hzv, rfl⟩ := zeroC_spec hz
    obtain ⟨ie', hie', hbs⟩ := bytesT_spec hby
    rw [hie] at hie'
    cases hie'
    have hies : ie.size = sz := by simpa [sizeT, hie] using hsz
    have hzs : zv.cells.size = sz := by simpa using hzl
    obtain ⟨l, rfl⟩ := Int.eq_ofNat_of_zero_le hl0
    obtain ⟨c, rfl⟩ := Int.eq_ofNat_of_zero_le (Int.le_trans hl0 hlc)
    have hlc' : l ≤ c := by omega
    have hcb : c ≤ 140737488355328 := by
      have h1 : b * c ≤ 140737488355328 := by rw [← Int.natCast_mul] at hbytes; omega
      exact Nat.le_trans (Nat.le_mul_of_pos_left _ hb0) h1
    have hrun := run_make (P := P) w t e ie zv hu hie hzv kl kc (l : Int) (c : Int) (by omega) (by omega) (by rw [hbs]; omega) (by omega)
    simp only [Int.toNat_natCast] at hrun h
    let ys := madeCells zv.cells (c * ie.size)
    have hys : ys.toList = (List.replicate c zv.cells.toList).flatten := by
      have := zeros_eq zv.cells c (by omega)
      rw [hzs] at this
      simp only [ys, madeCells, hies, hzs]
      rw [this]
    have hysz : ys.size = c * sz := by simp only [ys, size_madeCells, hies]
    have hzr := ofCells_rel g zv.cells.toList
    rcases h with h | h
    · let g1 : Gh := ⟨g.M, g.B, fun t => if rootT d t then none else g.O t⟩
      have hs1 : Sim E g1 (s.clean (fun _ => false) (rootT d)) a w := hs.clean rfl (fun _ _ => rfl) (fun _ => rfl) (fun _ => rfl)
      let g2 : Gh := ⟨addM g.M w.heap.size (ys.toList.take (l * sz)), g.B, fun u => if u = Tag.slot [d] then some ⟨w.heap.size, l, c, sz, e⟩ else g1.O u⟩
      have hs2 : Sim E g2 (s.clean (fun _ => false) (rootT d)) a (w.alloc (.cells ys e)) :=
        hs1.addRow (Grow1.alloc w ys e) (τ := .slot [d]) (n := l) (c := c) (sz := sz) (by simp [g1, rootT]) hysz hlc' (by simp only [maxLen]; omega) rfl rfl (fun _ => rfl)
      have htk : ys.toList.take (l * sz) = (List.replicate l zv.cells.toList).flatten := by
        rw [hys, show c = l + (c - l) by omega, ← List.replicate_append_replicate, List.flatten_append]
        have : (List.replicate l zv.cells.toList).flatten.length = l * sz := by simp [hzs]
        rw [← this]
        exact List.take_left
      have hrel : All2 (RelD g.M) (List.replicate l ds).flatten (List.replicate l zv.cells.toList).flatten := flat_rel (allD_rel hd hzr) l
      refine ⟨_, _, g2, _, _, h, ⟨RelD.mk (by simp) h0 ?_ hlc' (by simp only [maxLen]; omega) ?_, .inr ⟨_, by simp [g2]; rfl, ⟨rfl, fun _ h => by cases h⟩, rfl⟩⟩, hs2, hrun⟩
      · rw [hrel.length]; simp [hzs]
      · show RelM (addM _ _ _) _ _
        rw [htk]
        refine relM_new (hrel.mono fun _ _ h => RelD.mono (fun a v ha => ?_) h)
        refine addM_old (fun a v ha e => ?_) ha
        have := hs.wi.mem_lt ha
        omega
    · have hn : aNew d (List.replicate c (zv.cells.toList.map ofCell)).flatten s fun _ s' => K (.cell (.row (.loc [d]) 0 l c)) s' := by
        have e : ((List.replicate c (zv.cells.toList.map ofCell)).flatten).map (C.clean (rootI d) fun _ => true) = (List.replicate c (zv.cells.toList.map ofCell)).flatten := by
          have hone : ∀ v : Value, (ofCell v).clean (rootI d) (fun _ => true) = ofCell v := by
            intro v
            unfold ofCell
            split
            · rfl
            · split
              · split <;> rfl
              · split
                · simp [C.clean]
                · rfl
              · rfl
          conv => rhs; rw [← List.map_id (List.replicate c (zv.cells.toList.map ofCell)).flatten]
          refine List.map_congr_left fun q hq => ?_
          simp only [List.mem_flatten, List.mem_replicate] at hq
          obtain ⟨l', ⟨_, rfl⟩, hq⟩ := hq
          obtain ⟨v, _, rfl⟩ := List.mem_map.1 hq
          exact hone v
        unfold aNew
        rw [e]
        exact h
      obtain ⟨r, s', g', hK, hr, hs', hBd⟩ := sound_new (t := e) hs (ys := ys) (by rw [hys]; exact flat_rel hzr c) (Grow1.alloc w ys e) hn
      refine ⟨_, s', g', _, _, hK, ?_, hs', hrun⟩
      show _ = Value.slice (some ⟨g'.B (.loc [d]), 0, none⟩) l c
      rw [hBd]
  · exact h.elim
theorem sound_copy {t t' ty : TypeId} {dv x : V} {u y : Value} {K : V → St → Prop} (hs : Sim E g s a w) (hd : RelV g dv u) (hx : RelV g x y) (h : aCopy P t dv x s K) :
    ∃ r s' g' w' z, K r s' ∧ RelV g' r z ∧ Sim E g' s' a w' ∧ (Builtin.copy_ #[t, t'] ty #[u, y]).run P w = .ok z w' := by
  unfold aCopy at h
  split at h
  · obtain rfl := hd
    rename_i i off n cp
    obtain ⟨e, cs, ht, hi, h⟩ := h
    obtain ⟨hu, hsz⟩ := idxT_slc ht
    obtain ⟨ie, hie, hies⟩ := sizeT_info hsz
    obtain ⟨ds, ⟨hfit, hK⟩, A, m, c, us, hsrc⟩ := src_at (by omega) hs hx h
    obtain rfl := hsrc.form
    obtain ⟨ys, tb, hb, hr, _⟩ := hs.wi.box i cs hi
    have hlen := hr.length
    simp only [Array.length_toList] at hlen
    have hul : us.length = m := by rw [hsrc.len, Nat.mul_one]
    have hdl : ds.length = m := by rw [hsrc.rel.length, hul]
    have htl : (us.take n).length = Nat.min m n := by rw [List.length_take, hul]; exact Nat.min_comm _ _
    have h1 : ∀ v ∈ us.take n, v.oneCell' = true := by
      intro q hq
      have hq := List.mem_of_mem_take hq
      obtain ⟨j, hj⟩ := List.mem_iff_getElem?.1 hq
      have hlt := (List.getElem?_eq_some_iff.1 hj).1
      rw [← hsrc.rel.length] at hlt
      obtain ⟨b, hb1, hb2⟩ := hsrc.rel.get (List.getElem?_eq_getElem hlt)
      rw [hj] at hb1
      cases hb1
      exact hb2.one
    have hfit' : off + (us.take n).length ≤ ys.size := by rw [htl, ← hlen, ← hdl]; exact hfit
    have hrun : (Builtin.copy_ #[t, t'] ty #[.slice (some ⟨g.B i, off, none⟩) n cp, .slice A m c]).run P w = .ok (goInt (us.take n).length) (w.setRow (g.B i) (spl ys.toList off (us.take n)).toArray) := by
      rw [spl_eq (by simpa using hfit')]
      by_cases hz : 0 < us.length
      · obtain ⟨ad, rfl, hcell⟩ := hsrc.cells hz
        exact run_copy_row (P := P) w t t' ty e (g.B i) off n cp ad m c ys tb (us.take n) hu hsz hb htl (fun j v hj => hcell j v (by
          rw [List.getElem?_take] at hj
          split at hj
          · exact hj
          · cases hj)) hfit' h1
      · have hu0 : us = [] := List.eq_nil_of_length_eq_zero (by omega)
        subst hu0
        have hm0 : m = 0 := by simpa using hul.symm
        subst hm0
        simp only [List.take_nil, List.append_nil, List.length_nil, Nat.add_zero, List.take_append_drop, Array.toArray_toList]
        rw [setRow_self w (g.B i) ys tb (0, 0) hb]
        cases A <;> simp [Builtin.copy_, run_underlying hu, sizeOf, typeInfo, hie, hies, Builtin.lenOf, Builtin.firstCells, loadCells, loadCellsFrom, storeCells, goInt]
    refine ⟨_, _, g, _, _, hK, ?_, hs.setBox (w' := w.setRow (g.B i) (spl ys.toList off (us.take n)).toArray) (ys' := (spl ys.toList off (us.take n)).toArray) hi ?_ (fun k hk => setRow_other w _ k _ hk) ⟨ys, tb, hb, setRow_heap w _ ys _ tb _ hb⟩ (fun t ht => ht.spl (no_typD _)) rfl rfl rfl (by simp), hrun⟩
    · refine ⟨rfl, ?_⟩
      rw [htl, hdl]
      rfl
    · refine spl_rel hr (((hsrc.rel.take n).map fun d y hd => ?_))
      exact D.toC_rel hd
  · exact h.elim
end
end Go.Proofs.Ytamcjecgkfmjkaa
