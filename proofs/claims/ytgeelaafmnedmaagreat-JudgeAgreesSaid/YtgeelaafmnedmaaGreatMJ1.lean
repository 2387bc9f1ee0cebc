/- Parts of a proof: The logic: rows that are made, grow, are copied, The logic: rows that are one's own alone: they grow, shrink, are read, The logic: 'append' whose row is a box of its own, The logic: conversions of rows of bytes, The logic: calls, The logic: a call does what the logic says, The logic: operations, regions, code, functions, The logic: functions. -/
import Derived.Test.YtgeelaafmnedmaaGreatMJ0
import Derived.Lib.AppendStr
import Derived.Laws.BytesString
import Derived.Laws.IdiomStrings
import Derived.OrdersHeld
import Derived.Scope
import Derived.Deep.LoopGhost
set_option linter.unusedSimpArgs false
set_option linter.unusedVariables false
open Go Go.RowKit
namespace Go.Proofs.YtgeelaafmnedmaaGreat
section
section
variable {P : Program} {E : Entry} {g : Gh} {w : World} {s : St} {a : Act}

/-- where what is appended lies -/
structure SrcAt (g : Gh) (w : World) (sz : Nat) (ds : List D) (y : Value) (A : Option Addr) (m c : Nat) (us : List Value) : Prop where
  form : y = .slice A m c
  len : us.length = m * sz
  rel : All2 (RelD g.M) ds us
  cells : 0 < us.length → ∃ ad, A = some ad ∧ ∀ j u, us[j]? = some u → w.cell? (ad.add j) = some u
theorem relM_list {M : Addr → Option Value} {ad : Addr} {ds : List D} (h : RelM M ad ds) : ∃ us, All2 (RelD M) ds us ∧ ∀ j u, us[j]? = some u → M (ad.add j) = some u := by
  refine ⟨(List.range ds.length).map fun i => (M (ad.add i)).getD undef, All2.of_get (by simp) fun i d u hd hu => ?_, fun j u hu => ?_⟩
  · obtain ⟨v, hv, hr⟩ := h i d hd
    have hi := (List.getElem?_eq_some_iff.1 hd).1
    simp [hi, hv] at hu
    subst hu
    exact hr
  by_cases hj : j < ds.length
  · obtain ⟨v, hv, _⟩ := h j _ (List.getElem?_eq_getElem hj)
    simp [hj, hv] at hu
    rw [hv, hu]
  simp [hj] at hu
theorem src_at {sz : Nat} {x : V} {y : Value} {K : List D → Prop} (h0 : 0 < sz) (hs : Sim E g s a w) (hx : RelV g x y) (h : aSrc sz x s K) : ∃ ds, K ds ∧ ∃ A m c us, SrcAt g w sz ds y A m c us := by
  unfold aSrc at h
  split at h
  · rename_i o nl sz' ys
    obtain ⟨hz, h⟩ := h
    refine ⟨ys, h, ?_⟩
    obtain ⟨hsz, h2⟩ := RelD.lst_inv hx.1
    rcases h2 with ⟨rfl, rfl, _⟩ | ⟨ad, n, c, rfl, _, hl, hc, _, hm⟩
    · exact ⟨none, 0, 0, [], rfl, by simp, .nil, fun h => by simp at h⟩
    obtain ⟨us, h3, h4⟩ := relM_list hm
    refine ⟨some ad, n, c, us, rfl, ?_, h3, fun _ => ⟨ad, rfl, fun j u hu => hs.wi.mem _ _ (h4 j u hu)⟩⟩
    rw [← h3.length, ← hl]
    rcases hz with rfl | rfl
    · rfl
    simp only [List.length_nil] at hl
    have : n = 0 := by
      rcases Nat.eq_zero_or_pos n with h | h
      · exact h
      have := Nat.mul_pos h hsz; omega
    subst this
    simp
  · rename_i i off n cp
    obtain ⟨cs, ds, hi, hfit, hd, h⟩ := h
    obtain rfl := hx
    refine ⟨ds, h, ?_⟩
    obtain ⟨ys, t, hb, hr, _⟩ := hs.wi.box i cs hi
    have hlen := hr.length
    simp only [Array.length_toList] at hlen
    refine ⟨some ⟨g.B i, off, none⟩, n, cp, (ys.toList.drop off).take (n * sz), rfl, by simp; omega, allD_rel hd ((hr.drop off).take _), fun _ => ⟨_, rfl, fun j u hu => ?_⟩⟩
    rw [add_mk, cell_row hb, ← Array.getElem?_toList]
    rw [List.getElem?_take] at hu
    split at hu
    · rw [List.getElem?_drop] at hu; exact hu
    cases hu
  exact h.elim

theorem bytesT_spec {t : TypeId} {b : Nat} (h : bytesT P t = some b) : ∃ i, P.info? t = some i ∧ i.bytes = b := by
  unfold bytesT at h
  cases hq : P.info? t with
  | none => rw [hq] at h; cases h
  | some i => rw [hq] at h; simp at h; exact ⟨i, rfl, h⟩
theorem mul_le_pos {n b K : Nat} (hb : 0 < b) (h : n * b ≤ K) : n ≤ K := Nat.le_trans (Nat.le_mul_of_pos_right _ hb) h

/-- a row onto which is laid, in its own block -/
theorem Sim.growRow (hs : Sim E g s a w) {τ0 τ : Tag} {r : Rec} {cur : Array Value} {us : List Value} {m : Nat} (hr : g.O τ0 = some r) (hτ : τ = τ0 ∨ g.O τ = none) (hb : w.heap[r.blk]? = some (.cells cur r.e (0, 0))) (hl : us.length = m * r.sz) (hroom : r.n + m ≤ r.c) {g' : Gh}
    (hM : g'.M = addM g.M r.blk (cur.toList.take (r.n * r.sz) ++ us)) (hB : g'.B = g.B) (hO : ∀ u, g'.O u = if u = τ then some ⟨r.blk, r.n + m, r.c, r.sz, r.e, none⟩ else if u = τ0 then none else g.O u)
    (hslots : All2 (RelV g') s.slots a.tmps.toList) (hheap : ∀ j cs ys, hget s.heap j = some cs → All2 (RelC g) cs ys → All2 (RelC g') cs ys) :
    Sim E g' s a (w.setRow r.blk (cur.toList.take (r.n * r.sz) ++ us ++ cur.toList.drop (r.n * r.sz + us.length)).toArray) := by
  obtain ⟨cur', hb', hcs, hnc, hcm, hMo⟩ := hs.wi.own τ0 r hr
  rw [hb] at hb'
  cases hb'
  have hfit : r.n * r.sz + us.length ≤ cur.size := by rw [hl, hcs, ← Nat.add_mul]; exact Nat.mul_le_mul_right _ hroom
  have htl : (cur.toList.take (r.n * r.sz)).length = r.n * r.sz := by simp; omega
  have hold : ∀ a v, g.M a = some v → a.block = r.blk → a.off < (cur.toList.take (r.n * r.sz) ++ us).length → (cur.toList.take (r.n * r.sz) ++ us)[a.off]? = some v := by
    intro ad v ha e _
    have h1 := hMo ad v ha e
    rw [List.getElem?_append_left (by omega), List.getElem?_take, if_pos h1]
    have h2 := hs.wi.mem ad v ha
    obtain ⟨b, o, sp⟩ := ad
    obtain rfl : sp = none := spot_none h2
    simp only at e
    subst e
    rw [cell_row hb] at h2
    rw [Array.getElem?_toList]; exact h2
  have hMm : ∀ a v, g.M a = some v → g'.M a = some v := fun a v ha => by rw [hM]; exact addM_old hold ha
  have hnew : (w.setRow r.blk (cur.toList.take (r.n * r.sz) ++ us ++ cur.toList.drop (r.n * r.sz + us.length)).toArray).heap[r.blk]? = some (.cells (cur.toList.take (r.n * r.sz) ++ us ++ cur.toList.drop (r.n * r.sz + us.length)).toArray r.e (0, 0)) := setRow_heap w _ cur _ _ _ hb
  have hoth : ∀ k, k ≠ r.blk → (w.setRow r.blk (cur.toList.take (r.n * r.sz) ++ us ++ cur.toList.drop (r.n * r.sz + us.length)).toArray).heap[k]? = w.heap[k]? := fun k hk => setRow_other w _ k _ hk
  have inv : ∀ u q, g'.O u = some q → (u = τ ∧ q = ⟨r.blk, r.n + m, r.c, r.sz, r.e, none⟩) ∨ (u ≠ τ ∧ u ≠ τ0 ∧ g.O u = some q) := by
    intro u q hu
    rw [hO] at hu
    split at hu
    · rename_i e; cases hu; exact .inl ⟨e, rfl⟩
    split at hu
    · cases hu
    rename_i e1 e2; exact .inr ⟨e1, e2, hu⟩
  refine ⟨hslots, hs.defers, ⟨?_, ?_, ?_, ?_, ?_, ?_, ?_, ?_⟩, hs.cum.trans ⟨rfl, rfl, rfl, by show w.heap.size ≤ _; simp, ?_, ?_, hMm, ?_, fun k => by rw [hB]; rfl⟩⟩
  · intro ad v ha
    rw [hM] at ha
    rcases addM_inv ha with ha | ⟨h1, h2, h3, h4⟩
    · by_cases e : ad.block = r.blk
      · have h5 := hold ad v ha e (by have := hMo ad v ha e; simp; omega)
        obtain ⟨b, o, sp⟩ := ad
        obtain rfl : sp = none := spot_none (hs.wi.mem _ v ha)
        simp only at e
        subst e
        rw [cell_row hnew, ← Array.getElem?_toList]
        rw [List.getElem?_append_left (List.getElem?_eq_some_iff.1 h5).1]
        exact h5
      rw [cell_eq (hoth _ e)]; exact hs.wi.mem ad v ha
    obtain ⟨b, o, sp⟩ := ad
    simp only at h1 h2 h3 h4
    subst h1; subst h2
    rw [cell_row hnew, ← Array.getElem?_toList]
    rw [List.getElem?_append_left h3]
    exact h4
  · intro j ds hj
    obtain ⟨zs, u, h1, h2, hT⟩ := hs.wi.box j ds hj
    refine ⟨zs, u, by rw [hB, hoth _ (fun e => hs.wi.ownB τ0 r j ds hr hj e.symm)]; exact h1, hheap j ds _ hj h2, hT⟩
  · intro i j cs ds hi hj e; rw [hB] at e; exact hs.wi.inj i j _ _ hi hj e
  · intro j ds ad v hj ha
    rw [hB]
    rw [hM] at ha
    rcases addM_inv ha with ha | ⟨h1, _⟩
    · exact hs.wi.boxM j ds ad v hj ha
    rw [h1]; exact hs.wi.ownB τ0 r j ds hr hj
  · intro u q hu
    rcases inv u q hu with ⟨rfl, rfl⟩ | ⟨_, hne, hu⟩
    · refine ⟨_, hnew, ?_, hroom, hcm, fun ad v ha hb => ?_⟩
      · simp only [List.size_toArray, List.length_append, List.length_drop, Array.length_toList]; omega
      rw [hM] at ha
      simp only at hb ⊢
      rw [Nat.add_mul]
      rcases addM_inv ha with ha | ⟨_, _, h3, _⟩
      · have := hMo ad v ha hb; omega
      rw [List.length_append] at h3; omega
    obtain ⟨cur2, h1, h2, h3, h4, h5⟩ := hs.wi.own u q hu
    have hneb : q.blk ≠ r.blk := fun e => hne (hs.wi.ownI u τ0 q r hu hr e)
    refine ⟨cur2, by rw [hoth _ hneb]; exact h1, h2, h3, h4, fun ad v ha hb => ?_⟩
    rw [hM] at ha
    rcases addM_inv ha with ha | ⟨h6, _⟩
    · exact h5 ad v ha hb
    exact absurd (hb.symm.trans h6) hneb
  · intro u q j ds hu hj
    rw [hB]
    rcases inv u q hu with ⟨_, rfl⟩ | ⟨_, _, hu⟩
    · exact hs.wi.ownB τ0 r j ds hr hj
    exact hs.wi.ownB u q j ds hu hj
  · intro u u' q q' h1 h2 e
    rcases inv u q h1 with ⟨e1, rfl⟩ | ⟨n1, m1, h1⟩ <;> rcases inv u' q' h2 with ⟨e2, rfl⟩ | ⟨n2, m2, h2⟩
    · rw [e1, e2]
    · exact absurd (hs.wi.ownI u' τ0 q' r h2 hr e.symm) m2
    · exact absurd (hs.wi.ownI u τ0 q r h1 hr e) m1
    exact hs.wi.ownI u u' q q' h1 h2 e
  · intro u q hu
    rcases inv u q hu with ⟨_, rfl⟩ | ⟨_, hne, hu⟩
    · exact .none rfl
    have hneb : q.blk ≠ r.blk := fun e => hne (hs.wi.ownI u τ0 q r hu hr e)
    refine (hs.wi.muta u q hu).mono hMm (fun ad v ha e => ?_) (hoth _ hneb)
    rw [hM] at ha
    rcases addM_inv ha with ha | ⟨h6, _⟩
    · exact ha
    exact absurd (e.symm.trans h6) hneb
  · intro k hk hF
    exact hoth k (fun e => hF (.inr ⟨τ0, r, hr, e.symm⟩))
  · rintro k (⟨j, ds, hj, rfl⟩ | ⟨u, q, hu, rfl⟩)
    · rw [hB]; exact .inl (.inl ⟨j, ds, hj, rfl⟩)
    rcases inv u q hu with ⟨_, rfl⟩ | ⟨_, _, hu⟩
    · exact .inl (.inr ⟨τ0, r, hr, rfl⟩)
    exact .inl (.inr ⟨u, q, hu, rfl⟩)
  intro ad v ha
  rw [hM] at ha
  rcases addM_inv ha with ha | ⟨h1, _⟩
  · exact .inl ha
  exact .inr (.inl (.inr ⟨τ0, r, hr, h1.symm⟩))

theorem C.clean_idem {bi : Id → Bool} {bt : Tag → Bool} (c : C) : (c.clean bi bt).clean bi bt = c.clean bi bt := by
  cases c with
  | lst o nl sz xs =>
    cases o with
    | tag t => by_cases h : bt t = true <;> simp [C.clean, h]
    | _ => rfl
  | ptr i o => by_cases h : bi i = true <;> simp [C.clean, h]
  | row i o n c => by_cases h : bi i = true <;> simp [C.clean, h]
  | typ t => by_cases h : bt (.slot []) = true <;> simp [C.clean, h]
  | stk t sz ds => by_cases h : bt t = true <;> simp [C.clean, h]
  | sptr t o sz ds => by_cases h : bt t = true <;> simp [C.clean, h]
  | fn f x y =>
    by_cases h : (x.any (fun p => bi p.1) || y.any (fun p => bi p.1)) = true
    · simp only [C.clean, h, if_true]
    simp only [C.clean, h]
    simp only [Bool.false_eq_true, if_false, C.clean, h]
  | _ => rfl
theorem run_append_room_any (t ty e t0 : TypeId) (i : TypeInfo) (ht : P.underlying t = some (.slice e)) (hi : P.info? e = some i)
    (g sLen sCap : Nat) (cur : Array Value) (hg : w.heap[g]? = some (.cells cur t0 (0, 0)))
    (a : Addr) (m c : Nat) (news : List Value) (hl : news.length = m * i.size) (hnews : ∀ j u, news[j]? = some u → w.cell? (a.add j) = some u) (h1 : ∀ u ∈ news, u.oneCell' = true)
    (hroom : sLen + m ≤ sCap) (hfit : sLen * i.size + news.length ≤ cur.size) :
    (Builtin.append_ #[t, t] ty #[.slice (some ⟨g, 0, none⟩) sLen sCap, .slice (some a) m c]).run P w =
      .ok (.slice (some ⟨g, 0, none⟩) (sLen + m) sCap) (w.setRow g (cur.toList.take (sLen * i.size) ++ news ++ cur.toList.drop (sLen * i.size + news.length)).toArray) := by
  have hf := run_firstCells_some (P := P) w i.size m a m c news hl hnews
  have hst := run_storeCells_at P g (sLen * i.size) t0 news 0 cur w hg (by simpa using hfit) h1
  simp only [Nat.add_zero] at hst
  simp [Builtin.append_, run_underlying ht, sizeOf, typeInfo, hi, Builtin.lenOf, hroom, hf, Addr.add_lit, hst]
theorem Sim.strike (hs : Sim E g s a w) (bt : Tag → Bool) : Sim E g (s.clean (fun _ => false) bt) a w := by
  refine ⟨hs.slots.map fun v x hv => RelV.clean (g := g) (g' := g) (fun _ _ h => h) (fun _ _ => rfl) (fun _ _ => rfl) hv, hs.defers, ⟨hs.wi.mem, ?_, ?_, ?_, hs.wi.own, ?_, hs.wi.ownI, hs.wi.muta⟩, hs.cum.trans ⟨rfl, rfl, rfl, Nat.le_refl _, fun _ _ _ => rfl, ?_, fun _ _ h => h, fun _ _ h => .inl h, fun _ => rfl⟩⟩
  · intro j ds hj
    simp only [St.clean] at hj
    rw [hget_hclean] at hj
    simp only [Bool.false_eq_true, if_false, Option.map_eq_some_iff] at hj
    obtain ⟨d0, hj, rfl⟩ := hj
    obtain ⟨zs, u, h1, h2, hT⟩ := hs.wi.box j d0 hj
    exact ⟨zs, u, h1, h2.map fun c y hc => RelC.clean (g := g) (g' := g) (fun _ _ h => h) (fun _ _ => rfl) (fun _ _ => rfl) hc, hT.mapf clean_typ⟩
  · intro i j cs ds hi hj e
    simp only [St.clean] at hi hj
    rw [hget_hclean] at hi hj
    simp only [Bool.false_eq_true, if_false, Option.map_eq_some_iff] at hi hj
    obtain ⟨c0, hi, rfl⟩ := hi
    obtain ⟨d0, hj, rfl⟩ := hj
    exact hs.wi.inj i j _ _ hi hj e
  · intro i cs ad v hi ha
    simp only [St.clean] at hi
    rw [hget_hclean] at hi
    simp only [Bool.false_eq_true, if_false, Option.map_eq_some_iff] at hi
    obtain ⟨c0, hi, rfl⟩ := hi
    exact hs.wi.boxM i _ ad v hi ha
  · intro t r i cs ht hi
    simp only [St.clean] at hi
    rw [hget_hclean] at hi
    simp only [Bool.false_eq_true, if_false, Option.map_eq_some_iff] at hi
    obtain ⟨c0, hi, rfl⟩ := hi
    exact hs.wi.ownB t r i _ ht hi
  rintro k (⟨j, ds, hj, rfl⟩ | ⟨u, q, hu, rfl⟩)
  · simp only [St.clean] at hj
    rw [hget_hclean] at hj
    simp only [Bool.false_eq_true, if_false, Option.map_eq_some_iff] at hj
    obtain ⟨d0, hj, rfl⟩ := hj
    exact .inl (.inl ⟨j, d0, hj, rfl⟩)
  exact .inl (.inr ⟨u, q, hu, rfl⟩)

theorem run_append_none (t ty e : TypeId) (i : TypeInfo) (ht : P.underlying t = some (.slice e)) (hi : P.info? e = some i) (b : Option Addr) (n cap : Nat) (hn : n ≤ cap) (A : Option Addr) (c : Nat) :
    (Builtin.append_ #[t, t] ty #[.slice b n cap, .slice A 0 c]).run P w = .ok (.slice b n cap) w := by
  cases A <;> cases b <;> simp [Builtin.append_, run_underlying ht, sizeOf, typeInfo, hi, Builtin.lenOf, Builtin.firstCells, loadCells, loadCellsFrom, hn, storeCells]

theorem grow_hold {τ0 : Tag} {r : Rec} {cur : Array Value} {us : List Value} (hw : WI g s.heap w) (hr : g.O τ0 = some r) (hb : w.heap[r.blk]? = some (.cells cur r.e (0, 0))) :
    ∀ a v, g.M a = some v → addM g.M r.blk (cur.toList.take (r.n * r.sz) ++ us) a = some v := by
  obtain ⟨cur', hb', hcs, hnc, hcm, hMo⟩ := hw.own τ0 r hr
  rw [hb] at hb'
  cases hb'
  have hfit : r.n * r.sz ≤ cur.size := by rw [hcs]; exact Nat.mul_le_mul_right _ hnc
  intro ad v ha
  refine addM_old (fun ad v ha e _ => ?_) ha
  have h1 := hMo ad v ha e
  rw [List.getElem?_append_left (by simp; omega), List.getElem?_take, if_pos h1]
  have h2 := hw.mem ad v ha
  obtain ⟨b, o, sp⟩ := ad
  obtain rfl : sp = none := spot_none h2
  simp only at e
  subst e
  rw [cell_row hb] at h2
  rw [Array.getElem?_toList]; exact h2

/-- what 'append' does with what is appended, wherever it comes from -/
structure SrcRun (P : Program) (w : World) (t t' ty : TypeId) (y : Value) (e : TypeId) (ie : TypeInfo) (zv : Value) (m : Nat) (us : List Value) : Prop where
  none : m = 0 → ∀ bs n cap, n ≤ cap → (Builtin.append_ #[t, t'] ty #[.slice bs n cap, y]).run P w = .ok (.slice bs n cap) w
  room : 0 < m → ∀ k n cap cur t0, w.heap[k]? = some (.cells cur t0 (0, 0)) → n + m ≤ cap → n * ie.size + us.length ≤ cur.size →
    (Builtin.append_ #[t, t'] ty #[.slice (some ⟨k, 0, .none⟩) n cap, y]).run P w = .ok (.slice (some ⟨k, 0, .none⟩) (n + m) cap) (w.setRow k (cur.toList.take (n * ie.size) ++ us ++ cur.toList.drop (n * ie.size + us.length)).toArray)
  grow : 0 < m → ∀ bs n cap (olds : List Value), olds.length = n * ie.size → (bs = .none → n = 0 ∧ cap = 0) → (∀ q, bs = some q → ∀ j v, olds[j]? = some v → w.cell? (q.add j) = some v) →
    cap < n + m → ((n + m : Nat) : Int) ≤ 9223372036854775807 → Builtin.nextslicecap (n + m) cap * ie.bytes ≤ 281474976710656 →
    (Builtin.append_ #[t, t'] ty #[.slice bs n cap, y]).run P w = .ok (.slice (some ⟨w.heap.size, 0, .none⟩) (n + m) (grownCap w (n + m) cap e)) (w.drew.alloc (.cells (olds.toArray ++ us.toArray ++ Builtin.zeroCells zv.cells (grownCap w (n + m) cap e - (n + m))) e))
theorem rel_one {g : Gh} {ds : List D} {us : List Value} (h : All2 (RelD g.M) ds us) : ∀ q ∈ us, q.oneCell' = true := by
  induction h with
  | nil => intro q hq; cases hq
  | cons h _ ih =>
    intro q hq
    rcases List.mem_cons.1 hq with rfl | hq
    · exact h.one
    exact ih q hq
theorem SrcRun.ofAt {t ty e : TypeId} {ie : TypeInfo} {zv : Value} {sz m c : Nat} {ds : List D} {y : Value} {A : Option Addr} {us : List Value} (h : SrcAt g w sz ds y A m c us) (h0 : 0 < sz) (hu : P.underlying t = some (.slice e)) (hie : P.info? e = some ie) (hzv : ie.zero = some zv) (hies : ie.size = sz) : SrcRun P w t t ty y e ie zv m us := by
  obtain rfl := h.form
  refine ⟨fun hm bs n cap hn => ?_, fun hm k n cap cur t0 hk hroom hfit => ?_, fun hm bs n cap olds hol hn ho hg h63 hfits => ?_⟩
  · subst hm; exact run_append_none t ty e ie hu hie bs n cap hn A c
  · obtain ⟨ad, rfl, hcell⟩ := h.cells (by rw [h.len]; exact Nat.mul_pos hm h0)
    exact run_append_room_any (P := P) (w := w) t ty e t0 ie hu hie k n cap cur hk ad m c us (by rw [h.len, hies]) hcell (rel_one h.rel) hroom hfit
  obtain ⟨ad, rfl, hcell⟩ := h.cells (by rw [h.len]; exact Nat.mul_pos hm h0)
  cases bs with
  | none =>
    obtain ⟨rfl, rfl⟩ := hn rfl
    obtain rfl : olds = [] := List.eq_nil_of_length_eq_zero (by simpa using hol)
    have h48 : m * ie.bytes ≤ 281474976710656 := by
      have : m ≤ Builtin.nextslicecap (0 + m) 0 := by rw [Nat.zero_add, nextslicecap_zero hm]; exact Nat.le_refl _
      exact Nat.le_trans (Nat.mul_le_mul_right _ this) hfits
    have := run_append_nil (P := P) w t ty e ie zv hu hie hzv ad m c us (by rw [h.len, hies]) hcell hm (by omega) h48
    simpa using this
  | some q => exact run_append_grow (P := P) w t ty e ie zv hu hie hzv q n cap olds hol (ho q rfl) ad m c us (by rw [h.len, hies]) hcell hg h63 hfits
theorem sound_appendG {τ : Tag} {t t' ty e : TypeId} {sz b m : Nat} {ie : TypeInfo} {zv : Value} {o : Own} {nl : Option Bool} {sz' : Nat} {xs ds : List D} {us : List Value} {u y : Value} {d : Nat} {K : V → St → Prop} (hs : Sim E g s a w) (hsv : RelV g (.cell (.lst o nl sz' xs)) u)
    (hu : P.underlying t = some (.slice e)) (h0 : 0 < sz) (hie : P.info? e = some ie) (hies : ie.size = sz) (hzs : zv.cells.size = sz) (hbs : ie.bytes = b) (hb0 : 0 < b) (hsz' : sz' = sz ∨ xs = [] ∧ ∀ τ, o ≠ .tag τ) (ho : o ≠ .no)
    (hlen : us.length = m * sz) (hrel : All2 (RelD g.M) ds us) (R : SrcRun P w t t' ty y e ie zv m us) (hbytes : (xs.length + ds.length) / sz * b ≤ 140737488355328) (hτr : rootT d τ = true) (hlx : τ.lax = true ∨ 0 < ds.length ∨ ∃ τ0, o = .tag τ0 ∧ τ0.lax = false) (hty : ∀ q, τ.ty = some q → q = e ∧ ∀ τ0, o = .tag τ0 → τ0.ty = some e)
    (hK : K (.cell (.lst (.tag τ) (if nl = some false then some false else none) sz (xs ++ ds))) (s.clean (fun _ => false) (killT o d))) :
    ∃ r s' g' w' z, K r s' ∧ RelV g' r z ∧ Sim E g' s' a w' ∧ (Builtin.append_ #[t, t'] ty #[u, y]).run P w = .ok z w' := by
  have hdl : ds.length = m * sz := by rw [hrel.length]; exact hlen
  let bt := killT o d
  have hbτ : ∀ t, rootT d t = true → bt t = true := fun t ht => by simp [bt, killT, ht]
  -- the target's form
  have hform : ∃ bs n cap, u = .slice bs n cap ∧ n * sz = xs.length ∧ n ≤ cap ∧ cap ≤ maxLen ∧ (nl = some false → ∃ q, bs = some q) ∧ (bs = none → n = 0 ∧ cap = 0 ∧ xs = []) ∧ ∃ olds, olds.length = n * sz ∧ All2 (RelD g.M) xs olds ∧ ∀ q, bs = some q → (nl ≠ some true ∧ RelM g.M q xs ∧ ∀ j v, olds[j]? = some v → g.M (q.add j) = some v) := by
    obtain ⟨hp, h2⟩ := RelD.lst_inv hsv.1
    rcases h2 with ⟨rfl, rfl, h3⟩ | ⟨q, n, cap, rfl, h3, hl, hc, hm, hM⟩
    · exact ⟨none, 0, 0, rfl, by simp, Nat.le_refl _, Nat.zero_le _, fun e => absurd e h3, fun _ => ⟨rfl, rfl, rfl⟩, [], by simp, .nil, fun q hq => by cases hq⟩
    obtain ⟨olds, h4, h5⟩ := relM_list hM
    have hn : n * sz = xs.length := by
      rcases hsz' with rfl | ⟨rfl, _⟩
      · exact hl
      have : n = 0 := by
        rcases Nat.eq_zero_or_pos n with h | h
        · exact h
        have := Nat.mul_pos h hp; simp at hl; omega
      subst this; simp
    exact ⟨some q, n, cap, rfl, hn, hc, hm, fun _ => ⟨q, rfl⟩, fun e => (by cases e), olds, by rw [hn, h4.length], h4, fun q' hq => by cases hq; exact ⟨h3, hM, h5⟩⟩
  obtain ⟨bs, n, cap, rfl, hnx, hnc, hcm, hnf, hnone, olds, hol, horel, hosome⟩ := hform
  have htot : (n + m) * b ≤ 140737488355328 := by
    have : (xs.length + ds.length) / sz = n + m := by rw [← hnx, hdl, ← Nat.add_mul]; exact Nat.mul_div_cancel _ h0
    rw [this] at hbytes; exact hbytes
  have hnm : n + m ≤ 140737488355328 := mul_le_pos hb0 htot
  have hnl' : ∀ q : Addr, (if nl = some false then some false else none : Option Bool) ≠ some true := fun _ => by split <;> simp
  -- the value that comes back
  have back : ∀ {g' : Gh} {q : Addr} {n' c' : Nat}, n' = n + m → n' ≤ c' → c' ≤ maxLen → RelM g'.M q (xs ++ ds) → RelO g'.O (.tag τ) sz (.slice (some q) n' c') → RelV g' (.cell (.lst (.tag τ) (if nl = some false then some false else none) sz (xs ++ ds))) (.slice (some q) n' c') := by
    intro g' q n' c' hn' hc' hm' hM hO
    exact ⟨RelD.mk (hnl' q) h0 (by rw [hn', Nat.add_mul, hnx, List.length_append, hdl]) hc' hm' hM, hO⟩
  have app : ∀ {g' : Gh} {q : Addr}, (∀ ad v, g.M ad = some v → g'.M ad = some v) → (∀ j v, (olds ++ us)[j]? = some v → g'.M (q.add j) = some v) → RelM g'.M q (xs ++ ds) := by
    intro g' q hmo hc j dd hj
    have hall : All2 (RelD g.M) (xs ++ ds) (olds ++ us) := horel.append hrel
    obtain ⟨v, hv, hr⟩ := hall.get hj
    exact ⟨v, hc j v hv, hr.mono hmo⟩
  -- it must be laid anew
  have anew : cap < n + m → ∃ r s' g' w' z, K r s' ∧ RelV g' r z ∧ Sim E g' s' a w' ∧ (Builtin.append_ #[t, t'] ty #[.slice bs n cap, y]).run P w = .ok z w' := by
    intro hgr
    have hm0 : 0 < m := by omega
    have hul : 0 < us.length := by rw [hlen]; exact Nat.mul_pos hm0 h0
    have hge := grownCap_ge w (n + m) cap e
    have hcm' : grownCap w (n + m) cap e ≤ maxLen := grownCap_le_maxLen w (n + m) cap e (by simp only [maxLen]; omega)
    have hrun : (Builtin.append_ #[t, t'] ty #[.slice bs n cap, y]).run P w = .ok (.slice (some ⟨w.heap.size, 0, none⟩) (n + m) (grownCap w (n + m) cap e)) (w.drew.alloc (.cells (olds.toArray ++ us.toArray ++ Builtin.zeroCells zv.cells (grownCap w (n + m) cap e - (n + m))) e)) := by
      exact R.grow hm0 bs n cap olds (by rw [hol, hies]) (fun e => ⟨(hnone e).1, (hnone e).2.1⟩) (fun q hq j v hj => hs.wi.mem _ _ ((hosome q hq).2.2 j v hj)) hgr (by omega) (growslice_fits hgr (by rw [hbs]; exact htot))
    let g1 : Gh := ⟨g.M, g.B, fun t => if bt t then none else g.O t⟩
    have hs1 : Sim E g1 (s.clean (fun _ => false) bt) a w := hs.clean rfl (fun _ _ => rfl) (fun _ => rfl) (fun _ => rfl)
    let ys : Array Value := olds.toArray ++ us.toArray ++ Builtin.zeroCells zv.cells (grownCap w (n + m) cap e - (n + m))
    have hys : ys.size = grownCap w (n + m) cap e * sz := by
      simp only [ys, Array.size_append, List.size_toArray, size_zeroCells, hzs, hol, hlen, ← Nat.add_mul]
      congr 1; omega
    have hyt : ys.toList.take ((n + m) * sz) = olds ++ us := by
      simp only [ys, Array.toList_append]
      have : (olds ++ us).length = (n + m) * sz := by rw [List.length_append, hol, hlen, Nat.add_mul]
      rw [← this]
      exact List.take_left
    let g2 : Gh := ⟨addM g.M w.heap.size (ys.toList.take ((n + m) * sz)), g.B, fun v => if v = τ then some ⟨w.heap.size, n + m, grownCap w (n + m) cap e, sz, e, none⟩ else g1.O v⟩
    have hs2 : Sim E g2 (s.clean (fun _ => false) bt) a (w.drew.alloc (.cells ys e)) :=
      hs1.addRow (Grow1.allocDrew w ys e) (τ := τ) (n := n + m) (c := grownCap w (n + m) cap e) (sz := sz) (by simp [g1, hbτ τ hτr]) hys hge hcm' rfl rfl (fun _ => rfl)
    refine ⟨_, _, g2, _, _, hK, back rfl hge hcm' (app (fun ad v ha => ?_) fun j v hj => ?_) (.inr ⟨_, by simp [g2]; rfl, ⟨rfl, fun q hq => (hty q hq).1.symm⟩, rfl⟩), hs2, hrun⟩
    · refine addM_old (fun a v ha e => ?_) ha
      have := hs.wi.mem_lt ha; omega
    exact addM_get (by rw [hyt]; exact hj)
  -- nothing is laid on
  have stay : RelF (.slice bs n cap) → τ.lax = true → m = 0 → ∃ r s' g' w' z, K r s' ∧ RelV g' r z ∧ Sim E g' s' a w' ∧ (Builtin.append_ #[t, t'] ty #[.slice bs n cap, y]).run P w = .ok z w' := by
    intro hf hlt hm0
    subst hm0
    obtain rfl : us = [] := List.eq_nil_of_length_eq_zero (by simpa using hlen)
    obtain rfl : ds = [] := List.eq_nil_of_length_eq_zero (by simpa using hdl)
    let g1 : Gh := ⟨g.M, g.B, fun t => if bt t then none else g.O t⟩
    have hs1 : Sim E g1 (s.clean (fun _ => false) bt) a w := hs.clean rfl (fun _ _ => rfl) (fun _ => rfl) (fun _ => rfl)
    refine ⟨_, _, g1, w, _, hK, ?_, hs1, R.none rfl bs n cap hnc⟩
    cases bs with
    | none =>
      obtain ⟨rfl, rfl, rfl⟩ := hnone rfl
      refine ⟨RelD.nil ?_ h0, .inl ⟨hlt, hf⟩⟩
      split
      · rename_i hq; obtain ⟨q, hq⟩ := hnf hq; cases hq
      simp
    | some q => exact back rfl hnc hcm (by simpa using (hosome q rfl).2.1) (.inl ⟨hlt, hf⟩)
  cases o with
  | no => exact absurd rfl ho
  | full =>
    have hf : RelF (.slice bs n cap) := hsv.2
    rcases Nat.eq_zero_or_pos m with hm | hm
    · refine stay hf ?_ hm
      rcases hlx with h | h | ⟨τ0, h, _⟩
      · exact h
      · rw [hdl, hm] at h; simp at h
      cases h
    exact anew (by have := hf _ _ _ rfl; omega)
  | tag τ0 =>
    rcases hsv.2 with ⟨hlt0, hf⟩ | ⟨r, hr, hrs, hrf⟩
    · rcases Nat.eq_zero_or_pos m with hm | hm
      · refine stay hf ?_ hm
        rcases hlx with h | h | ⟨τ1, h, h2⟩
        · exact h
        · rw [hdl, hm] at h; simp at h
        cases h; rw [hlt0] at h2; cases h2
      exact anew (by have := hf _ _ _ rfl; omega)
    cases hrf
    have hre := hrs.2
    replace hrs : r.sz = sz := by
      replace hrs := hrs.1
      rcases hsz' with h | ⟨_, h⟩
      · rw [hrs, h]
      exact absurd rfl (h τ0)
    by_cases hroom : r.n + m ≤ r.c
    · obtain ⟨cur, hb, hcs, _, _, hMo⟩ := hs.wi.own τ0 r hr
      let bt1 : Tag → Bool := fun t => rootT d t && t != τ0
      let g1 : Gh := ⟨g.M, g.B, fun t => if bt1 t then none else g.O t⟩
      have hs1 : Sim E g1 (s.clean (fun _ => false) bt1) a w := hs.clean rfl (fun _ _ => rfl) (fun _ => rfl) (fun _ => rfl)
      have hr1 : g1.O τ0 = some r := by
        show (if bt1 τ0 then none else g.O τ0) = _
        rw [if_neg (by simp [bt1])]; exact hr
      let g2 : Gh := ⟨addM g.M r.blk (cur.toList.take (r.n * r.sz) ++ us), g.B, fun v => if v = τ then some ⟨r.blk, r.n + m, r.c, r.sz, r.e, none⟩ else if v = τ0 then none else g1.O v⟩
      have hmo : ∀ ad v, g.M ad = some v → g2.M ad = some v := grow_hold hs.wi hr hb
      have hO2 : ∀ t, bt t = false → g2.O t = g.O t := by
        intro t ht
        simp only [bt, killT, Bool.or_eq_false_iff] at ht
        obtain ⟨h1, h2⟩ := ht
        have n1 : t ≠ τ := fun e => by rw [e, hτr] at h1; cases h1
        have n2 : t ≠ τ0 := by simpa using h2
        show (if t = τ then _ else if t = τ0 then none else if bt1 t then none else g.O t) = _
        rw [if_neg n1, if_neg n2, if_neg (by simp [bt1, h1])]
      have hsS : Sim E g1 (s.clean (fun _ => false) bt) a w := by
        have h1 := hs1.strike bt
        refine ⟨hs.slots.map fun v x hv => RelV.clean (g := g) (g' := g1) (fun _ _ h => h) (fun _ _ => rfl) (fun t ht => ?_) hv, hs.defers, ?_, ?_⟩
        · simp only [bt, killT, Bool.or_eq_false_iff] at ht
          show (if bt1 t then none else g.O t) = _
          rw [if_neg (by simp [bt1, ht.1])]
        · have hw := hs.strike bt
          refine ⟨hw.wi.mem, ?_, hw.wi.inj, hw.wi.boxM, h1.wi.own, ?_, h1.wi.ownI, h1.wi.muta⟩
          · intro j cs hj
            simp only [St.clean] at hj
            rw [hget_hclean] at hj
            simp only [Bool.false_eq_true, if_false, Option.map_eq_some_iff] at hj
            obtain ⟨d0, hj, rfl⟩ := hj
            obtain ⟨zs, u, h3, h4, hT⟩ := hs.wi.box j d0 hj
            refine ⟨zs, u, h3, h4.map fun c y hc => RelC.clean (g := g) (g' := g1) (fun _ _ h => h) (fun _ _ => rfl) (fun t ht => ?_) hc, hT.mapf clean_typ⟩
            simp only [bt, killT, Bool.or_eq_false_iff] at ht
            show (if bt1 t then none else g.O t) = _
            rw [if_neg (by simp [bt1, ht.1])]
          intro t q j cs ht hj
          have ht' : g.O t = some q := by
            change (if bt1 t then none else g.O t) = some q at ht
            split at ht
            · cases ht
            exact ht
          exact hw.wi.ownB t q j cs ht' hj
        have hc := (hs.strike bt).cum
        refine ⟨hc.os, hc.tape, hc.output, hc.size, hc.unch, ?_, hc.mem, hc.memN, hc.argB⟩
        rintro k (⟨j, cs, hj, rfl⟩ | ⟨t, q, ht, rfl⟩)
        · exact hc.foot _ (.inl ⟨j, cs, hj, rfl⟩)
        refine hc.foot _ (.inr ⟨t, q, ?_, rfl⟩)
        change (if bt1 t then none else g.O t) = some q at ht
        split at ht
        · cases ht
        exact ht
      have hs2 := hsS.growRow (τ := τ) (us := us) (m := m) hr1 (by
        by_cases e : τ = τ0
        · exact .inl e
        · refine .inr ?_
          show (if bt1 τ then none else g.O τ) = none
          rw [if_pos (by simp [bt1, hτr, e])]) hb (by rw [hlen, hrs]) hroom (g' := g2) rfl rfl (fun _ => rfl)
        (hs.slots.map fun v x hv => RelV.clean (g := g) (g' := g2) hmo (fun _ _ => rfl) hO2 hv)
        (fun j cs ys hj hcy => by
          simp only [St.clean] at hj
          rw [hget_hclean] at hj
          simp only [Bool.false_eq_true, if_false, Option.map_eq_some_iff] at hj
          obtain ⟨d0, _, rfl⟩ := hj
          have h3 := hcy.map (T := RelC g2) (f := C.clean (fun _ => false) bt) fun c y hc => RelC.clean (g := g1) (g' := g2) hmo (fun _ _ => rfl) (fun t ht => by
            rw [hO2 t ht]
            simp only [bt, killT, Bool.or_eq_false_iff] at ht
            show _ = if bt1 t then none else g.O t
            rw [if_neg (by simp [bt1, ht.1])]) hc
          rw [List.map_map] at h3
          rwa [show (C.clean (fun _ => false) bt ∘ C.clean (fun _ => false) bt) = C.clean (fun _ => false) bt from funext fun c => C.clean_idem c] at h3)
      have hrun : (Builtin.append_ #[t, t'] ty #[.slice (some ⟨r.blk, 0, none⟩) r.n r.c, y]).run P w = .ok (.slice (some ⟨r.blk, 0, none⟩) (r.n + m) r.c) (w.setRow r.blk (cur.toList.take (r.n * r.sz) ++ us ++ cur.toList.drop (r.n * r.sz + us.length)).toArray) := by
        rcases Nat.eq_zero_or_pos m with hm | hm
        · subst hm
          obtain rfl : us = [] := List.eq_nil_of_length_eq_zero (by simpa using hlen)
          rw [R.none rfl _ _ _ hnc]
          simp only [List.append_nil, List.length_nil, Nat.add_zero, List.take_append_drop, Array.toArray_toList]
          rw [setRow_self w r.blk cur r.e (0, 0) hb]
        have hul : 0 < us.length := by rw [hlen]; exact Nat.mul_pos hm h0
        have h1 : ∀ q ∈ us, q.oneCell' = true := by
          intro q hq
          obtain ⟨j, hj⟩ := List.mem_iff_getElem?.1 hq
          have hlt := (List.getElem?_eq_some_iff.1 hj).1
          rw [← hrel.length] at hlt
          obtain ⟨b, hb1, hb2⟩ := hrel.get (List.getElem?_eq_getElem hlt)
          rw [hj] at hb1
          cases hb1
          exact hb2.one
        have := R.room hm r.blk r.n r.c cur r.e hb hroom (by rw [hies, hlen, hcs, hrs, ← Nat.add_mul]; exact Nat.mul_le_mul_right _ hroom)
        rw [hies] at this
        rw [hrs]
        exact this
      refine ⟨_, _, g2, _, _, hK, back rfl hroom hcm (app hmo fun j v hj => ?_) (.inr ⟨⟨r.blk, r.n + m, r.c, r.sz, r.e, none⟩, by simp [g2], ⟨hrs, fun q hq => by have h1 := hty q hq; rw [h1.1]; exact hre e (h1.2 τ0 rfl)⟩, rfl⟩), hs2, hrun⟩
      have htake : cur.toList.take (r.n * r.sz) = olds := by
        apply List.ext_getElem?
        intro j
        rw [List.getElem?_take]
        split
        · rename_i hj
          have hj' : j < olds.length := by rw [hol, ← hrs]; exact hj
          have h2 := hs.wi.mem _ _ ((hosome _ rfl).2.2 j _ (List.getElem?_eq_getElem hj'))
          rw [add_mk, Nat.zero_add, cell_row hb] at h2
          rw [Array.getElem?_toList, h2, List.getElem?_eq_getElem hj']
        rename_i hj
        rw [List.getElem?_eq_none (by rw [hol, ← hrs]; omega)]
      refine addM_get ?_
      rw [htake]
      exact hj
    exact anew (by omega)
theorem zeroCells_eq (z : Array Value) (n : Nat) (hz : 0 < z.size) : Builtin.zeroCells z n = (List.replicate n z.toList).flatten.toArray := by
  apply Array.ext'
  have := zeros_eq z n hz
  simpa [Builtin.zeroCells] using this
theorem SrcRun.ofNum {t t' ty e : TypeId} {ie : TypeInfo} {zv : Value} {k : IntKind} {m : Nat} {k' : IntKind} (h0 : 0 < ie.size) (hu : P.underlying t = some (.slice e)) (ht' : P.underlying t' = some (.int k')) (hie : P.info? e = some ie) (hzv : ie.zero = some zv) (hzs : zv.cells.size = ie.size)
    (h1 : ∀ q ∈ zv.cells.toList, q.oneCell' = true) (hm : (m : Int) * ie.bytes ≤ 140737488355328) (hm2 : m ≤ 140737488355328) : SrcRun P w t t' ty (.int k m) e ie zv m (List.replicate m zv.cells.toList).flatten := by
  have hw : IntKind.i64.wrap (m : Int) = m := by simp [IntKind.wrap, IntKind.bits, IntKind.signed]; omega
  have hneg : ¬ ((m : Int) < 0) := by omega
  have hbig : ¬ ((281474976710656 : Int) < (m : Int) * ie.bytes) := by omega
  have hbig' : ¬ (2 ^ 48 < (m : Int) * ie.bytes) := by omega
  have hul : (List.replicate m zv.cells.toList).flatten.length = m * ie.size := by simp [hzs]
  have hone : ∀ u ∈ (List.replicate m zv.cells.toList).flatten, u.oneCell' = true := by
    intro u hu
    simp only [List.mem_flatten, List.mem_replicate] at hu
    obtain ⟨l, ⟨_, rfl⟩, hu⟩ := hu
    exact h1 u hu
  have hz := zeroCells_eq zv.cells m (by omega)
  refine ⟨fun hm0 bs n cap hn => ?_, fun hm0 k n cap cur t0 hk hroom hfit => ?_, fun hm0 bs n cap olds hol hn ho hg h63 hfits => ?_⟩
  · subst hm0
    have hw0 : IntKind.i64.wrap 0 = 0 := by decide
    cases bs <;> simp [Builtin.append_, run_underlying hu, run_underlying ht', sizeOf, typeInfo, hie, asInt, asIntOf, hw0, hn, storeCells]
  · have hst := run_storeCells_at P k (n * ie.size) t0 (List.replicate m zv.cells.toList).flatten 0 cur w hk (by simpa using hfit) hone
    simp only [Nat.add_zero] at hst
    have hpos : m * ie.size ≠ 0 := Nat.pos_iff_ne_zero.1 (Nat.mul_pos hm0 h0)
    have hp1 : m ≠ 0 := by omega
    have hp2 : ie.size ≠ 0 := by omega
    simp [Builtin.append_, run_underlying hu, run_underlying ht', sizeOf, typeInfo, zeroValue, hie, hzv, asInt, asIntOf, hw, hneg, hbig, hroom, hp1, hp2, hz, Addr.add_lit, hst]
    try (intro hq; exact absurd hq hpos)
  have hpos : m * ie.size ≠ 0 := Nat.pos_iff_ne_zero.1 (Nat.mul_pos hm0 h0)
  have hp1 : m ≠ 0 := by omega
  have hp2 : ie.size ≠ 0 := by omega
  have hn' : ¬ (n + m ≤ cap) := by omega
  have h63' : ¬ (9223372036854775807 < ((n : Int) + (m : Int))) := by omega
  have h48' : ¬ (281474976710656 < Builtin.nextslicecap (n + m) cap * ie.bytes) := by omega
  have hfo : (Builtin.firstCells ie.size n (.slice bs n cap)).run P w.drew = .ok olds.toArray w.drew := by
    cases bs with
    | none =>
      obtain ⟨rfl, rfl⟩ := hn rfl
      obtain rfl : olds = [] := List.eq_nil_of_length_eq_zero (by simpa using hol)
      simp [Builtin.firstCells]
    | some q => exact run_firstCells_some (P := P) w.drew ie.size n q n cap olds hol (by simpa using ho q rfl)
  simp [Builtin.append_, run_underlying hu, run_underlying ht', sizeOf, typeInfo, zeroValue, hie, hzv, asInt, asIntOf, hw, hneg, hbig, hn', h63', h48', hp1, hp2, hz, Question.forced, hfo, newRow, grownCap]
  rw [if_neg hpos]
  congr 2
  refine congrArg (fun a => Obj.cells a e (0, 0)) ?_
  apply Array.ext'
  simp [List.append_assoc]
theorem sound_append {t ty : TypeId} {sv x : V} {u y : Value} {d : Nat} {K : V → St → Prop} (hs : Sim E g s a w) (hsv : RelV g sv u) (hx : RelV g x y) (h : aAppend P t sv x d s K) :
    ∃ r s' g' w' z, K r s' ∧ RelV g' r z ∧ Sim E g' s' a w' ∧ (Builtin.append_ #[t, t] ty #[u, y]).run P w = .ok z w' := by
  unfold aAppend at h
  split at h
  · rename_i o nl sz' xs
    obtain ⟨e, sz, z, b, ht, h0, hz, hzl, hby, hb0, hsz', ho, h⟩ := h
    obtain ⟨hu, hsz⟩ := idxT_slc ht
    obtain ⟨ie, zv, hie, hzv, rfl⟩ := zeroC_spec hz
    obtain ⟨ie', hie', hbs⟩ := bytesT_spec hby
    rw [hie] at hie'
    cases hie'
    have hies : ie.size = sz := by simpa [sizeT, hie] using hsz
    have hzs : zv.cells.size = sz := by simpa using hzl
    obtain ⟨ds, ⟨hbytes, hK⟩, A, m, c, us, hsrc⟩ := src_at h0 hs hx h
    exact sound_appendG hs hsv hu h0 hie hies hzs hbs hb0 hsz' ho hsrc.len hsrc.rel (SrcRun.ofAt hsrc h0 hu hie hzv hies) hbytes (by simp [rootT]) (.inl rfl) (fun _ h => by cases h) hK
  exact h.elim
theorem sound_appendS {t ty : TypeId} {sv x : V} {u y : Value} {d : Nat} {K : V → St → Prop} (hs : Sim E g s a w) (hsv : RelV g sv u) (hx : RelV g x y) (h : aAppendS P t sv x d s K) :
    ∃ r s' g' w' z, K r s' ∧ RelV g' r z ∧ Sim E g' s' a w' ∧ (Builtin.append_ #[t, t] ty #[u, y]).run P w = .ok z w' := by
  unfold aAppendS at h
  split at h
  · rename_i o nl sz' xs
    obtain ⟨e, sz, z, b, ht, h0, hz, hzl, hby, hb0, hsz', h⟩ := h
    obtain ⟨hu, hsz⟩ := idxT_slc ht
    obtain ⟨ie, zv, hie, hzv, rfl⟩ := zeroC_spec hz
    obtain ⟨ie', hie', hbs⟩ := bytesT_spec hby
    rw [hie] at hie'
    cases hie'
    have hies : ie.size = sz := by simpa [sizeT, hie] using hsz
    have hzs : zv.cells.size = sz := by simpa using hzl
    obtain ⟨ds, ⟨hst, hbytes, hK⟩, A, m, c, us, hsrc⟩ := src_at h0 hs hx h
    have ho : o ≠ .no := by
      rcases hst with ⟨rfl, _⟩ | ⟨τ, rfl, _⟩ <;> simp
    refine sound_appendG hs hsv hu h0 hie hies hzs hbs hb0 hsz' ho hsrc.len hsrc.rel (SrcRun.ofAt hsrc h0 hu hie hzv hies) hbytes (by simp [rootT]) (.inr ?_) (fun q hq => ⟨by cases hq; rfl, fun τ0 h0 => by
      rcases hst with ⟨h1, _⟩ | ⟨τ, h1, h2⟩
      · rw [h1] at h0; cases h0
      rw [h1] at h0; cases h0; exact h2⟩) hK
    rcases hst with ⟨_, hq⟩ | ⟨τ, rfl, hq⟩
    · exact .inl hq
    exact .inr ⟨τ, rfl, strong_lax hq⟩
  exact h.elim

theorem ofCell_one {v : Value} (h : ofCell v ≠ .undef) : v.oneCell' = true := by
  unfold ofCell at h
  split at h
  · rename_i hs; exact scalar_one hs
  split at h
  · rfl
  · rfl
  exact absurd rfl h
theorem allD_known : ∀ {l : List Value} {ds : List D}, allD (l.map ofCell) = some ds → ∀ q ∈ l, ofCell q ≠ .undef
  | [], _, _, q, hq => by cases hq
  | v :: l, ds, h, q, hq => by
    simp only [List.map_cons] at h
    unfold allD at h
    split at h
    · rename_i d ds' hd hds
      rcases List.mem_cons.1 hq with rfl | hq
      · intro e; rw [e] at hd; cases hd
      exact allD_known hds q hq
    cases h
theorem SrcRun.ofStr {t t' ty e : TypeId} {ie : TypeInfo} {zv : Value} {b : ByteArray} (hu : P.underlying t = some (.slice e)) (ht' : P.underlying t' = some .string) (hie : P.info? e = some ie) (hzv : ie.zero = some zv) (h1 : ie.size = 1) :
    SrcRun P w t t' ty (.string b) e ie zv b.size (Lib.strCells b) := by
  refine ⟨fun hm bs n cap hn => ?_, fun hm k n cap cur t0 hk hroom hfit => ?_, fun hm bs n cap olds hol hn ho hg h63 hfits => ?_⟩
  · have hf := Lib.run_firstCells_string (P := P) w 1 b
    have hb : (Lib.strCells b) = [] := List.eq_nil_of_length_eq_zero (by rw [Lib.strCells_length]; exact hm)
    rw [hb, hm] at hf
    cases bs <;> simp [Builtin.append_, run_underlying hu, run_underlying ht', sizeOf, typeInfo, hie, h1, Builtin.lenOf, hm, hn, hf, storeCells]
  · rw [h1, Nat.mul_one, Lib.strCells_length] at hfit
    have hf := Lib.run_firstCells_string (P := P) w 1 b
    have hst := run_storeCells_at P k n t0 (Lib.strCells b) 0 cur w hk (by simpa [Lib.strCells_length] using hfit) (Lib.strCells_oneCell b)
    simp only [Nat.add_zero, Lib.strCells_length] at hst
    simp [Builtin.append_, run_underlying hu, run_underlying ht', sizeOf, typeInfo, hie, h1, Builtin.lenOf, hroom, hf, Addr.add_lit, hst, Lib.strCells_length]
  have hn' : ¬ (n + b.size ≤ cap) := by omega
  have h63' : ¬ (9223372036854775807 < ((n : Int) + (b.size : Int))) := by omega
  have h48' : ¬ (281474976710656 < Builtin.nextslicecap (n + b.size) cap * ie.bytes) := by omega
  have hf := Lib.run_firstCells_string (P := P) w.drew ie.size b
  have hfo : (Builtin.firstCells ie.size n (.slice bs n cap)).run P w.drew = .ok olds.toArray w.drew := by
    cases bs with
    | none =>
      obtain ⟨rfl, rfl⟩ := hn rfl
      obtain rfl : olds = [] := List.eq_nil_of_length_eq_zero (by simpa using hol)
      simp [Builtin.firstCells]
    | some q => exact run_firstCells_some (P := P) w.drew ie.size n q n cap olds hol (by simpa using ho q rfl)
  simp [Builtin.append_, run_underlying hu, run_underlying ht', sizeOf, typeInfo, zeroValue, hie, hzv, Builtin.lenOf, hn', h63', h48', Question.forced, hf, hfo, newRow, grownCap]
  congr 2
  apply Array.ext'
  simp [List.append_assoc]
theorem sound_appZ {t t' ty : TypeId} {o : Own} {nl : Option Bool} {sz' : Nat} {xs : List D} {b : ByteArray} {u : Value} {d : Nat} {K : V → St → Prop} (hs : Sim E g s a w) (hsv : RelV g (.cell (.lst o nl sz' xs)) u) (h : aAppZ P t t' o nl sz' xs b d s K) :
    ∃ r s' g' w' z, K r s' ∧ RelV g' r z ∧ Sim E g' s' a w' ∧ (Builtin.append_ #[t, t'] ty #[u, .string b]).run P w = .ok z w' := by
  obtain ⟨hst, e, z, q, ht, hz, hzl, hby, hb0, hsz', hbytes, h⟩ := h
  obtain ⟨hu, hsz⟩ := idxT_slc ht
  obtain ⟨ie, zv, hie, hzv, rfl⟩ := zeroC_spec hz
  obtain ⟨ie', hie', hbs⟩ := bytesT_spec hby
  rw [hie] at hie'
  cases hie'
  have hies : ie.size = 1 := by simpa [sizeT, hie] using hsz
  have hzs : zv.cells.size = 1 := by simpa using hzl
  have hrel : All2 (RelD g.M) (b.data.toList.map fun c => D.val (.int .u8 c.toNat)) (Lib.strCells b) := by
    unfold Lib.strCells
    generalize b.data.toList = l
    induction l with
    | nil => exact .nil
    | cons c l ih => exact .cons (.val rfl) ih
  have hl : (b.data.toList.map fun c => D.val (.int .u8 c.toNat)).length = b.size := by rw [hrel.length, Lib.strCells_length]
  have R := SrcRun.ofStr (P := P) (w := w) (ty := ty) (b := b) hu (strT_spec hst) hie hzv hies
  rcases h with ⟨ho, hK⟩ | ⟨ho, hK⟩
  · exact sound_appendG hs hsv hu (by omega) hie hies hzs hbs hb0 hsz' ho (by rw [Lib.strCells_length, Nat.mul_one]) hrel R (by rw [hl, Nat.div_one]; exact hbytes) (by simp [rootT]) (.inl rfl) (fun _ h => by cases h) hK
  have ho' : o ≠ .no := by
    rcases ho with ⟨rfl, _⟩ | ⟨τ, rfl, _⟩ <;> simp
  refine sound_appendG hs hsv hu (by omega) hie hies hzs hbs hb0 hsz' ho' (by rw [Lib.strCells_length, Nat.mul_one]) hrel R (by rw [hl, Nat.div_one]; exact hbytes) (by simp [rootT]) (.inr ?_) (fun q hq => ⟨by cases hq; rfl, fun τ0 h0 => by
    rcases ho with ⟨h1, _⟩ | ⟨τ, h1, h2⟩
    · rw [h1] at h0; cases h0
    rw [h1] at h0; cases h0; exact h2⟩) hK
  rcases ho with ⟨_, hq⟩ | ⟨τ, rfl, hq⟩
  · exact .inl (by rw [hl]; exact hq)
  exact .inr ⟨τ, rfl, strong_lax hq⟩
theorem sound_appN {t t' ty : TypeId} {sv x : V} {u y : Value} {d : Nat} {K : V → St → Prop} (hs : Sim E g s a w) (hsv : RelV g sv u) (hx : RelV g x y) (h : aAppN P t t' sv x d s K) :
    ∃ r s' g' w' z, K r s' ∧ RelV g' r z ∧ Sim E g' s' a w' ∧ (Builtin.append_ #[t, t'] ty #[u, y]).run P w = .ok z w' := by
  unfold aAppN at h
  split at h
  · obtain ⟨_, rfl⟩ := hx
    exact sound_appZ hs hsv h
  · rename_i o nl sz' xs k n
    obtain ⟨_, rfl⟩ := hx
    obtain ⟨hint, e, sz, z, b, ds, ht, h0, hz, hzl, hds, hby, hb0, hsz', ho, hn0, hnb, hbytes, hK⟩ := h
    obtain ⟨hu, hsz⟩ := idxT_slc ht
    obtain ⟨ie, zv, hie, hzv, rfl⟩ := zeroC_spec hz
    obtain ⟨ie', hie', hbs⟩ := bytesT_spec hby
    rw [hie] at hie'
    cases hie'
    have hies : ie.size = sz := by simpa [sizeT, hie] using hsz
    have hzs : zv.cells.size = sz := by simpa using hzl
    obtain ⟨m, rfl⟩ := Int.eq_ofNat_of_zero_le hn0
    simp only [Int.toNat_natCast] at hbytes hK
    obtain ⟨k', hk'⟩ : ∃ k', P.underlying t' = some (.int k') := by
      unfold isIntT at hint
      split at hint
      · exact ⟨_, by assumption⟩
      cases hint
    have hm2 : m ≤ 140737488355328 := by
      have : m * b ≤ 140737488355328 := by rw [← Int.natCast_mul] at hnb; omega
      exact Nat.le_trans (Nat.le_mul_of_pos_right _ hb0) this
    have hrel : All2 (RelD g.M) (List.replicate m ds).flatten (List.replicate m zv.cells.toList).flatten := flat_rel (allD_rel hds (ofCells_rel g zv.cells.toList)) m
    have hlen : ((List.replicate m zv.cells.toList).flatten).length = m * sz := by simp [hzs]
    refine sound_appendG hs hsv hu h0 hie hies hzs hbs hb0 hsz' ho hlen hrel (SrcRun.ofNum (by omega) hu hk' hie hzv (by omega) (fun q hq => ofCell_one (allD_known hds q hq)) (by rw [hbs]; exact hnb) hm2) ?_ (by simp [rootT]) (.inl rfl) (fun _ h => by cases h) hK
    rw [hrel.length, hlen]
    exact hbytes
  exact h.elim
theorem sound_makeSlice {t : TypeId} {l c : V} {u y : Value} {d : Nat} {K : V → St → Prop} (hs : Sim E g s a w) (hl : RelV g l u) (hc : RelV g c y) (h : aMakeSlice P t l c d s K) :
    ∃ r s' g' w' z, K r s' ∧ RelV g' r z ∧ Sim E g' s' a w' ∧ (Instr.makeSlice t u y).run P w = .ok z w' := by
  unfold aMakeSlice at h
  split at h
  · obtain ⟨_, rfl⟩ := hl
    obtain ⟨_, rfl⟩ := hc
    rename_i kl l kc c _ _
    obtain ⟨e, sz, zc, ds, b, ht, h0, hz, hzl, hd, hby, hb0, hl0, hlc, hbytes, h⟩ := h
    obtain ⟨hu, hsz⟩ := idxT_slc ht
    obtain ⟨ie, zv, hie, hzv, rfl⟩ := zeroC_spec hz
    obtain ⟨ie', hie', hbs⟩ := bytesT_spec hby
    rw [hie] at hie'
    cases hie'
    have hies : ie.size = sz := by simpa [sizeT, hie] using hsz
    have hzs : zv.cells.size = sz := by simpa using hzl
    obtain ⟨l, rfl⟩ := Int.eq_ofNat_of_zero_le hl0
    obtain ⟨c, rfl⟩ := Int.eq_ofNat_of_zero_le (Int.le_trans hl0 hlc)
    have hlc' : l ≤ c := by omega
    have hcb : c ≤ 140737488355328 := by
      have h1 : b * c ≤ 140737488355328 := by rw [← Int.natCast_mul] at hbytes; omega
      exact Nat.le_trans (Nat.le_mul_of_pos_left _ hb0) h1
    have hrun := run_make (P := P) w t e ie zv hu hie hzv kl kc (l : Int) (c : Int) (by omega) (by omega) (by rw [hbs]; omega) (by omega)
    simp only [Int.toNat_natCast] at hrun h
    let ys := madeCells zv.cells (c * ie.size)
    have hys : ys.toList = (List.replicate c zv.cells.toList).flatten := by
      have := zeros_eq zv.cells c (by omega)
      rw [hzs] at this
      simp only [ys, madeCells, hies, hzs]
      rw [this]
    have hysz : ys.size = c * sz := by simp only [ys, size_madeCells, hies]
    have hzr := ofCells_rel g zv.cells.toList
    rcases h with h | h
    · let g1 : Gh := ⟨g.M, g.B, fun t => if rootT d t then none else g.O t⟩
      have hs1 : Sim E g1 (s.clean (fun _ => false) (rootT d)) a w := hs.clean rfl (fun _ _ => rfl) (fun _ => rfl) (fun _ => rfl)
      let g2 : Gh := ⟨addM g.M w.heap.size (ys.toList.take (l * sz)), g.B, fun u => if u = Tag.slot [d] then some ⟨w.heap.size, l, c, sz, e, none⟩ else g1.O u⟩
      have hs2 : Sim E g2 (s.clean (fun _ => false) (rootT d)) a (w.alloc (.cells ys e)) :=
        hs1.addRow (Grow1.alloc w ys e) (τ := .slot [d]) (n := l) (c := c) (sz := sz) (by simp [g1, rootT]) hysz hlc' (by simp only [maxLen]; omega) rfl rfl (fun _ => rfl)
      have htk : ys.toList.take (l * sz) = (List.replicate l zv.cells.toList).flatten := by
        rw [hys, show c = l + (c - l) by omega, ← List.replicate_append_replicate, List.flatten_append]
        have : (List.replicate l zv.cells.toList).flatten.length = l * sz := by simp [hzs]
        rw [← this]
        exact List.take_left
      have hrel : All2 (RelD g.M) (List.replicate l ds).flatten (List.replicate l zv.cells.toList).flatten := flat_rel (allD_rel hd hzr) l
      refine ⟨_, _, g2, _, _, h, ⟨RelD.mk (by simp) h0 ?_ hlc' (by simp only [maxLen]; omega) ?_, .inr ⟨_, by simp [g2]; rfl, ⟨rfl, fun _ h => by cases h⟩, rfl⟩⟩, hs2, hrun⟩
      · rw [hrel.length]; simp [hzs]
      show RelM (addM _ _ _) _ _
      rw [htk]
      refine relM_new (hrel.mono fun _ _ h => RelD.mono (fun a v ha => ?_) h)
      refine addM_old (fun a v ha e => ?_) ha
      have := hs.wi.mem_lt ha
      omega
    have hn : aNew d (List.replicate c (zv.cells.toList.map ofCell)).flatten s fun _ s' => K (.cell (.row (.loc [d]) 0 l c)) s' := by
      have e : ((List.replicate c (zv.cells.toList.map ofCell)).flatten).map (C.clean (rootI d) fun _ => true) = (List.replicate c (zv.cells.toList.map ofCell)).flatten := by
        have hone : ∀ v : Value, (ofCell v).clean (rootI d) (fun _ => true) = ofCell v := by
          intro v
          unfold ofCell
          split
          · rfl
          split
          · split <;> rfl
          · split
            · simp [C.clean]
            rfl
          rfl
        conv => rhs; rw [← List.map_id (List.replicate c (zv.cells.toList.map ofCell)).flatten]
        refine List.map_congr_left fun q hq => ?_
        simp only [List.mem_flatten, List.mem_replicate] at hq
        obtain ⟨l', ⟨_, rfl⟩, hq⟩ := hq
        obtain ⟨v, _, rfl⟩ := List.mem_map.1 hq
        exact hone v
      unfold aNew
      rw [e]
      exact h
    obtain ⟨r, s', g', hK, hr, hs', hBd⟩ := sound_new (t := e) hs (ys := ys) (by rw [hys]; exact flat_rel hzr c) (Grow1.alloc w ys e) hn
    refine ⟨_, s', g', _, _, hK, ?_, hs', hrun⟩
    show _ = Value.slice (some ⟨g'.B (.loc [d]), 0, none⟩) l c
    rw [hBd]
  exact h.elim
theorem sound_copy {t t' ty : TypeId} {dv x : V} {u y : Value} {K : V → St → Prop} (hs : Sim E g s a w) (hd : RelV g dv u) (hx : RelV g x y) (h : aCopy P t dv x s K) :
    ∃ r s' g' w' z, K r s' ∧ RelV g' r z ∧ Sim E g' s' a w' ∧ (Builtin.copy_ #[t, t'] ty #[u, y]).run P w = .ok z w' := by
  unfold aCopy at h
  split at h
  · obtain rfl := hd
    rename_i i off n cp
    obtain ⟨e, cs, ht, hi, h⟩ := h
    obtain ⟨hu, hsz⟩ := idxT_slc ht
    obtain ⟨ie, hie, hies⟩ := sizeT_info hsz
    obtain ⟨ds, ⟨hfit, hK⟩, A, m, c, us, hsrc⟩ := src_at (by omega) hs hx h
    obtain rfl := hsrc.form
    obtain ⟨ys, tb, hb, hr, _⟩ := hs.wi.box i cs hi
    have hlen := hr.length
    simp only [Array.length_toList] at hlen
    have hul : us.length = m := by rw [hsrc.len, Nat.mul_one]
    have hdl : ds.length = m := by rw [hsrc.rel.length, hul]
    have htl : (us.take n).length = Nat.min m n := by rw [List.length_take, hul]; exact Nat.min_comm _ _
    have h1 : ∀ v ∈ us.take n, v.oneCell' = true := by
      intro q hq
      have hq := List.mem_of_mem_take hq
      obtain ⟨j, hj⟩ := List.mem_iff_getElem?.1 hq
      have hlt := (List.getElem?_eq_some_iff.1 hj).1
      rw [← hsrc.rel.length] at hlt
      obtain ⟨b, hb1, hb2⟩ := hsrc.rel.get (List.getElem?_eq_getElem hlt)
      rw [hj] at hb1
      cases hb1
      exact hb2.one
    have hfit' : off + (us.take n).length ≤ ys.size := by rw [htl, ← hlen, ← hdl]; exact hfit
    have hrun : (Builtin.copy_ #[t, t'] ty #[.slice (some ⟨g.B i, off, none⟩) n cp, .slice A m c]).run P w = .ok (goInt (us.take n).length) (w.setRow (g.B i) (spl ys.toList off (us.take n)).toArray) := by
      rw [spl_eq (by simpa using hfit')]
      by_cases hz : 0 < us.length
      · obtain ⟨ad, rfl, hcell⟩ := hsrc.cells hz
        exact run_copy_row (P := P) w t t' ty e (g.B i) off n cp ad m c ys tb (us.take n) hu hsz hb htl (fun j v hj => hcell j v (by
          rw [List.getElem?_take] at hj
          split at hj
          · exact hj
          cases hj)) hfit' h1
      have hu0 : us = [] := List.eq_nil_of_length_eq_zero (by omega)
      subst hu0
      have hm0 : m = 0 := by simpa using hul.symm
      subst hm0
      simp only [List.take_nil, List.append_nil, List.length_nil, Nat.add_zero, List.take_append_drop, Array.toArray_toList]
      rw [setRow_self w (g.B i) ys tb (0, 0) hb]
      cases A <;> simp [Builtin.copy_, run_underlying hu, sizeOf, typeInfo, hie, hies, Builtin.lenOf, Builtin.firstCells, loadCells, loadCellsFrom, storeCells, goInt]
    refine ⟨_, _, g, _, _, hK, ?_, hs.setBox (w' := w.setRow (g.B i) (spl ys.toList off (us.take n)).toArray) (ys' := (spl ys.toList off (us.take n)).toArray) hi ?_ (fun k hk => setRow_other w _ k _ hk) ⟨ys, tb, hb, setRow_heap w _ ys _ tb _ hb⟩ (fun t ht => ht.spl (no_typD _)) rfl rfl rfl (by simp), hrun⟩
    · refine ⟨rfl, ?_⟩
      rw [htl, hdl]
      rfl
    refine spl_rel hr (((hsrc.rel.take n).map fun d y hd => ?_))
    exact D.toC_rel hd
  exact h.elim
end
end
section
section
variable {P : Program} {E : Entry} {g : Gh} {w w' : World} {s : St} {a : Act}
/-- a row is made that is one's own -/
theorem Sim.addStk (hs : Sim E g s a w) {ys : Array Value} {t : TypeId} (hg : Grow1 w w' ys t) {τ : Tag} {n c sz : Nat} {ds : List D} (hτ : g.O τ = none) (hc : ys.size = c * sz) (hn : n ≤ c) (hm : c ≤ maxLen) (hl : ds.length = n * sz) (hd : All2 (RelD g.M) ds (ys.toList.take ds.length)) :
    Sim E ⟨g.M, g.B, fun u => if u = τ then some ⟨w.heap.size, n, c, sz, t, some ds⟩ else g.O u⟩ s a w' := by
  let g' : Gh := ⟨g.M, g.B, fun u => if u = τ then some ⟨w.heap.size, n, c, sz, t, some ds⟩ else g.O u⟩
  have hOm : ∀ u r, g.O u = some r → g'.O u = some r := fun u r hu => by
    show (if u = τ then _ else g.O u) = _
    rw [if_neg]; exact hu
    rintro rfl; rw [hτ] at hu; cases hu
  have inv : ∀ u r, g'.O u = some r → (u = τ ∧ r = ⟨w.heap.size, n, c, sz, t, some ds⟩) ∨ g.O u = some r := by
    intro u r hu
    change (if u = τ then _ else g.O u) = some r at hu
    split at hu
    · rename_i e; cases hu; exact .inl ⟨e, rfl⟩
    exact .inr hu
  have lt : ∀ j ds, hget s.heap j = some ds → g.B j < w.heap.size := fun j ds hj => by obtain ⟨_, _, h1, _⟩ := hs.wi.box j ds hj; exact block_lt h1
  have own_lt : ∀ u r, g.O u = some r → r.blk < w.heap.size := fun u r hu => by obtain ⟨cur, h1, _⟩ := hs.wi.own u r hu; exact block_lt h1
  have relC : ∀ c y, RelC g c y → RelC g' c y := by
    intro c y hc
    cases c with
    | lst o nl sz' xs =>
      refine ⟨hc.1, ?_⟩
      cases o with
      | no => trivial
      | full => exact hc.2
      | tag u =>
        rcases hc.2 with h | ⟨r, h1, h2⟩
        · exact .inl h
        exact .inr ⟨r, hOm u r h1, h2⟩
    | stk u sz ds =>
      rcases hc.2 with h | ⟨r, h1, h2⟩
      · exact ⟨hc.1, .inl h⟩
      exact ⟨hc.1, .inr ⟨r, hOm u r h1, h2⟩⟩
    | sptr u off sz ds => obtain ⟨r, h1, h2⟩ := hc; exact ⟨r, hOm u r h1, h2⟩
    | _ => exact hc
  have relW : ∀ c y, RelW g c y → RelW g' c y := by
    intro c y hc
    cases c with
    | c x => exact relC _ _ hc
    | agg cs => obtain ⟨ys, h1, h2⟩ := hc; exact ⟨ys, h1, h2.mono relC⟩
  have relV : ∀ c y, RelV g c y → RelV g' c y := by
    intro c y hc
    cases c with
    | w x => exact relW _ _ hc
    | tup cs => obtain ⟨ys, h1, h2⟩ := hc; exact ⟨ys, h1, h2.mono relW⟩
  refine ⟨hs.slots.mono relV, hs.defers, ⟨fun a v ha => hg.cell (hs.wi.mem a v ha), ?_, hs.wi.inj, hs.wi.boxM, ?_, ?_, ?_, ?_⟩, hs.cum.trans ⟨hg.os, hg.tape, hg.output, by show w.heap.size ≤ _; rw [hg.size]; omega, fun k hk _ => hg.old k hk, ?_, fun _ _ h => h, fun _ _ h => .inl h, fun _ => rfl⟩⟩
  · intro j ds hj
    obtain ⟨zs, u, h1, h2, hT⟩ := hs.wi.box j ds hj
    exact ⟨zs, u, by rw [hg.old _ (lt j ds hj)]; exact h1, h2.mono relC, hT⟩
  · intro u r hu
    rcases inv u r hu with ⟨_, rfl⟩ | hu
    · refine ⟨ys, hg.new, hc, hn, hm, fun a v ha hb => ?_⟩
      have := hs.wi.mem_lt ha; simp only at hb; omega
    obtain ⟨cur, h1, h2⟩ := hs.wi.own u r hu
    exact ⟨cur, by rw [hg.old _ (block_lt h1)]; exact h1, h2⟩
  · intro u r j ds hu hj
    have := lt j ds hj
    rcases inv u r hu with ⟨_, rfl⟩ | hu
    · show w.heap.size ≠ g.B j; omega
    exact hs.wi.ownB u r j ds hu hj
  · intro u u' r r' h1 h2 e
    rcases inv u r h1 with ⟨e1, rfl⟩ | h1 <;> rcases inv u' r' h2 with ⟨e2, rfl⟩ | h2
    · rw [e1, e2]
    · have := own_lt _ _ h2; simp only at e; omega
    · have := own_lt _ _ h1; simp only at e; omega
    exact hs.wi.ownI u u' r r' h1 h2 e
  · intro u r hu
    rcases inv u r hu with ⟨_, rfl⟩ | hu
    · intro ds' hd'
      cases hd'
      refine ⟨fun a v ha => ?_, hl, fun cur hc' => ?_⟩
      · have := hs.wi.mem_lt ha; show a.block ≠ w.heap.size; omega
      rw [hg.new] at hc'
      cases hc'
      exact hd
    exact (hs.wi.muta u r hu).same (hg.old _ (own_lt u r hu))
  rintro k (⟨j, ds, hj, rfl⟩ | ⟨u, r, hu, rfl⟩)
  · exact .inl (.inl ⟨j, ds, hj, rfl⟩)
  rcases inv u r hu with ⟨_, rfl⟩ | hu
  · exact .inr (Nat.le_refl _)
  exact .inl (.inr ⟨u, r, hu, rfl⟩)
/-- a row of one's own holds something else from now on -/
theorem Sim.restk (hs : Sim E g s a w) {τ0 : Tag} {r : Rec} {ds0 : List D} (hr : g.O τ0 = some r) (hds : r.ds = some ds0) {bt : Tag → Bool} (hb0 : bt τ0 = true) {τ : Tag} (hτ : bt τ = true) {cur' : Array Value} {n' : Nat} {ds' : List D}
    (hb : w'.heap[r.blk]? = some (.cells cur' r.e (0, 0))) (hsz : cur'.size = r.c * r.sz) (hn : n' ≤ r.c) (hl : ds'.length = n' * r.sz) (hd : All2 (RelD g.M) ds' (cur'.toList.take ds'.length))
    (hw : ∀ k, k ≠ r.blk → w'.heap[k]? = w.heap[k]?) (ho : w'.os = w.os) (ht : w'.tape = w.tape) (hp : w'.output = w.output) (hz : w'.heap.size = w.heap.size) :
    Sim E ⟨g.M, g.B, fun u => if u = τ then some ⟨r.blk, n', r.c, r.sz, r.e, some ds'⟩ else if bt u then none else g.O u⟩ (s.clean (fun _ => false) bt) a w' := by
  let g1 : Gh := ⟨g.M, g.B, fun t => if bt t then none else g.O t⟩
  let g' : Gh := ⟨g.M, g.B, fun u => if u = τ then some ⟨r.blk, n', r.c, r.sz, r.e, some ds'⟩ else if bt u then none else g.O u⟩
  have hs1 : Sim E g1 (s.clean (fun _ => false) bt) a w := hs.clean rfl (fun _ _ => rfl) (fun _ => rfl) (fun _ => rfl)
  have hO : ∀ t, bt t = false → g'.O t = g.O t := fun t ht => by
    show (if t = τ then _ else if bt t then none else g.O t) = _
    rw [if_neg (fun e => by rw [e, hτ] at ht; cases ht), if_neg (by simp [ht])]
  have inv : ∀ u q, g'.O u = some q → (u = τ ∧ q = ⟨r.blk, n', r.c, r.sz, r.e, some ds'⟩) ∨ (u ≠ τ ∧ bt u = false ∧ g.O u = some q) := by
    intro u q hu
    change (if u = τ then _ else if bt u then none else g.O u) = some q at hu
    split at hu
    · rename_i e; cases hu; exact .inl ⟨e, rfl⟩
    split at hu
    · cases hu
    rename_i e1 e2; exact .inr ⟨e1, by simpa using e2, hu⟩
  have hM : ∀ a v, g.M a = some v → a.block ≠ r.blk := (hs.wi.muta τ0 r hr ds0 hds).1
  have hcm : r.c ≤ maxLen := by obtain ⟨_, _, _, _, h, _⟩ := hs.wi.own τ0 r hr; exact h
  have hbx : ∀ j ds, hget (s.clean (fun _ => false) bt).heap j = some ds → ∃ d0, hget s.heap j = some d0 ∧ ds = d0.map (C.clean (fun _ => false) bt) := by
    intro j ds hj
    simp only [St.clean] at hj
    rw [hget_hclean] at hj
    simp only [Bool.false_eq_true, if_false, Option.map_eq_some_iff] at hj
    obtain ⟨d0, hj, rfl⟩ := hj
    exact ⟨d0, hj, rfl⟩
  have hne : ∀ u q, bt u = false → g.O u = some q → q.blk ≠ r.blk := fun u q hu hq e => by
    have := hs.wi.ownI u τ0 q r hq hr e
    rw [this, hb0] at hu; cases hu
  refine ⟨hs.slots.map fun v x hv => RelV.clean (g := g) (g' := g') (fun _ _ h => h) (fun _ _ => rfl) hO hv, hs.defers, ⟨?_, ?_, hs1.wi.inj, hs1.wi.boxM, ?_, ?_, ?_, ?_⟩, ?_⟩
  · intro ad v ha
    rw [cell_eq (hw _ (hM ad v ha))]; exact hs.wi.mem ad v ha
  · intro j ds hj
    obtain ⟨d0, hj0, rfl⟩ := hbx j ds hj
    obtain ⟨zs, u, h1, h2, hT⟩ := hs.wi.box j d0 hj0
    exact ⟨zs, u, by rw [hw _ (fun e => hs.wi.ownB τ0 r j d0 hr hj0 e.symm)]; exact h1, h2.map fun c y hc => RelC.clean (g := g) (g' := g') (fun _ _ h => h) (fun _ _ => rfl) hO hc, hT.mapf clean_typ⟩
  · intro u q hu
    rcases inv u q hu with ⟨_, rfl⟩ | ⟨_, hbu, hu⟩
    · exact ⟨cur', hb, hsz, hn, hcm, fun ad v ha e => absurd e (hM ad v ha)⟩
    obtain ⟨cur, h1, h2⟩ := hs.wi.own u q hu
    exact ⟨cur, by rw [hw _ (hne u q hbu hu)]; exact h1, h2⟩
  · intro u q j ds hu hj
    obtain ⟨d0, hj0, _⟩ := hbx j ds hj
    rcases inv u q hu with ⟨_, rfl⟩ | ⟨_, hbu, hu⟩
    · exact hs.wi.ownB τ0 r j d0 hr hj0
    exact hs.wi.ownB u q j d0 hu hj0
  · intro u u' q q' h1 h2 e
    rcases inv u q h1 with ⟨e1, rfl⟩ | ⟨_, b1, h1⟩ <;> rcases inv u' q' h2 with ⟨e2, rfl⟩ | ⟨_, b2, h2⟩
    · rw [e1, e2]
    · exact absurd e.symm (hne u' q' b2 h2)
    · exact absurd e (hne u q b1 h1)
    exact hs.wi.ownI u u' q q' h1 h2 e
  · intro u q hu
    rcases inv u q hu with ⟨_, rfl⟩ | ⟨_, hbu, hu⟩
    · intro ds hd'
      cases hd'
      refine ⟨hM, hl, fun cur hc' => ?_⟩
      have hc' : w'.heap[r.blk]? = some (.cells cur r.e (0, 0)) := hc'
      rw [hb] at hc'
      cases hc'
      exact hd
    exact (hs.wi.muta u q hu).same (hw _ (hne u q hbu hu))
  have hc := hs1.cum
  have hf := hs.cum.foot _ (.inr ⟨τ0, r, hr, rfl⟩)
  refine ⟨ho.trans hc.os, ht.trans hc.tape, hp.trans hc.output, by rw [hz]; exact hc.size, ?_, ?_, hc.mem, hc.memN, hc.argB⟩
  · intro k hk hF
    rw [hw]
    · exact hc.unch k hk hF
    rintro rfl
    rcases hf with h | h
    · exact hF h
    omega
  rintro k (⟨j, ds, hj, rfl⟩ | ⟨u, q, hu, rfl⟩)
  · exact hc.foot _ (.inl ⟨j, ds, hj, rfl⟩)
  rcases inv u q hu with ⟨_, rfl⟩ | ⟨_, hbu, hu⟩
  · exact hf
  exact hs.cum.foot _ (.inr ⟨u, q, hu, rfl⟩)
theorem sound_appendK {t ty : TypeId} {sv x : V} {u y : Value} {d : Nat} {K : V → St → Prop} (hs : Sim E g s a w) (hsv : RelV g sv u) (hx : RelV g x y) (h : aAppendK P t sv x d s K) :
    ∃ r s' g' w' z, K r s' ∧ RelV g' r z ∧ Sim E g' s' a w' ∧ (Builtin.append_ #[t, t] ty #[u, y]).run P w = .ok z w' := by
  unfold aAppendK at h
  split at h
  · rename_i τ sz xs
    obtain ⟨e, sz2, z, b, ht, h0, hz, hzl, hby, hb0, rfl, h⟩ := h
    obtain ⟨hu, hsz⟩ := idxT_slc ht
    obtain ⟨ie, zv, hie, hzv, rfl⟩ := zeroC_spec hz
    obtain ⟨ie', hie', hbs⟩ := bytesT_spec hby
    rw [hie] at hie'
    cases hie'
    have hies : ie.size = sz := by simpa [sizeT, hie] using hsz
    have hzs : zv.cells.size = sz := by simpa using hzl
    obtain ⟨ds, ⟨hbytes, hK⟩, A, m, c, us, hsrc⟩ := src_at h0 hs hx h
    have R := SrcRun.ofAt (ty := ty) hsrc h0 hu hie hzv hies
    have hlen := hsrc.len
    have hrel := hsrc.rel
    have hdl : ds.length = m * sz := by rw [hrel.length]; exact hlen
    let bt := killT (.tag τ) d
    have hbτ : bt (.slot [d]) = true := by simp [bt, killT, rootT]
    have hbτ0 : bt τ = true := by simp [bt, killT]
    let g1 : Gh := ⟨g.M, g.B, fun t => if bt t then none else g.O t⟩
    have hs1 : Sim E g1 (s.clean (fun _ => false) bt) a w := hs.clean rfl (fun _ _ => rfl) (fun _ => rfl) (fun _ => rfl)
    -- laid anew
    have anew : ∀ bs n cap (olds : List Value), u = .slice bs n cap → n ≤ cap → olds.length = n * sz → xs.length = n * sz → All2 (RelD g.M) xs olds → (bs = none → n = 0 ∧ cap = 0) → (∀ q, bs = some q → ∀ j v, olds[j]? = some v → w.cell? (q.add j) = some v) → cap < n + m →
        ∃ r s' g' w' z, K r s' ∧ RelV g' r z ∧ Sim E g' s' a w' ∧ (Builtin.append_ #[t, t] ty #[u, y]).run P w = .ok z w' := by
      rintro bs n cap olds rfl hnc hol hxl horel hnone hosome hgr
      have hm0 : 0 < m := by omega
      have htot : (n + m) * b ≤ 140737488355328 := by
        have : (xs.length + ds.length) / sz = n + m := by rw [hxl, hdl, ← Nat.add_mul]; exact Nat.mul_div_cancel _ h0
        rw [this] at hbytes; exact hbytes
      have hnm : n + m ≤ 140737488355328 := mul_le_pos hb0 htot
      have hge := grownCap_ge w (n + m) cap e
      have hcm' : grownCap w (n + m) cap e ≤ maxLen := grownCap_le_maxLen w (n + m) cap e (by simp only [maxLen]; omega)
      have hrun := R.grow hm0 bs n cap olds (by rw [hol, hies]) hnone hosome hgr (by omega) (growslice_fits hgr (by rw [hbs]; exact htot))
      let ys : Array Value := olds.toArray ++ us.toArray ++ Builtin.zeroCells zv.cells (grownCap w (n + m) cap e - (n + m))
      have hys : ys.size = grownCap w (n + m) cap e * sz := by
        simp only [ys, Array.size_append, List.size_toArray, size_zeroCells, hzs, hol, hlen, ← Nat.add_mul]
        congr 1; omega
      have hxd : (xs ++ ds).length = (n + m) * sz := by rw [List.length_append, hxl, hdl, Nat.add_mul]
      have hyt : ys.toList.take (xs ++ ds).length = olds ++ us := by
        simp only [ys, Array.toList_append]
        have : (olds ++ us).length = (xs ++ ds).length := by rw [hxd, List.length_append, hol, hlen, Nat.add_mul]
        rw [← this]
        exact List.take_left
      have hs2 := hs1.addStk (Grow1.allocDrew w ys e) (τ := .slot [d]) (n := n + m) (c := grownCap w (n + m) cap e) (sz := sz) (ds := xs ++ ds) (by simp [g1, hbτ]) hys hge hcm' hxd (by rw [hyt]; exact horel.append hrel)
      exact ⟨_, _, _, _, _, hK, ⟨h0, .inr ⟨_, if_pos rfl, rfl, rfl, hxd, rfl⟩⟩, hs2, hrun⟩
    obtain ⟨_, hsv⟩ := hsv
    rcases hsv with ⟨rfl, rfl⟩ | ⟨r, hr, hrs, hrd, _, rfl⟩
    · rcases Nat.eq_zero_or_pos m with hm | hm
      · subst hm
        obtain rfl : ds = [] := List.eq_nil_of_length_eq_zero (by simpa using hdl)
        exact ⟨_, _, g1, w, _, hK, ⟨h0, .inl ⟨rfl, rfl⟩⟩, hs1, R.none rfl _ _ _ (Nat.le_refl _)⟩
      exact anew none 0 0 [] rfl (Nat.le_refl _) (by simp) (by simp) .nil (fun _ => ⟨rfl, rfl⟩) (fun q hq => by cases hq) (by omega)
    obtain ⟨cur, hb, hcs, hnc, hcm, _⟩ := hs.wi.own τ r hr
    obtain ⟨hMn, hxl, hcur⟩ := hs.wi.muta τ r hr xs hrd
    have hcd := hcur cur hb
    subst hrs
    have hfit : r.n * r.sz ≤ cur.size := by rw [hcs]; exact Nat.mul_le_mul_right _ hnc
    have hcell : ∀ j v, (cur.toList.take xs.length)[j]? = some v → w.cell? ((⟨r.blk, 0, none⟩ : Addr).add j) = some v := by
      intro j v hj
      rw [add_mk, Nat.zero_add, cell_row hb, ← Array.getElem?_toList]
      rw [List.getElem?_take] at hj
      split at hj
      · exact hj
      cases hj
    by_cases hroom : r.n + m ≤ r.c
    · have hfit2 : r.n * r.sz + us.length ≤ cur.size := by rw [hlen, hcs, ← Nat.add_mul]; exact Nat.mul_le_mul_right _ hroom
      let cur' : Array Value := (cur.toList.take (r.n * r.sz) ++ us ++ cur.toList.drop (r.n * r.sz + us.length)).toArray
      have hrun : (Builtin.append_ #[t, t] ty #[.slice (some ⟨r.blk, 0, none⟩) r.n r.c, y]).run P w = .ok (.slice (some ⟨r.blk, 0, none⟩) (r.n + m) r.c) (w.setRow r.blk cur') := by
        rcases Nat.eq_zero_or_pos m with hm | hm
        · subst hm
          obtain rfl : us = [] := List.eq_nil_of_length_eq_zero (by simpa using hlen)
          rw [R.none rfl _ _ _ hnc]
          simp only [cur', List.append_nil, List.length_nil, Nat.add_zero, List.take_append_drop, Array.toArray_toList]
          rw [setRow_self w r.blk cur r.e (0, 0) hb]
        have := R.room hm r.blk r.n r.c cur r.e hb hroom (by rw [hies]; exact hfit2)
        rw [hies] at this
        exact this
      have hxd : (xs ++ ds).length = (r.n + m) * r.sz := by rw [List.length_append, hxl, hdl, Nat.add_mul]
      have htk : cur'.toList.take (xs ++ ds).length = cur.toList.take xs.length ++ us := by
        simp only [cur']
        have : (cur.toList.take (r.n * r.sz) ++ us).length = (xs ++ ds).length := by
          rw [hxd, List.length_append, List.length_take, Array.length_toList, Nat.min_eq_left hfit, hlen, Nat.add_mul]
        rw [← this, hxl]
        exact List.take_left
      have hs2 := hs.restk (w' := w.setRow r.blk cur') hr hrd hbτ0 hbτ (cur' := cur') (n' := r.n + m) (ds' := xs ++ ds) (setRow_heap w _ cur _ _ _ hb)
        (by simp only [cur', List.size_toArray, List.length_append, List.length_take, List.length_drop, Array.length_toList]; omega) hroom hxd (by rw [htk]; exact hcd.append hrel) (fun k hk => setRow_other w _ k _ hk) rfl rfl rfl (by simp)
      exact ⟨_, _, _, _, _, hK, ⟨h0, .inr ⟨⟨r.blk, r.n + m, r.c, r.sz, r.e, some (xs ++ ds)⟩, if_pos rfl, rfl, rfl, hxd, rfl⟩⟩, hs2, hrun⟩
    exact anew (some ⟨r.blk, 0, none⟩) r.n r.c (cur.toList.take xs.length) rfl hnc (by rw [List.length_take]; simp only [Array.length_toList]; omega) hxl hcd (fun h => by cases h) (fun q hq => by cases hq; exact hcell) (by omega)
  exact h.elim
/-- the row is cut short -/
theorem sound_sliceK {t : TypeId} {τ : Tag} {sz : Nat} {xs : List D} {hi : Int} {k : IntKind} {d : Nat} {u : Value} {K : V → St → Prop} (hs : Sim E g s a w) (hsv : RelV g (.cell (.stk τ sz xs)) u) (h : aSliceK P t τ sz xs hi d s K) :
    ∃ r s' g', K r s' ∧ ∃ z, RelV g' r z ∧ Sim E g' s' a w ∧ (Instr.sliceAt t u none (some (.int k hi)) none).run P w = .ok z w := by
  obtain ⟨e, ht, h0, h1, hK⟩ := h
  obtain ⟨hu, hsz⟩ := idxT_slc ht
  obtain ⟨b, rfl⟩ := Int.eq_ofNat_of_zero_le h0
  simp only [Int.toNat_natCast] at h1 hK
  let bt := killT (.tag τ) d
  have hbτ : bt (.slot [d]) = true := by simp [bt, killT, rootT]
  have hbτ0 : bt τ = true := by simp [bt, killT]
  obtain ⟨hp, hsv⟩ := hsv
  rcases hsv with ⟨rfl, rfl⟩ | ⟨r, hr, hrs, hrd, _, rfl⟩
  · have hb0 : b = 0 := by
      rcases Nat.eq_zero_or_pos b with h | h
      · exact h
      have := Nat.mul_pos h hp; simp at h1; omega
    subst hb0
    refine ⟨_, _, _, hK, .slice none 0 0, ⟨hp, .inl ⟨by simp, rfl⟩⟩, hs.clean (g' := ⟨g.M, g.B, fun t => if bt t then none else g.O t⟩) rfl (fun _ _ => rfl) (fun _ => rfl) (fun _ => rfl), ?_⟩
    simp [Instr.sliceAt, Instr.slice, run_underlying hu, Instr.sliceBounds, Instr.sliceBound, asIntOf, run_sizeOf hsz]
  obtain ⟨cur, hb, hcs, hnc, hcm, _⟩ := hs.wi.own τ r hr
  obtain ⟨hMn, hxl, hcur⟩ := hs.wi.muta τ r hr xs hrd
  have hcd := hcur cur hb
  subst hrs
  have hbn : b ≤ r.n := by rw [hxl] at h1; exact Nat.le_of_mul_le_mul_right h1 hp
  have hbc : b ≤ r.c := Nat.le_trans hbn hnc
  have hl : (xs.take (b * r.sz)).length = b * r.sz := by rw [List.length_take]; omega
  have hs2 := hs.restk (w' := w) hr hrd hbτ0 hbτ (cur' := cur) (n' := b) (ds' := xs.take (b * r.sz)) hb hcs hbc hl (by
    have := hcd.take (b * r.sz)
    rw [List.take_take, Nat.min_eq_left h1] at this
    rw [hl]; exact this) (fun _ _ => rfl) rfl rfl rfl rfl
  refine ⟨_, _, _, hK, .slice (some ⟨r.blk, 0, none⟩) b r.c, ⟨hp, .inr ⟨⟨r.blk, b, r.c, r.sz, r.e, some (xs.take (b * r.sz))⟩, if_pos rfl, rfl, rfl, hl, rfl⟩⟩, hs2, ?_⟩
  simp [Instr.sliceAt, Instr.slice, run_underlying hu, Instr.sliceBounds, Instr.sliceBound, asIntOf, run_sizeOf hsz, hbc, add_zero_]
/-- a cell of the row is read -/
theorem sound_loadK {t : TypeId} {τ : Tag} {off sz : Nat} {xs : List D} {u : Value} {K : V → Prop} (hw : WI g s.heap w) (hx : RelV g (.cell (.sptr τ off sz xs)) u) (h : ∃ z, sizeT P t = some z ∧ aPart P t z (xs.map D.toC) off K) :
    ∃ r z, K r ∧ RelV g r z ∧ ∀ w' : World, w'.heap = w.heap → (Instr.loadAt t u).run P w' = .ok z w' := by
  obtain ⟨z, hz, h⟩ := h
  obtain ⟨r, hr, rfl, hrd, rfl⟩ := hx
  obtain ⟨cur, hb, hcs, hnc, hcm, _⟩ := hw.own τ r hr
  obtain ⟨hMn, hxl, hcur⟩ := hw.muta τ r hr xs hrd
  have hr : All2 (RelC g) (xs.map D.toC) (cur.toList.take xs.length) := (hcur cur hb).map fun _ _ h => D.toC_rel h
  have hcell : ∀ w' : World, w'.heap = w.heap → ∀ j v, (cur.toList.take xs.length)[j]? = some v → w'.cell? ⟨r.blk, j, none⟩ = some v := fun w' hw' j v hj => by
    rw [cell_row (w := w') (by rw [hw']; exact hb), ← Array.getElem?_toList]
    rw [List.getElem?_take] at hj
    split at hj
    · exact hj
    cases hj
  unfold aPart at h
  split at h
  · rename_i ha
    obtain ⟨hl, h⟩ := h
    have hlen := hr.length
    refine ⟨_, .agg (((cur.toList.take xs.length).drop off).take z).toArray, h, ⟨_, rfl, (hr.drop off).take z⟩, fun w' hw' => ?_⟩
    have hl2 := run_loadCells_list (P := P) w' ⟨r.blk, off, none⟩ (((cur.toList.take xs.length).drop off).take z) (fun j v hj => by
      rw [add_mk]
      rw [List.getElem?_take] at hj
      split at hj
      · rw [List.getElem?_drop] at hj; exact hcell w' hw' _ _ hj
      cases hj)
    rw [show (((cur.toList.take xs.length).drop off).take z).length = z by rw [List.length_take, List.length_drop, ← hlen]; omega] at hl2
    simp [Instr.loadAt, Instr.sureAddr, loadVar, run_isAgg ha, run_sizeOf hz, hl2]
  · rename_i ha
    obtain ⟨c, hc1, h⟩ := h
    obtain ⟨v, hv, hv2⟩ := hr.get hc1
    exact ⟨_, v, h, hv2, fun w' hw' => by simp [Instr.loadAt, Instr.sureAddr, loadVar, run_isAgg ha, load, Sem.run, hcell w' hw' _ _ hv]⟩
  exact h.elim
end
end
section
section
variable {P : Program} {E : Entry} {g : Gh} {w : World} {s : St} {a : Act}
theorem all2_toC {g : Gh} {ds : List D} {us : List Value} (h : All2 (RelD g.M) ds us) : All2 (RelC g) (ds.map D.toC) us := h.map fun _ _ h => D.toC_rel h
theorem all2_undef {g : Gh} : ∀ (us : List Value) {n : Nat}, us.length = n → All2 (RelC g) (List.replicate n .undef) us
  | [], n, h => by subst h; exact .nil
  | u :: us, n, h => by subst h; exact .cons trivial (all2_undef us rfl)
theorem us_one {g : Gh} {ds : List D} {us : List Value} (h : All2 (RelD g.M) ds us) : ∀ q ∈ us, q.oneCell' = true := by
  induction h with
  | nil => intro q hq; cases hq
  | cons h _ ih =>
    intro q hq
    rcases List.mem_cons.1 hq with rfl | hq
    · exact h.one
    exact ih q hq
theorem sound_appendB {t ty : TypeId} {sv x : V} {u y : Value} {d : Nat} {K : V → St → Prop} (hs : Sim E g s a w) (hsv : RelV g sv u) (hx : RelV g x y) (h : aAppendB P t sv x d s K) :
    ∃ r s' g' w' z, K r s' ∧ RelV g' r z ∧ Sim E g' s' a w' ∧ (Builtin.append_ #[t, t] ty #[u, y]).run P w = .ok z w' := by
  unfold aAppendB at h
  split at h
  · rename_i nl sz' xs
    obtain ⟨e, sz, z, b, ht, h0, hz, hzl, hby, hb0, hsz', h⟩ := h
    obtain ⟨hu, hsz⟩ := idxT_slc ht
    obtain ⟨ie, zv, hie, hzv, rfl⟩ := zeroC_spec hz
    obtain ⟨ie', hie', hbs⟩ := bytesT_spec hby
    rw [hie] at hie'
    cases hie'
    have hies : ie.size = sz := by simpa [sizeT, hie] using hsz
    have hzs : zv.cells.size = sz := by simpa using hzl
    obtain ⟨ds, ⟨hbytes, hK0, hK1⟩, A, m, c, us, hsrc⟩ := src_at h0 hs hx h
    obtain rfl := hsrc.form
    have hdl : ds.length = m * sz := by rw [hsrc.rel.length]; exact hsrc.len
    have hf : RelF u := hsv.2
    obtain ⟨hp, h2⟩ := RelD.lst_inv hsv.1
    have hn0 : ∀ n : Nat, n * sz' = xs.length → n * sz = xs.length := by
      intro n hl
      rcases hsz' with rfl | rfl
      · exact hl
      have : n = 0 := by
        rcases Nat.eq_zero_or_pos n with h | h
        · exact h
        have := Nat.mul_pos h hp; simp at hl; omega
      subst this; simp
    have hform : ∃ bs n, u = .slice bs n n ∧ n * sz = xs.length ∧ n ≤ maxLen ∧ (bs = none → n = 0 ∧ xs = [] ∧ nl ≠ some false) ∧ ∃ olds, olds.length = n * sz ∧ All2 (RelD g.M) xs olds ∧ ∀ q, bs = some q → nl ≠ some true ∧ RelM g.M q xs ∧ ∀ j v, olds[j]? = some v → g.M (q.add j) = some v := by
      rcases h2 with ⟨rfl, rfl, h3⟩ | ⟨q, n, cap, rfl, h3, hl, hc, hm, hM⟩
      · exact ⟨none, 0, rfl, by simp, Nat.zero_le _, fun _ => ⟨rfl, rfl, h3⟩, [], by simp, .nil, fun q hq => by cases hq⟩
      obtain rfl : n = cap := hf _ _ _ rfl
      obtain ⟨olds, h4, h5⟩ := relM_list hM
      exact ⟨some q, n, rfl, hn0 n hl, hm, fun e => (by cases e), olds, by rw [hn0 n hl, h4.length], h4, fun q' hq => by cases hq; exact ⟨h3, hM, h5⟩⟩
    obtain ⟨bs, n, rfl, hnx, hcm, hnone, olds, hol, horel, hosome⟩ := hform
    have hnm' : (xs.length + ds.length) / sz = n + m := by rw [← hnx, hdl, ← Nat.add_mul]; exact Nat.mul_div_cancel _ h0
    have htot : (n + m) * b ≤ 140737488355328 := by rw [hnm'] at hbytes; exact hbytes
    have hnm : n + m ≤ 140737488355328 := mul_le_pos hb0 htot
    rcases Nat.eq_zero_or_pos m with hm0 | hm0
    · subst hm0
      obtain rfl : ds = [] := List.eq_nil_of_length_eq_zero (by simpa using hdl)
      refine ⟨_, _, g, w, _, hK0 rfl, ⟨?_, hf⟩, hs, run_append_none t ty e ie hu hie bs n n (Nat.le_refl _) A c⟩
      cases bs with
      | none =>
        obtain ⟨rfl, rfl, h3⟩ := hnone rfl
        exact RelD.nil h3 h0
      | some q => exact RelD.mk (hosome q rfl).1 h0 hnx (Nat.le_refl _) hcm (hosome q rfl).2.1
    have hul : 0 < us.length := by rw [hsrc.len]; exact Nat.mul_pos hm0 h0
    obtain ⟨ad, rfl, hcell⟩ := hsrc.cells hul
    have hge := grownCap_ge w (n + m) n e
    have hcm' : grownCap w (n + m) n e ≤ maxLen := grownCap_le_maxLen w (n + m) n e (by simp only [maxLen]; omega)
    have hrun : (Builtin.append_ #[t, t] ty #[.slice bs n n, .slice (some ad) m c]).run P w = .ok (.slice (some ⟨w.heap.size, 0, none⟩) (n + m) (grownCap w (n + m) n e)) (w.drew.alloc (.cells (olds.toArray ++ us.toArray ++ Builtin.zeroCells zv.cells (grownCap w (n + m) n e - (n + m))) e)) := by
      cases bs with
      | none =>
        obtain ⟨rfl, rfl, _⟩ := hnone rfl
        obtain rfl : olds = [] := List.eq_nil_of_length_eq_zero (by simpa using hol)
        have := run_append_nil (P := P) w t ty e ie zv hu hie hzv ad m c us (by rw [hsrc.len, hies]) hcell hm0 (by omega) (by rw [hbs]; simp at htot; omega)
        simpa using this
      | some q =>
        exact run_append_grow (P := P) w t ty e ie zv hu hie hzv q n n olds (by rw [hol, hies]) (fun j v hj => hs.wi.mem _ _ ((hosome q rfl).2.2 j v hj)) ad m c us (by rw [hsrc.len, hies]) hcell (by omega) (by omega) (growslice_fits (by omega) (by rw [hbs]; exact htot))
    have hds : ds ≠ [] := by rintro rfl; simp at hdl; have := Nat.mul_pos hm0 h0; omega
    have hK := hK1 hds (grownCap w (n + m) n e) (by rw [hnm']; exact hge) hcm'
    let ys : Array Value := olds.toArray ++ us.toArray ++ Builtin.zeroCells zv.cells (grownCap w (n + m) n e - (n + m))
    obtain ⟨r, s', g', hKK, hr, hs', hBd⟩ := sound_new (t := e) hs (ys := ys) (by
      simp only [ys, Array.toList_append]
      refine (all2_toC (horel.append hsrc.rel)).append (all2_undef _ ?_)
      simp only [Array.length_toList, size_zeroCells, hzs, ← hnx, hdl, ← Nat.add_mul, ← Nat.sub_mul]) (Grow1.allocDrew w ys e) hK
    rw [hnm'] at hKK
    refine ⟨_, s', g', _, _, hKK, ?_, hs', hrun⟩
    show _ = Value.slice (some ⟨g'.B (.loc [d]), 0, none⟩) (n + m) _
    rw [hBd]
  · rename_i i off n cp
    obtain ⟨e, sz, z, b, cs, ht, h0, hz, hzl, hby, hb0, rfl, hnc, hcm, hi, hfit, h⟩ := h
    obtain rfl := hsv
    obtain ⟨hu, hsz⟩ := idxT_slc ht
    obtain ⟨ie, zv, hie, hzv, rfl⟩ := zeroC_spec hz
    obtain ⟨ie', hie', hbs⟩ := bytesT_spec hby
    rw [hie] at hie'
    cases hie'
    have hies : ie.size = sz := by simpa [sizeT, hie] using hsz
    have hzs : zv.cells.size = sz := by simpa using hzl
    obtain ⟨ds, ⟨hbytes, hK0, hK1⟩, A, m, c, us, hsrc⟩ := src_at h0 hs hx h
    obtain rfl := hsrc.form
    have hdl : ds.length = m * sz := by rw [hsrc.rel.length]; exact hsrc.len
    have hdm : ds.length / sz = m := by rw [hdl]; exact Nat.mul_div_cancel _ h0
    rw [hdm] at hbytes hK0 hK1
    have hnm : n + m ≤ 140737488355328 := mul_le_pos hb0 hbytes
    obtain ⟨ys, tb, hb, hr, _⟩ := hs.wi.box i cs hi
    have hlen := hr.length
    simp only [Array.length_toList] at hlen
    have hncs : n * sz ≤ cp * sz := Nat.mul_le_mul_right _ hnc
    by_cases hroom : n + m ≤ cp
    · have hfit2 : n * sz + us.length ≤ ys.size := by
        rw [hsrc.len, ← Nat.add_mul]
        have : (n + m) * sz ≤ cp * sz := Nat.mul_le_mul_right _ hroom
        omega
      have hrun : (Builtin.append_ #[t, t] ty #[.slice (some ⟨g.B i, 0, none⟩) n cp, .slice A m c]).run P w = .ok (.slice (some ⟨g.B i, 0, none⟩) (n + m) cp) (w.setRow (g.B i) (spl ys.toList (n * sz) us).toArray) := by
        rw [spl_eq (by simpa using hfit2)]
        rcases Nat.eq_zero_or_pos m with hm | hm
        · subst hm
          obtain rfl : us = [] := List.eq_nil_of_length_eq_zero (by simpa using hsrc.len)
          rw [run_append_none t ty e ie hu hie _ _ _ hnc A c]
          simp only [List.append_nil, List.length_nil, Nat.add_zero, List.take_append_drop, Array.toArray_toList]
          rw [setRow_self w (g.B i) ys tb (0, 0) hb]
        have hul : 0 < us.length := by rw [hsrc.len]; exact Nat.mul_pos hm h0
        obtain ⟨ad, rfl, hcell⟩ := hsrc.cells hul
        have := run_append_room_any (P := P) (w := w) t ty e tb ie hu hie (g.B i) n cp ys hb ad m c us (by rw [hsrc.len, hies]) hcell (us_one hsrc.rel) hroom (by rw [hies]; exact hfit2)
        rw [hies] at this
        exact this
      refine ⟨_, _, g, _, _, hK0 hroom, rfl, hs.setBox (w' := w.setRow (g.B i) (spl ys.toList (n * sz) us).toArray) (ys' := (spl ys.toList (n * sz) us).toArray) hi ?_ (fun k hk => setRow_other w _ k _ hk) ⟨ys, tb, hb, setRow_heap w _ ys _ tb _ hb⟩ (fun t ht => ht.spl (no_typD _)) rfl rfl rfl (by simp), hrun⟩
      exact spl_rel hr (all2_toC hsrc.rel)
    have hm0 : 0 < m := by omega
    have hul : 0 < us.length := by rw [hsrc.len]; exact Nat.mul_pos hm0 h0
    obtain ⟨ad, rfl, hcell⟩ := hsrc.cells hul
    have hge := grownCap_ge w (n + m) cp e
    have hcm' : grownCap w (n + m) cp e ≤ maxLen := grownCap_le_maxLen w (n + m) cp e (by simp only [maxLen]; omega)
    have hol : (ys.toList.take (n * sz)).length = n * sz := by simp; omega
    have hrun := run_append_grow (P := P) (ty := ty) w t e ie zv hu hie hzv ⟨g.B i, 0, none⟩ n cp (ys.toList.take (n * sz)) (by rw [hol, hies]) (fun j v hj => by
      rw [add_mk, Nat.zero_add, cell_row hb, ← Array.getElem?_toList]
      rw [List.getElem?_take] at hj
      split at hj
      · exact hj
      cases hj) ad m c us (by rw [hsrc.len, hies]) hcell (by omega) (by omega) (growslice_fits (by omega) (by rw [hbs]; exact hbytes))
    have hK := hK1 (by omega) (grownCap w (n + m) cp e) hge hcm'
    let zs : Array Value := (ys.toList.take (n * sz)).toArray ++ us.toArray ++ Builtin.zeroCells zv.cells (grownCap w (n + m) cp e - (n + m))
    obtain ⟨r, s', g', hKK, hr', hs', hBd⟩ := sound_new (t := e) hs (ys := zs) (by
      simp only [zs, Array.toList_append]
      refine ((hr.take _).append (all2_toC hsrc.rel)).append (all2_undef _ ?_)
      simp only [Array.length_toList, size_zeroCells, hzs, hdl, ← Nat.add_mul, ← Nat.sub_mul]) (Grow1.allocDrew w zs e) hK
    refine ⟨_, s', g', _, _, hKK, ?_, hs', hrun⟩
    show _ = Value.slice (some ⟨g'.B (.loc [d]), 0, none⟩) (n + m) _
    rw [hBd]
  exact h.elim
theorem sound_appX0 {t ty : TypeId} {sv x : V} {u y : Value} {d : Nat} {K : V → St → Prop} (hs : Sim E g s a w) (hsv : RelV g sv u) (hx : RelV g x y) (h : aAppX P t sv x d s K) :
    ∃ r s' g' w' z, K r s' ∧ RelV g' r z ∧ Sim E g' s' a w' ∧ (Builtin.append_ #[t, t] ty #[u, y]).run P w = .ok z w' := by
  rcases h with h | h | h | h
  · exact sound_append hs hsv hx h
  · exact sound_appendB hs hsv hx h
  · exact sound_appendS hs hsv hx h
  exact sound_appendK hs hsv hx h
theorem sound_appX {t t' ty : TypeId} {sv x : V} {u y : Value} {d : Nat} {K : V → St → Prop} (hs : Sim E g s a w) (hsv : RelV g sv u) (hx : RelV g x y) (h : aAppT P t t' sv x d s K) :
    ∃ r s' g' w' z, K r s' ∧ RelV g' r z ∧ Sim E g' s' a w' ∧ (Builtin.append_ #[t, t'] ty #[u, y]).run P w = .ok z w' := by
  unfold aAppT at h
  split at h
  · rename_i e; subst e; exact sound_appX0 hs hsv hx h
  exact sound_appN hs hsv hx h
end
end
section
def strB (bs : List UInt8) : ByteArray := ⟨bs.toArray⟩
def aConvL (P : Program) (t t' : TypeId) (o : Own) (nl : Option Bool) (sz : Nat) (xs : List D) (s : St) (K : V → St → Prop) : Prop :=
  isSlcT P t = true ∧ ∃ e, idxT P t = some (none, e, 1) ∧ kindT P e = some .u8 ∧ sz = 1 ∧
  ((isStrT P t' = true ∧ ∃ bs : List UInt8, xs = bs.map (fun b => .val (.int .u8 b.toNat)) ∧ K (.val (.string (strB bs))) s) ∨
   (t' = t ∧ ∃ p, o = .tag (.made p) ∧ K (.cell (.lst .no nl sz xs)) (s.clean (fun _ => false) (fun u => u == .made p))))
/-- bytes of a box as a string -/
def aConvR (P : Program) (t t' : TypeId) (i : Id) (off n : Nat) (s : St) (K : V → St → Prop) : Prop :=
  isSlcT P t = true ∧ (∃ e, idxT P t = some (none, e, 1) ∧ kindT P e = some .u8) ∧ isStrT P t' = true ∧
  ∃ cs, hget s.heap i = some cs ∧ ∃ bs : List UInt8, off + n ≤ cs.length ∧ (cs.drop off).take n = bs.map (fun b => C.val (.int .u8 b.toNat)) ∧ K (.val (.string (strB bs))) s
/-- a string as a string of another type, or as bytes -/
def aConvT (q : Option Bool) (P : Program) (t t' : TypeId) (b : ByteArray) (s : St) (K : V → St → Prop) : Prop :=
  match q with
  | some true => isStrT P t = true ∧ b.size ≤ 140737488355328 ∧ K (.cell (.lst .no (some false) 1 (b.data.toList.map fun c => .val (.int .u8 c.toNat)))) s
  | _ => aConv P t t' (V.val (.string b)) fun v => K v s
def aConvS (P : Program) (t t' : TypeId) (x : V) (s : St) (K : V → St → Prop) : Prop :=
  match x with
  | .w (.c (.lst o nl sz xs)) => aConvL P t t' o nl sz xs s K
  | .w (.c (.row i off n _)) => aConvR P t t' i off n s K
  | .w (.c (.val (.string b))) => aConvT (sbT P t') P t t' b s K
  | x => aConv P t t' x fun v => K v s

section
variable {P : Program} {E : Entry} {g : Gh} {w : World} {s : St} {a : Act}
theorem kindT_und {e : TypeId} {k : IntKind} (h : kindT P e = some k) : P.underlying e = some (.int k) := by
  unfold kindT at h
  split at h
  · rename_i k' hu; cases h; exact hu
  cases h
theorem isStrT_und {t : TypeId} (h : isStrT P t = true) : P.underlying t = some .string := by
  unfold isStrT at h
  split at h
  · rename_i hu; exact hu
  cases h
theorem foldl_push_b (m : List UInt8) : ∀ (b : ByteArray), (m.map (fun c => (c.toNat : Int))).foldl (fun r n => r.push (UInt8.ofNat n.toNat)) b = ⟨b.data ++ m.toArray⟩ := by
  induction m with
  | nil => intro b; simp
  | cons c m ih =>
    intro b
    rw [List.map_cons, List.foldl_cons, ih]
    simp [ByteArray.push]
theorem freeze_heap (w : World) (k off n : Nat) (j : Nat) (hj : j ≠ k) : (w.freeze ⟨k, off, none⟩ n).heap[j]? = w.heap[j]? := by
  unfold World.freeze
  split
  · rfl
  show (w.heap.modify k _)[j]? = _
  rw [Array.getElem?_modify, if_neg (Ne.symm hj)]
theorem freeze_same (w : World) (k off n : Nat) (hn : n ≠ 0) {cs : Array Value} {e : TypeId} (hb : w.heap[k]? = some (.cells cs e (0, 0))) : ∃ m, (w.freeze ⟨k, off, none⟩ n).heap[k]? = some (.cells cs e m) := by
  unfold World.freeze
  rw [if_neg (by simp [hn])]
  refine ⟨(off, off + n), ?_⟩
  show (w.heap.modify k _)[k]? = _
  rw [Array.getElem?_modify, if_pos rfl, hb]
  rfl
/-- memory that is read from now on: a block that is new, and nobody's -/
theorem Sim.addMem {w' : World} {ys : Array Value} {t : TypeId} {fr : Nat × Nat} (hs : Sim E g s a w) (ho : w'.os = w.os) (ht : w'.tape = w.tape) (hp : w'.output = w.output) (hz : w'.heap.size = w.heap.size + 1)
    (hold : ∀ k, k < w.heap.size → w'.heap[k]? = w.heap[k]?) (hnew : w'.heap[w.heap.size]? = some (.cells ys t fr)) (n : Nat) : Sim E ⟨addM g.M w.heap.size (ys.toList.take n), g.B, g.O⟩ s a w' := by
  have hO : ∀ a v, g.M a = some v → a.block = w.heap.size → a.off < (ys.toList.take n).length → (ys.toList.take n)[a.off]? = some v := fun a v ha e => by
    have := hs.wi.mem_lt ha; omega
  have hMm : ∀ a v, g.M a = some v → addM g.M w.heap.size (ys.toList.take n) a = some v := fun a v ha => addM_old hO ha
  have lt : ∀ j ds, hget s.heap j = some ds → g.B j < w.heap.size := fun j ds hj => by obtain ⟨_, _, h1, _⟩ := hs.wi.box j ds hj; exact block_lt h1
  have lO : ∀ u r, g.O u = some r → r.blk < w.heap.size := fun u r hu => by obtain ⟨_, h1, _⟩ := hs.wi.own u r hu; exact block_lt h1
  refine ⟨hs.slots.mono fun _ _ h => RelV.grow (g := g) (g' := ⟨addM g.M w.heap.size (ys.toList.take n), g.B, g.O⟩) hMm (fun _ => rfl) (fun _ => rfl) h, hs.defers, ⟨?_, ?_, hs.wi.inj, ?_, ?_, hs.wi.ownB, hs.wi.ownI, ?_⟩, hs.cum.trans ⟨ho, ht, hp, by show w.heap.size ≤ _; omega, fun k hk _ => hold k hk, fun k hk => .inl hk, hMm, ?_, fun k => rfl⟩⟩
  · intro ad v ha
    rcases addM_inv ha with ha | ⟨h1, h2, h3, h4⟩
    · rw [cell_eq (hold _ (hs.wi.mem_lt ha))]; exact hs.wi.mem ad v ha
    obtain ⟨b, o, sp⟩ := ad
    simp only at h1 h2 h3 h4
    subst h1; subst h2
    rw [cell_of_row _ _ _ _ _ _ hnew, ← Array.getElem?_toList]
    rw [List.getElem?_take] at h4
    split at h4
    · exact h4
    cases h4
  · intro j ds hj
    obtain ⟨zs, u, h1, h2, hT⟩ := hs.wi.box j ds hj
    exact ⟨zs, u, by rw [hold _ (lt j ds hj)]; exact h1, h2.mono fun _ _ h => RelC.grow (g := g) (g' := ⟨addM g.M w.heap.size (ys.toList.take n), g.B, g.O⟩) hMm (fun _ => rfl) (fun _ => rfl) h, hT⟩
  · intro j ds ad v hj ha
    rcases addM_inv ha with ha | ⟨h1, _⟩
    · exact hs.wi.boxM j ds ad v hj ha
    have := lt j ds hj; show ad.block ≠ g.B j; omega
  · intro u r hu
    obtain ⟨cur, h1, h2, h3, h4, h5⟩ := hs.wi.own u r hu
    have := lO u r hu
    refine ⟨cur, by rw [hold _ this]; exact h1, h2, h3, h4, fun ad v ha e => ?_⟩
    rcases addM_inv ha with ha | ⟨h6, _⟩
    · exact h5 ad v ha e
    omega
  · intro u r hu
    have := lO u r hu
    refine (hs.wi.muta u r hu).mono hMm (fun ad v ha e => ?_) (hold _ this)
    rcases addM_inv ha with ha | ⟨h6, _⟩
    · exact ha
    omega
  intro ad v ha
  rcases addM_inv ha with ha | ⟨h1, _⟩
  · exact .inl ha
  exact .inr (.inr (by show w.heap.size ≤ _; omega))
theorem sound_convS {t t' : TypeId} {x : V} {u : Value} {K : V → St → Prop} (hs : Sim E g s a w) (hx : RelV g x u) (h : aConvS P t t' x s K)
    (hpure : ∀ {K' : V → Prop}, aConv P t t' x K' → ∃ r z, K' r ∧ RelV g r z ∧ ∀ w : World, (convert t t' u).run P w = .ok z w) :
    ∃ r s' g' w' z, K r s' ∧ RelV g' r z ∧ Sim E g' s' a w' ∧ (convert t t' u).run P w = .ok z w' := by
  unfold aConvS at h
  split at h
  · rename_i o nl sz xs
    obtain ⟨_, e, hidx, hk, rfl, h⟩ := h
    have hu := (idxT_slc hidx).1
    have he := kindT_und hk
    obtain ⟨hD, hO⟩ : RelD g.M (.lst nl 1 xs) u ∧ RelO g.O o 1 u := hx
    rcases h with ⟨hstr, bs, rfl, hK⟩ | ⟨rfl, p, rfl, hK⟩
    · have hd := isStrT_und hstr
      refine ⟨_, s, g, w, .string (strB bs), hK, ⟨rfl, rfl⟩, hs, ?_⟩
      obtain ⟨hp, hy⟩ := RelD.lst_inv hD
      rcases hy with ⟨rfl, hbs, hn⟩ | ⟨ad, n, c, rfl, hn, hl, hc, hm, hM⟩
      · rw [run_convert_bytes_string w _ _ _ _ _ _ hu he hd]
        have : bs = [] := by simpa using hbs
        subst this
        rfl
      rw [run_convert_bytes_string w _ _ _ _ _ _ hu he hd]
      have hlen : n = bs.length := by simpa using hl
      subst hlen
      have hcell : ∀ j v, (bs.map fun c => Value.int .u8 (c.toNat : Int))[j]? = some v → w.cell? (ad.add j) = some v := by
        intro j v hj
        simp only [List.getElem?_map, Option.map_eq_some_iff] at hj
        obtain ⟨b, hb, rfl⟩ := hj
        obtain ⟨u, h1, h2⟩ := hM j (.val (.int .u8 (b.toNat : Int))) (by simp [hb])
        cases h2
        exact hs.wi.mem _ _ h1
      have h1 := run_loadCells_list (P := P) (w := w) ad _ hcell
      rw [List.length_map] at h1
      rw [run_bytesToString w ad _ _ (bs.map fun c => (c.toNat : Int)) (by rw [h1]; congr 2; rw [List.map_map]; rfl), foldl_push_b]
      simp [strB]
    rcases hO with ⟨hx, _⟩ | ⟨r, hr, hrs, rfl⟩
    · cases hx
    obtain ⟨cur, hb, hcs, hnc, hcm, hMo⟩ := hs.wi.own _ r hr
    let w' := w.freeze ⟨r.blk, cur.size, none⟩ 1
    obtain ⟨m, hfz⟩ := freeze_same w r.blk cur.size 1 (by decide) hb
    have hne : ∀ j, j ≠ r.blk → w'.heap[j]? = w.heap[j]? := fun j hj => freeze_heap w _ _ _ j hj
    have hsh : w.shape? r.blk = some (r.e, cur.size) := by unfold World.shape?; rw [hb]
    have hrun : (convert t' t' (.slice (some ⟨r.blk, 0, none⟩) r.n r.c)).run P w = .ok (.slice (some ⟨r.blk, 0, none⟩) r.n r.c) w' := by
      simp [convert, run_underlying hu, run_underlying he, markStringish, hsh, w']
    have hcell : ∀ ad v, w.cell? ad = some v → w'.cell? ad = some v := by
      intro ad v h
      by_cases hbk : ad.block = r.blk
      · obtain ⟨k, off, st⟩ := ad
        cases hbk
        cases st with
        | none =>
          rw [cell_of_row _ _ _ _ _ _ hb] at h
          rw [cell_of_row _ _ _ _ _ _ hfz]
          exact h
        | some _ =>
          unfold World.cell? at h ⊢
          simp only [hb] at h
          rw [show w'.heap[r.blk]? = _ from hfz]
          exact h
      rw [cell_eq (hne _ hbk)]; exact h
    let g1 : Gh := ⟨g.M, g.B, fun u => if (u == Tag.made p) then none else g.O u⟩
    have hs1 : Sim E g1 (s.clean (fun _ => false) (fun u => u == .made p)) a w := hs.clean rfl (fun _ _ => rfl) (fun _ => rfl) (fun _ => rfl)
    have hO1 : ∀ u q, g1.O u = some q → g.O u = some q ∧ u ≠ .made p := by
      intro u q hq
      simp only [g1] at hq
      split at hq
      · cases hq
      rename_i hne; exact ⟨hq, by simpa using hne⟩
    have hsz : w'.heap.size = w.heap.size := by
      simp only [w']
      unfold World.freeze
      split
      · rfl
      simp
    have hos : w'.os = w.os ∧ w'.tape = w.tape ∧ w'.output = w.output := by
      simp only [w']
      unfold World.freeze
      split <;> exact ⟨rfl, rfl, rfl⟩
    refine ⟨_, _, g1, w', _, hK, ⟨?_, trivial⟩, ⟨hs1.slots, hs1.defers, ⟨fun ad v ha => hcell _ _ (hs1.wi.mem ad v ha), ?_, hs1.wi.inj, hs1.wi.boxM, ?_, hs1.wi.ownB, hs1.wi.ownI, ?_⟩, ?_⟩, hrun⟩
    · exact hD
    · intro i cs hi
      obtain ⟨ys, ty, h1, h2⟩ := hs1.wi.box i cs hi
      refine ⟨ys, ty, ?_, h2⟩
      rw [hne]
      · exact h1
      intro e
      have hi' : ∃ ds, hget s.heap i = some ds := by
        simp only [St.clean] at hi
        rw [hget_hclean] at hi
        simp only [Bool.false_eq_true, if_false, Option.map_eq_some_iff] at hi
        obtain ⟨ds, hd, _⟩ := hi
        exact ⟨ds, hd⟩
      obtain ⟨ds, hd⟩ := hi'
      exact hs.wi.ownB _ r i ds hr hd e.symm
    · intro u q hq
      obtain ⟨cur', h1, h2⟩ := hs1.wi.own u q hq
      refine ⟨cur', ?_, h2⟩
      rw [hne]
      · exact h1
      intro e
      obtain ⟨h3, h4⟩ := hO1 u q hq
      exact h4 (hs.wi.ownI _ _ _ _ h3 hr e)
    · intro u q hq
      refine (hs1.wi.muta u q hq).same (hne _ fun e => ?_)
      obtain ⟨h3, h4⟩ := hO1 u q hq
      exact h4 (hs.wi.ownI _ _ _ _ h3 hr e)
    have hc := hs1.cum
    refine ⟨hos.1.trans hc.os, hos.2.1.trans hc.tape, hos.2.2.trans hc.output, by rw [hsz]; exact hc.size, ?_, hc.foot, hc.mem, hc.memN, hc.argB⟩
    intro k hk hF
    rw [hne]
    · exact hc.unch k hk hF
    intro e
    subst e
    rcases hs.cum.foot _ (.inr ⟨_, r, hr, rfl⟩) with h | h
    · exact hF h
    omega
  · rename_i i off n cp
    obtain ⟨_, ⟨e, hidx, hk⟩, hstr, cs, hi, bs, hfit, hcs, hK⟩ := h
    have hu := (idxT_slc hidx).1
    have he := kindT_und hk
    have hd := isStrT_und hstr
    obtain rfl := hx
    obtain ⟨ys, ty, hb, hr, _⟩ := hs.wi.box i cs hi
    refine ⟨_, s, g, w, .string (strB bs), hK, ⟨rfl, rfl⟩, hs, ?_⟩
    rw [run_convert_bytes_string w _ _ _ _ _ _ hu he hd]
    have hlen : n = bs.length := by
      have := congrArg List.length hcs
      simp at this
      omega
    subst hlen
    have hsub := (hr.drop off).take bs.length
    rw [hcs] at hsub
    have hcell : ∀ j v, (bs.map fun c => Value.int .u8 (c.toNat : Int))[j]? = some v → w.cell? ((⟨g.B i, off, none⟩ : Addr).add j) = some v := by
      intro j v hj
      simp only [List.getElem?_map, Option.map_eq_some_iff] at hj
      obtain ⟨b, hb', rfl⟩ := hj
      obtain ⟨y, hy, hy2⟩ := hsub.get (i := j) (a := C.val (.int .u8 b.toNat)) (by simp [hb'])
      obtain ⟨_, rfl⟩ := hy2
      rw [add_mk, cell_row hb, ← Array.getElem?_toList]
      rw [List.getElem?_take] at hy
      split at hy
      · rw [List.getElem?_drop] at hy; exact hy
      cases hy
    have h1 := run_loadCells_list (P := P) (w := w) ⟨g.B i, off, none⟩ _ hcell
    rw [List.length_map] at h1
    rw [run_bytesToString w ⟨g.B i, off, none⟩ _ _ (bs.map fun c => (c.toNat : Int)) (by rw [h1]; congr 2; rw [List.map_map]; rfl), foldl_push_b]
    simp [strB]
  · rename_i b
    unfold aConvT at h
    split at h
    · rename_i hq
      obtain ⟨hst, hsz, hK⟩ := h
      obtain ⟨_, rfl⟩ := hx
      have hsb : ∃ e, P.underlying t' = some (.slice e) ∧ P.underlying e = some (.int .u8) := by
        unfold sbT at hq
        split at hq
        · cases hq
        split at hq
        · rename_i e hi
          split at hq
          · rename_i hk; exact ⟨e, (idxT_slc hi).1, kindT_und hk⟩
          cases hq
        cases hq
      obtain ⟨e, hu, he⟩ := hsb
      have hrun := run_bytes_of_string (P := P) w t t' e b (isStrT_und hst) hu he
      have hcap := grownCap_ge w b.size 0 e
      have hcm : grownCap w b.size 0 e ≤ maxLen := grownCap_le_maxLen w b.size 0 e (by simp only [maxLen]; omega)
      have hbs : (bytesRow b (grownCap w b.size 0 e)).toList.take b.size = b.data.toList.map fun c => Value.int .u8 c.toNat := by
        have hl : b.size = (b.data.toList.map fun c => Value.int .u8 c.toNat).length := by simp
        unfold bytesRow
        rw [Array.toList_append, Array.toList_map, hl, List.take_left']
        simp
      generalize bytesRow b (grownCap w b.size 0 e) = ys at hrun hbs
      have hs' := hs.addMem (w' := w.drew.alloc (.cells ys e (ys.size, ys.size + 1))) (ys := ys) (t := e) (fr := (ys.size, ys.size + 1)) rfl rfl rfl (by simp) (fun k hk => Below.heap_alloc w.drew _ k hk) (heap_alloc_new w.drew _) b.size
      refine ⟨_, _, _, _, _, hK, ⟨?_, trivial⟩, hs', hrun⟩
      have hl : b.size = (b.data.toList.map fun c => D.val (.int .u8 c.toNat)).length := by simp
      refine RelD.mk (by simp) (by omega) (by rw [Nat.mul_one]; exact hl) hcap hcm ?_
      intro j d hd
      simp only [List.getElem?_map, Option.map_eq_some_iff] at hd
      obtain ⟨c, hc, rfl⟩ := hd
      refine ⟨_, addM_get (i := j) (v := .int .u8 c.toNat) ?_, .val rfl⟩
      rw [hbs]
      simp [hc]
    obtain ⟨r, z, h1, h2, h3⟩ := hpure (K' := fun v => K v s) h
    exact ⟨r, s, g, w, z, h1, h2, hs, h3 w⟩
  obtain ⟨r, z, h1, h2, h3⟩ := hpure (K' := fun v => K v s) h
  exact ⟨r, s, g, w, z, h1, h2, hs, h3 w⟩
end
end
section
/-! ### a callee's names in the caller -/
def renI (ks : List Id) (d : Nat) : Id → Id
  | .arg k => (ks[k]?).getD (.loc (d :: 1 :: [k]))
  | .loc p => .loc (d :: 0 :: p)
def renT (ks : List Id) (d : Nat) : Tag → Tag
  | .slot p => .slot (d :: 0 :: p)
  | .made p => .made (d :: 0 :: p)
  | .bslot t p => .bslot t (d :: 0 :: p)
  | .bcell t i o => .bcell t (renI ks d i) o
  | .cell i o => .cell (renI ks d i) o
def C.ren (ks : List Id) (d : Nat) : C → C
  | .lst (.tag t) nl sz xs => .lst (.tag (renT ks d t)) nl sz xs
  | .ptr i o => .ptr (renI ks d i) o
  | .row i o n c => .row (renI ks d i) o n c
  | .fn f x y => .fn f (x.map fun p => (renI ks d p.1, p.2)) (y.map fun p => (renI ks d p.1, p.2))
  | .stk t sz xs => .stk (renT ks d t) sz xs
  | .sptr t o sz xs => .sptr (renT ks d t) o sz xs
  | x => x
def W.ren (ks : List Id) (d : Nat) : W → W
  | .c x => .c (x.ren ks d)
  | .agg cs => .agg (cs.map (C.ren ks d))
def V.ren (ks : List Id) (d : Nat) : V → V
  | .w x => .w (x.ren ks d)
  | .tup xs => .tup (xs.map (W.ren ks d))

def okKs (ks : List Id) (d : Nat) : Prop := ks.Nodup ∧ ∀ i ∈ ks, rootI d i = false
theorem rootI_ren {ks : List Id} {d : Nat} {i : Id} (h : ∀ k, i = .arg k → ks.length ≤ k) : rootI d (renI ks d i) = true := by
  cases i with
  | arg k => simp [renI, List.getElem?_eq_none (h k rfl), rootI]
  | loc p => simp [renI, rootI]
theorem renI_inj {ks : List Id} {d : Nat} (hk : okKs ks d) {i j : Id} (h : renI ks d i = renI ks d j) : i = j := by
  have key : ∀ k q, (ks[k]?).getD (.loc (d :: 1 :: [k])) = .loc (d :: q) → ks.length ≤ k := by
    intro k q h
    rcases Nat.lt_or_ge k ks.length with hlt | hge
    · rw [List.getElem?_eq_getElem hlt, Option.getD_some] at h
      have := hk.2 _ (List.getElem_mem hlt)
      rw [h] at this
      simp [rootI] at this
    exact hge
  cases i with
  | arg k =>
    cases j with
    | arg l =>
      simp only [renI] at h
      rcases Nat.lt_or_ge k ks.length with h1 | h1 <;> rcases Nat.lt_or_ge l ks.length with h2 | h2
      · rw [List.getElem?_eq_getElem h1, List.getElem?_eq_getElem h2, Option.getD_some, Option.getD_some] at h
        have := (List.getElem_inj hk.1).1 h
        rw [this]
      · rw [List.getElem?_eq_none h2, Option.getD_none] at h
        have := key k _ h; omega
      · rw [List.getElem?_eq_none h1, Option.getD_none] at h
        have := key l _ h.symm; omega
      rw [List.getElem?_eq_none h1, List.getElem?_eq_none h2] at h
      simp at h
      rw [h]
    | loc q =>
      simp only [renI] at h
      have := key k _ h
      rw [List.getElem?_eq_none this] at h
      simp at h
  | loc p =>
    cases j with
    | arg l =>
      simp only [renI] at h
      have := key l _ h.symm
      rw [List.getElem?_eq_none this] at h
      simp at h
    | loc q => simp only [renI] at h; injection h with h; injection h with _ h; injection h with _ h; rw [h]
theorem renT_inj {ks : List Id} {d : Nat} (hk : okKs ks d) {t u : Tag} (h : renT ks d t = renT ks d u) : t = u := by
  cases t <;> cases u <;> simp only [renT] at h <;> first
    | (injection h with h; injection h with _ h; injection h with _ h; rw [h])
    | (injection h with h1 h2; rw [renI_inj hk h1, h2])
    | (injection h with h0 h; injection h with _ h; injection h with _ h; rw [h0, h])
    | (injection h with h0 h1 h2; rw [h0, renI_inj hk h1, h2])
    | cases h

theorem renT_lax (ks : List Id) (d : Nat) (t : Tag) : (renT ks d t).lax = t.lax := by cases t <;> rfl
theorem renT_ty (ks : List Id) (d : Nat) (t : Tag) : (renT ks d t).ty = t.ty := by cases t <;> rfl
/-- two memories say the same of names that are carried over -/
theorem RelC.ren {g g' : Gh} {ks : List Id} {d : Nat} (hM : ∀ a v, g.M a = some v → g'.M a = some v) (hB : ∀ i, g'.B (renI ks d i) = g.B i) (hO : ∀ t, g'.O (renT ks d t) = g.O t) {c : C} {y : Value} (h : RelC g c y) : RelC g' (c.ren ks d) y := by
  cases c with
  | undef => trivial
  | val x => exact h
  | lst o nl sz xs =>
    cases o with
    | no => exact ⟨h.1.mono hM, trivial⟩
    | full => exact ⟨h.1.mono hM, h.2⟩
    | tag t =>
      refine ⟨h.1.mono hM, ?_⟩
      show (_ ∧ RelF y) ∨ _
      rw [hO, renT_lax, renT_ty]
      exact h.2
  | ptr i o => show y = _; rw [hB]; exact h
  | mem xs => obtain ⟨a, h1, h2⟩ := h; exact ⟨a, h1, h2.mono hM⟩
  | row i o n c => show y = _; rw [hB]; exact h
  | typ => exact h
  | ifc => exact h
  | stk t sz xs => show RelS (g'.O (renT ks d t)) sz xs y; rw [hO]; exact h
  | sptr t o sz xs => show RelQ (g'.O (renT ks d t)) o sz xs y; rw [hO]; exact h
  | fn f x z =>
    show y = _
    have e : ∀ l : List (Id × Nat), (l.map fun p => (renI ks d p.1, p.2)).map (pv g'.B) = l.map (pv g.B) := fun l => by
      rw [List.map_map]
      exact List.map_congr_left fun p _ => by simp [pv, hB]
    rw [e, e]
    exact h
theorem RelW.ren {g g' : Gh} {ks : List Id} {d : Nat} (hM : ∀ a v, g.M a = some v → g'.M a = some v) (hB : ∀ i, g'.B (renI ks d i) = g.B i) (hO : ∀ t, g'.O (renT ks d t) = g.O t) {c : W} {y : Value} (h : RelW g c y) : RelW g' (c.ren ks d) y := by
  cases c with
  | c x => exact RelC.ren hM hB hO h
  | agg cs => obtain ⟨ys, h1, h2⟩ := h; exact ⟨ys, h1, h2.map fun _ _ h => RelC.ren hM hB hO h⟩
theorem RelV.ren {g g' : Gh} {ks : List Id} {d : Nat} (hM : ∀ a v, g.M a = some v → g'.M a = some v) (hB : ∀ i, g'.B (renI ks d i) = g.B i) (hO : ∀ t, g'.O (renT ks d t) = g.O t) {c : V} {y : Value} (h : RelV g c y) : RelV g' (c.ren ks d) y := by
  cases c with
  | w x => exact RelW.ren hM hB hO h
  | tup cs => obtain ⟨ys, h1, h2⟩ := h; exact ⟨ys, h1, h2.map fun _ _ h => RelW.ren hM hB hO h⟩
/-- and back -/
theorem RelC.unren {g g' : Gh} {ks : List Id} {d : Nat} (hM : g'.M = g.M) (hB : ∀ i, g'.B i = g.B (renI ks d i)) (hO : ∀ t, g'.O t = g.O (renT ks d t)) {c : C} {y : Value} (h : RelC g (c.ren ks d) y) : RelC g' c y := by
  cases c with
  | undef => trivial
  | val x => exact h
  | lst o nl sz xs =>
    cases o with
    | no => exact ⟨by rw [hM]; exact h.1, trivial⟩
    | full => exact ⟨by rw [hM]; exact h.1, h.2⟩
    | tag t =>
      refine ⟨by rw [hM]; exact h.1, ?_⟩
      show (_ ∧ RelF y) ∨ _
      rw [hO, ← renT_lax ks d, ← renT_ty ks d]
      exact h.2
  | ptr i o => show y = _; rw [hB]; exact h
  | mem xs => obtain ⟨a, h1, h2⟩ := h; exact ⟨a, h1, by rw [hM]; exact h2⟩
  | row i o n c => show y = _; rw [hB]; exact h
  | typ => exact h
  | ifc => exact h
  | stk t sz xs => show RelS (g'.O t) sz xs y; rw [hO]; exact h
  | sptr t o sz xs => show RelQ (g'.O t) o sz xs y; rw [hO]; exact h
  | fn f x z =>
    show y = _
    have e : ∀ l : List (Id × Nat), l.map (pv g'.B) = (l.map fun p => (renI ks d p.1, p.2)).map (pv g.B) := fun l => by
      rw [List.map_map]
      exact List.map_congr_left fun p _ => by simp [pv, hB]
    rw [e, e]
    exact h
theorem RelW.unren {g g' : Gh} {ks : List Id} {d : Nat} (hM : g'.M = g.M) (hB : ∀ i, g'.B i = g.B (renI ks d i)) (hO : ∀ t, g'.O t = g.O (renT ks d t)) {c : W} {y : Value} (h : RelW g (c.ren ks d) y) : RelW g' c y := by
  cases c with
  | c x => exact RelC.unren hM hB hO h
  | agg cs =>
    obtain ⟨ys, h1, h2⟩ := h
    refine ⟨ys, h1, All2.of_get (by have := h2.length; simpa using this) fun i c y hc hy => ?_⟩
    obtain ⟨y', hy', hr⟩ := h2.get (i := i) (a := c.ren ks d) (by simp [hc])
    rw [hy] at hy'
    cases hy'
    exact RelC.unren hM hB hO hr

/-! ### less said -/
def Own.lax : Own → Bool
  | .tag t => t.lax
  | _ => true
def leC : C → C → Prop
  | .undef, _ => True
  | .lst o' nl' sz' xs', .lst o nl sz xs => (o' = o ∨ o' = .no ∨ o = .full ∧ o'.lax = true) ∧ (nl' = nl ∨ nl' = none) ∧ (sz' = sz ∨ xs = [] ∧ 0 < sz' ∧ (o' = .no ∨ o = .full ∧ o'.lax = true)) ∧ xs' = xs
  | .stk _ sz xs', .lst _ nl _ xs => nl = some true ∧ xs = [] ∧ xs' = [] ∧ 0 < sz
  | a, b => a = b
def leCs : List C → List C → Prop
  | [], [] => True
  | a :: l, b :: m => leC a b ∧ leCs l m
  | _, _ => False
def leW : W → W → Prop
  | .c .undef, _ => True
  | .c x, .c y => leC x y
  | .agg cs, .agg ds => leCs cs ds
  | _, _ => False
def leWs : List W → List W → Prop
  | [], [] => True
  | a :: l, b :: m => leW a b ∧ leWs l m
  | _, _ => False
def leV : V → V → Prop
  | .w (.c .undef), _ => True
  | .w x, .w y => leW x y
  | .tup xs, .tup ys => leWs xs ys
  | _, _ => False
def leL : List V → List V → Prop
  | [], [] => True
  | a :: l, b :: m => leV a b ∧ leL l m
  | _, _ => False
def leH (h' h : Heap) : Prop := ∀ i cs, hget h' i = some cs → ∃ ds, hget h i = some ds ∧ leCs cs ds
theorem leC_refl (c : C) : leC c c := by
  cases c with
  | lst => exact ⟨.inl rfl, .inl rfl, .inl rfl, rfl⟩
  | undef => trivial
  | _ => exact (rfl : _ = _)
theorem leCs_refl (l : List C) : leCs l l := by
  induction l with
  | nil => trivial
  | cons c l ih => exact ⟨leC_refl c, ih⟩
theorem leW_refl (x : W) : leW x x := by
  cases x with
  | c x => cases x with
    | undef => trivial
    | lst => exact ⟨.inl rfl, .inl rfl, .inl rfl, rfl⟩
    | _ => exact (rfl : _ = _)
  | agg cs => exact leCs_refl cs
theorem leWs_refl (l : List W) : leWs l l := by
  induction l with
  | nil => trivial
  | cons c l ih => exact ⟨leW_refl c, ih⟩
theorem leV_refl (x : V) : leV x x := by
  cases x with
  | w x => cases x with
    | c x => cases x with
      | undef => trivial
      | lst => exact ⟨.inl rfl, .inl rfl, .inl rfl, rfl⟩
      | _ => exact (rfl : _ = _)
    | agg cs => exact leCs_refl cs
  | tup xs => exact leWs_refl xs
theorem leH_refl (h : Heap) : leH h h := fun _ cs hi => ⟨cs, hi, leCs_refl cs⟩
section
variable {g : Gh}
theorem leC_rel {a b : C} {y : Value} (h : leC a b) (hr : RelC g b y) : RelC g a y := by
  unfold leC at h
  split at h
  · trivial
  · obtain ⟨h1, h2, h3, rfl⟩ := h
    obtain ⟨hr1, hr2⟩ := hr
    rename_i o' nl' sz' xs o nl sz
    have key : RelD g.M (.lst nl' sz' xs) y := by
      obtain ⟨hp, hy⟩ := RelD.lst_inv hr1
      rcases hy with ⟨rfl, rfl, hn⟩ | ⟨ad, n, c, rfl, hn, hl, hc, hm, hM⟩
      · refine .nil ?_ ?_
        · rcases h2 with rfl | rfl
          · exact hn
          simp
        rcases h3 with rfl | ⟨_, h, _⟩
        · exact hp
        exact h
      refine RelD.mk ?_ ?_ ?_ hc hm hM
      · rcases h2 with rfl | rfl
        · exact hn
        simp
      · rcases h3 with rfl | ⟨_, h, _⟩
        · exact hp
        exact h
      rcases h3 with rfl | ⟨h, _, _⟩
      · exact hl
      subst h
      have : n = 0 := by
        rcases Nat.eq_zero_or_pos n with h | h
        · exact h
        have := Nat.mul_pos h hp; simp at hl; omega
      subst this; simp
    have fullCase : o = .full ∧ o'.lax = true → RelO g.O o' sz' y := fun ⟨e, hx⟩ => by
      subst e
      cases o' with
      | no => trivial
      | full => exact hr2
      | tag t => exact .inl ⟨hx, hr2⟩
    rcases h1 with rfl | rfl | h1
    · rcases h3 with rfl | ⟨_, _, h | h⟩
      · exact ⟨key, hr2⟩
      · subst h; exact ⟨key, trivial⟩
      exact ⟨key, fullCase h⟩
    · exact ⟨key, trivial⟩
    exact ⟨key, fullCase h1⟩
  · obtain ⟨rfl, rfl, rfl, h0⟩ := h
    refine ⟨h0, .inl ⟨rfl, ?_⟩⟩
    obtain ⟨_, hy⟩ := RelD.lst_inv hr.1
    rcases hy with ⟨rfl, _, _⟩ | ⟨_, _, _, _, hn, _⟩
    · rfl
    exact absurd rfl hn
  rw [h]; exact hr
theorem leCs_rel {l m : List C} : ∀ {ys : List Value}, leCs l m → All2 (RelC g) m ys → All2 (RelC g) l ys := by
  induction l generalizing m with
  | nil => intro ys h hr; cases m with
    | nil => exact hr
    | cons _ _ => exact h.elim
  | cons a l ih => intro ys h hr; cases m with
    | nil => exact h.elim
    | cons b m =>
      obtain ⟨y, ys', rfl, h1, h2⟩ := hr.cons_inv
      exact .cons (leC_rel h.1 h1) (ih h.2 h2)
theorem leW_rel {a b : W} {y : Value} (h : leW a b) (hr : RelW g b y) : RelW g a y := by
  unfold leW at h
  split at h
  · trivial
  · exact leC_rel h hr
  · obtain ⟨ys, h1, h2⟩ := hr; exact ⟨ys, h1, leCs_rel h h2⟩
  exact h.elim
theorem leWs_rel {l m : List W} : ∀ {ys : List Value}, leWs l m → All2 (RelW g) m ys → All2 (RelW g) l ys := by
  induction l generalizing m with
  | nil => intro ys h hr; cases m with
    | nil => exact hr
    | cons _ _ => exact h.elim
  | cons a l ih => intro ys h hr; cases m with
    | nil => exact h.elim
    | cons b m =>
      obtain ⟨y, ys', rfl, h1, h2⟩ := hr.cons_inv
      exact .cons (leW_rel h.1 h1) (ih h.2 h2)
theorem leV_rel {a b : V} {y : Value} (h : leV a b) (hr : RelV g b y) : RelV g a y := by
  unfold leV at h
  split at h
  · trivial
  · exact leW_rel h hr
  · obtain ⟨ys, h1, h2⟩ := hr; exact ⟨ys, h1, leWs_rel h h2⟩
  exact h.elim
theorem leL_rel {l m : List V} : ∀ {ys : List Value}, leL l m → All2 (RelV g) m ys → All2 (RelV g) l ys := by
  induction l generalizing m with
  | nil => intro ys h hr; cases m with
    | nil => exact hr
    | cons _ _ => exact h.elim
  | cons a l ih => intro ys h hr; cases m with
    | nil => exact h.elim
    | cons b m =>
      obtain ⟨y, ys', rfl, h1, h2⟩ := hr.cons_inv
      exact .cons (leV_rel h.1 h1) (ih h.2 h2)
theorem leC_typ {b : C} {τ : TypeId} (h : leC (.typ τ) b) : b = .typ τ := by
  cases b <;> simp only [leC] at h <;> first | exact h.symm | cases h
theorem leCs_mem {τ : TypeId} : ∀ {l m : List C}, leCs l m → C.typ τ ∈ l → C.typ τ ∈ m
  | [], _, _, h => by cases h
  | a :: l, [], h, _ => h.elim
  | a :: l, b :: m, h, hm => by
    rcases List.mem_cons.1 hm with e | e
    · subst e
      rw [leC_typ h.1]
      simp
    exact List.mem_cons_of_mem _ (leCs_mem h.2 e)
theorem tyOK.le {t : TypeId} {l m : List C} (hm : tyOK t m) (h : leCs l m) : tyOK t l := hm.sub fun _ hτ => leCs_mem h hτ
theorem WI.le {h h' : Heap} {w : World} (hw : WI g h w) (hs : leH h' h) : WI g h' w := by
  refine ⟨hw.mem, fun i cs hi => ?_, fun i j cs ds hi hj e => ?_, fun i cs ad v hi ha => ?_, hw.own, fun t r i cs ht hi => ?_, hw.ownI, hw.muta⟩
  · obtain ⟨ds, h1, h2⟩ := hs i cs hi
    obtain ⟨ys, t, h3, h4⟩ := hw.box i ds h1
    exact ⟨ys, t, h3, leCs_rel h2 h4.1, h4.2.le h2⟩
  · obtain ⟨_, h1, _⟩ := hs i cs hi
    obtain ⟨_, h2, _⟩ := hs j ds hj
    exact hw.inj i j _ _ h1 h2 e
  · obtain ⟨_, h1, _⟩ := hs i cs hi
    exact hw.boxM i _ ad v h1 ha
  obtain ⟨_, h1, _⟩ := hs i cs hi
  exact hw.ownB t r i _ ht h1
theorem Cum.le {E : Entry} {h h' : Heap} {w : World} (hc : Cum E g h w) (hs : leH h' h) : Cum E g h' w := by
  refine ⟨hc.os, hc.tape, hc.output, hc.size, hc.unch, ?_, hc.mem, hc.memN, hc.argB⟩
  rintro k (⟨i, cs, hi, rfl⟩ | h)
  · obtain ⟨ds, h1, _⟩ := hs i cs hi
    exact hc.foot _ (.inl ⟨i, ds, h1, rfl⟩)
  exact hc.foot _ (.inr h)
def leS (s' s : St) : Prop := leL s'.slots s.slots ∧ leH s'.heap s.heap
theorem leL_refl (l : List V) : leL l l := by
  induction l with
  | nil => trivial
  | cons c l ih => exact ⟨leV_refl c, ih⟩
theorem leS_refl (s : St) : leS s s := ⟨leL_refl _, leH_refl _⟩
theorem Sim.le {E : Entry} {s s' : St} {a : Act} {w : World} (hs : Sim E g s a w) (h : leS s' s) : Sim E g s' a w :=
  ⟨leL_rel h.1 hs.slots, hs.defers, hs.wi.le h.2, hs.cum.le h.2⟩
end
/-! ### another name for what owns a row -/
def retT (a b : Tag) (t : Tag) : Own := if t = a then (if (b.lax = true ∨ a.lax = false) ∧ b.ty = none then .tag b else .no) else if t = b then .no else .tag t
def C.retag (a b : Tag) : C → C
  | .lst (.tag t) nl sz xs => .lst (retT a b t) nl sz xs
  | .stk t sz xs => if t = a then .stk b sz xs else if t = b then .undef else .stk t sz xs
  | .sptr t o sz xs => if t = a then .sptr b o sz xs else if t = b then .undef else .sptr t o sz xs
  | x => x
def W.retag (a b : Tag) : W → W
  | .c x => .c (x.retag a b)
  | .agg cs => .agg (cs.map (C.retag a b))
def V.retag (a b : Tag) : V → V
  | .w x => .w (x.retag a b)
  | .tup xs => .tup (xs.map (W.retag a b))
def hretag (a b : Tag) : Heap → Heap
  | [] => []
  | (j, cs) :: h => (j, cs.map (C.retag a b)) :: hretag a b h
def St.retag (a b : Tag) (s : St) : St := ⟨s.slots.map (V.retag a b), hretag a b s.heap⟩
theorem hget_hretag (a b : Tag) (h : Heap) (i : Id) : hget (hretag a b h) i = (hget h i).map (List.map (C.retag a b)) := by
  induction h with
  | nil => rfl
  | cons p h ih =>
    obtain ⟨k, c⟩ := p
    simp only [hretag, hget]
    split
    · rfl
    exact ih
def Gh.retag (a b : Tag) (g : Gh) : Gh := ⟨g.M, g.B, fun t => if t = b then g.O a else if t = a then none else g.O t⟩
section
variable {g : Gh} {τ υ : Tag}
theorem retag_typ {a b : Tag} (c : C) (τ : TypeId) (h : c.retag a b = .typ τ) : c = .typ τ := by
  cases c with
  | lst o nl sz xs => cases o <;> cases h
  | typ t => exact h
  | undef => cases h
  | val => cases h
  | mem => cases h
  | ptr => cases h
  | row => cases h
  | fn => cases h
  | ifc => cases h
  | stk t sz xs =>
    simp only [C.retag] at h
    split at h
    · cases h
    split at h <;> cases h
  | sptr t o sz xs =>
    simp only [C.retag] at h
    split at h
    · cases h
    split at h <;> cases h
theorem RelC.retag {c : C} {y : Value} (h : RelC g c y) : RelC (g.retag τ υ) (c.retag τ υ) y := by
  cases c with
  | lst o nl sz xs =>
    cases o with
    | no => exact ⟨h.1, trivial⟩
    | full => exact ⟨h.1, h.2⟩
    | tag t =>
      obtain ⟨h1, h2⟩ := h
      show RelC _ (.lst (retT τ υ t) nl sz xs) y
      unfold retT
      split
      · rename_i e
        subst e
        split
        · rename_i hx
          obtain ⟨hx, hxt⟩ := hx
          refine ⟨h1, ?_⟩
          show (_ ∧ RelF y) ∨ _
          rcases h2 with ⟨h2, h3⟩ | ⟨r, h2, h3, h4⟩
          · refine .inl ⟨?_, h3⟩
            rcases hx with hx | hx
            · exact hx
            rw [h2] at hx; cases hx
          exact .inr ⟨r, by simpa [Gh.retag] using h2, ⟨h3.1, fun q hq => by rw [hxt] at hq; cases hq⟩, h4⟩
        exact ⟨h1, trivial⟩
      split
      · exact ⟨h1, trivial⟩
      rename_i e1 e2
      refine ⟨h1, ?_⟩
      show (_ ∧ RelF y) ∨ _
      rcases h2 with h2 | h2
      · exact .inl h2
      refine .inr ?_
      simpa [Gh.retag, e1, e2] using h2
  | stk t sz xs =>
    simp only [C.retag]
    split
    · rename_i e
      subst e
      show RelS (if υ = υ then g.O t else _) sz xs y
      rw [if_pos rfl]; exact h
    split
    · trivial
    rename_i e1 e2
    show RelS (if t = υ then g.O τ else if t = τ then none else g.O t) sz xs y
    rw [if_neg e2, if_neg e1]; exact h
  | sptr t o sz xs =>
    simp only [C.retag]
    split
    · rename_i e
      subst e
      show RelQ (if υ = υ then g.O t else _) o sz xs y
      rw [if_pos rfl]; exact h
    split
    · trivial
    rename_i e1 e2
    show RelQ (if t = υ then g.O τ else if t = τ then none else g.O t) o sz xs y
    rw [if_neg e2, if_neg e1]; exact h
  | _ => exact h
theorem RelW.retag {c : W} {y : Value} (h : RelW g c y) : RelW (g.retag τ υ) (c.retag τ υ) y := by
  cases c with
  | c x => exact RelC.retag h
  | agg cs => obtain ⟨ys, h1, h2⟩ := h; exact ⟨ys, h1, h2.map fun _ _ h => RelC.retag h⟩
theorem RelV.retag {c : V} {y : Value} (h : RelV g c y) : RelV (g.retag τ υ) (c.retag τ υ) y := by
  cases c with
  | w x => exact RelW.retag h
  | tup cs => obtain ⟨ys, h1, h2⟩ := h; exact ⟨ys, h1, h2.map fun _ _ h => RelW.retag h⟩
theorem retag_O {t : Tag} {r : Rec} (h : (g.retag τ υ).O t = some r) : ∃ t', g.O t' = some r ∧ (t = υ ∧ t' = τ ∨ t ≠ υ ∧ t ≠ τ ∧ t' = t) := by
  simp only [Gh.retag] at h
  split at h
  · rename_i e; exact ⟨_, h, .inl ⟨e, rfl⟩⟩
  split at h
  · cases h
  rename_i e1 e2; exact ⟨_, h, .inr ⟨e1, e2, rfl⟩⟩
theorem WI.retag {h : Heap} {w : World} (hw : WI g h w) : WI (g.retag τ υ) (hretag τ υ h) w := by
  have hb : ∀ i cs, hget (hretag τ υ h) i = some cs → ∃ ds, hget h i = some ds ∧ cs = ds.map (C.retag τ υ) := by
    intro i cs hi
    rw [hget_hretag] at hi
    cases hq : hget h i with
    | none => rw [hq] at hi; cases hi
    | some ds => rw [hq] at hi; exact ⟨ds, rfl, by simpa using hi.symm⟩
  refine ⟨hw.mem, ?_, ?_, ?_, ?_, ?_, ?_, fun t r ht => by obtain ⟨t', h1, _⟩ := retag_O ht; exact hw.muta t' r h1⟩
  · intro i cs hi
    obtain ⟨ds, h1, rfl⟩ := hb i cs hi
    obtain ⟨ys, t, h2, h3⟩ := hw.box i ds h1
    exact ⟨ys, t, h2, h3.1.map fun _ _ h => RelC.retag h, h3.2.mapf retag_typ⟩
  · intro i j cs ds hi hj e
    obtain ⟨_, h1, _⟩ := hb i cs hi
    obtain ⟨_, h2, _⟩ := hb j ds hj
    exact hw.inj i j _ _ h1 h2 e
  · intro i cs ad v hi ha
    obtain ⟨_, h1, _⟩ := hb i cs hi
    exact hw.boxM i _ ad v h1 ha
  · intro t r ht
    obtain ⟨t', h1, _⟩ := retag_O ht
    exact hw.own t' r h1
  · intro t r i cs ht hi
    obtain ⟨t', h1, _⟩ := retag_O ht
    obtain ⟨_, h2, _⟩ := hb i cs hi
    exact hw.ownB t' r i _ h1 h2
  intro t u r q h1 h2 e
  obtain ⟨t', h3, h4⟩ := retag_O h1
  obtain ⟨u', h5, h6⟩ := retag_O h2
  have := hw.ownI _ _ _ _ h3 h5 e
  rcases h4 with ⟨rfl, rfl⟩ | ⟨a, b, rfl⟩ <;> rcases h6 with ⟨rfl, rfl⟩ | ⟨c, d, rfl⟩ <;> simp_all
theorem Sim.retag {E : Entry} {s : St} {a : Act} {w : World} (hs : Sim E g s a w) (τ υ : Tag) : Sim E (g.retag τ υ) (s.retag τ υ) a w := by
  refine ⟨hs.slots.map fun _ _ h => RelV.retag h, hs.defers, hs.wi.retag, ?_⟩
  have hc := hs.cum
  refine ⟨hc.os, hc.tape, hc.output, hc.size, hc.unch, ?_, hc.mem, hc.memN, hc.argB⟩
  rintro k (⟨i, cs, hi, rfl⟩ | ⟨t, r, ht, rfl⟩)
  · simp only [St.retag] at hi
    rw [hget_hretag] at hi
    cases hq : hget s.heap i with
    | none => rw [hq] at hi; cases hi
    | some ds => exact hc.foot _ (.inl ⟨i, ds, hq, rfl⟩)
  obtain ⟨t', h1, _⟩ := retag_O ht
  exact hc.foot _ (.inr ⟨t', r, h1, rfl⟩)
end
def St.retags : List (Tag × Tag) → St → St
  | [], s => s
  | p :: l, s => St.retags l (s.retag p.1 p.2)
def V.retags : List (Tag × Tag) → V → V
  | [], v => v
  | p :: l, v => V.retags l (v.retag p.1 p.2)
/-- arguments as a contract wants them -/
def leA (ks : List Id) (d : Nat) : List W → List V → Prop
  | [], [] => True
  | x :: l, .w y :: m => leW (x.ren ks d) y ∧ leA ks d l m
  | _, _ => False

/-! ### what a function does -/
def Callable (P : Program) (f : FuncId) : Prop := ∀ (args : Array Value) (w : World), (callFunc f args).run P w = .ok (.enter f args) w
def Holds (P : Program) (f : FuncId) (args : List W) (h : Heap) (R : V → Heap → Prop) : Prop :=
  Callable P f ∧ ∀ (g : Gh) (w : World) (xs : List Value), GlobOK g.M → All2 (RelW g) args xs → WI g h w →
    Calls P f xs.toArray w fun e w' => ∃ x v h' g', e = .returned x ∧ R v h' ∧ RelV g' v x ∧ WI g' h' w' ∧ Cum (entry g h w) g' h' w'
theorem Holds.mono {P : Program} {f : FuncId} {args : List W} {h : Heap} {R R' : V → Heap → Prop} (H : Holds P f args h R) (hr : ∀ v h', R v h' → R' v h') : Holds P f args h R' :=
  ⟨H.1, fun g w xs hG ha hw => (H.2 g w xs hG ha hw).mono fun _ _ ⟨x, v, h', g', h1, h2, h3⟩ => ⟨x, v, h', g', h1, hr _ _ h2, h3⟩⟩

/-- the caller's heap behind a call -/
def bornT (ks : List Id) (d : Nat) : Tag → Bool := fun t => rootT d t || (match t with
  | .cell i _ => ks.contains i
  | .bcell _ i _ => ks.contains i
  | _ => false)
def hkeep (ks : List Id) : Heap → Heap
  | [] => []
  | (j, cs) :: h => if ks.contains j then hkeep ks h else (j, cs) :: hkeep ks h
def hren (ks : List Id) (d : Nat) : Heap → Heap
  | [] => []
  | (j, cs) :: h => (renI ks d j, cs.map (C.ren ks d)) :: hren ks d h
def St.back (s : St) (ks : List Id) (d : Nat) (h' : Heap) : St :=
  ⟨s.slots.map (V.clean (rootI d) (bornT ks d)), hren ks d h' ++ hkeep ks (hclean (rootI d) (bornT ks d) s.heap)⟩
def aCall0 (P : Program) (f : FuncId) (args : List V) (d : Nat) (s : St) (K : V → St → Prop) : Prop :=
  ∃ (ks : List Id) (args' : List W) (hl : Heap) (R : V → Heap → Prop), Holds P f args' hl R ∧ okKs ks d ∧
    leA ks d args' args ∧
    (∀ i cs, hget hl i = some cs → ∃ k j ds, i = .arg k ∧ ks[k]? = some j ∧ hget s.heap j = some ds ∧ leCs (cs.map (C.ren ks d)) ds) ∧
    ∀ v h', R v h' → K (v.ren ks d) (s.back ks d h')

/-! ### a box that is written no more -/
def C.frz (i : Id) (sz : Nat) (ds : List D) : C → C
  | .row j off n c => if j = i then (if 0 < sz ∧ n ≤ c ∧ c ≤ maxLen ∧ off + n * sz ≤ ds.length then .lst .no (some false) sz ((ds.drop off).take (n * sz)) else .undef) else .row j off n c
  | .ptr j off => if j = i then .undef else .ptr j off
  | .fn f first caps => if first.any (fun p => p.1 == i) || caps.any (fun p => p.1 == i) then .undef else .fn f first caps
  | x => x
def W.frz (i : Id) (sz : Nat) (ds : List D) : W → W
  | .c x => .c (x.frz i sz ds)
  | .agg cs => .agg (cs.map (C.frz i sz ds))
def V.frz (i : Id) (sz : Nat) (ds : List D) : V → V
  | .w x => .w (x.frz i sz ds)
  | .tup xs => .tup (xs.map (W.frz i sz ds))
def hfrz (i : Id) (sz : Nat) (ds : List D) : Heap → Heap
  | [] => []
  | (j, cs) :: h => if j = i then hfrz i sz ds h else (j, cs.map (C.frz i sz ds)) :: hfrz i sz ds h
def St.frz (i : Id) (sz : Nat) (ds : List D) (s : St) : St := ⟨s.slots.map (V.frz i sz ds), hfrz i sz ds s.heap⟩
/-- the box holds these data ahead -/
def frzOK (s : St) (i : Id) (ds : List D) : Prop := ∃ cs, hget s.heap i = some cs ∧ ds.length ≤ cs.length ∧ allD (cs.take ds.length) = some ds
def aCallT (P : Program) (f : FuncId) (args : List V) (d : Nat) (s : St) (K : V → St → Prop) : Prop :=
  ∃ rt : List (Tag × Tag), aCall0 P f (args.map (V.retags rt)) d (s.retags rt) K
def aCallF (P : Program) (f : FuncId) (args : List V) (d : Nat) (s : St) (K : V → St → Prop) : Prop :=
  aCallT P f args d s K ∨ ∃ i sz ds, frzOK s i ds ∧ aCallT P f (args.map (V.frz i sz ds)) d (s.frz i sz ds) K

theorem hget_hkeep (ks : List Id) (h : Heap) (j : Id) : hget (hkeep ks h) j = if ks.contains j then none else hget h j := by
  induction h with
  | nil => simp [hkeep, hget]
  | cons p h ih =>
    obtain ⟨k, d⟩ := p
    simp only [hkeep]
    by_cases hk : ks.contains k = true
    · rw [if_pos hk, ih]
      simp only [hget]
      by_cases hkj : k = j
      · subst hkj; rw [if_pos hk, if_pos hk]
      rw [if_neg hkj]
    rw [if_neg hk]
    simp only [hget]
    by_cases hkj : k = j
    · subst hkj; rw [if_pos rfl, if_neg hk, if_pos rfl]
    rw [if_neg hkj, if_neg hkj, ih]
theorem hget_append (h h' : Heap) (j : Id) : hget (h ++ h') j = match hget h j with
    | some cs => some cs
    | none => hget h' j := by
  induction h with
  | nil => rfl
  | cons p h ih =>
    obtain ⟨k, d⟩ := p
    simp only [List.cons_append, hget]
    split
    · rfl
    exact ih
theorem hget_hren {ks : List Id} {d : Nat} (hk : okKs ks d) (h : Heap) (i : Id) : hget (hren ks d h) (renI ks d i) = (hget h i).map (List.map (C.ren ks d)) := by
  induction h with
  | nil => rfl
  | cons p h ih =>
    obtain ⟨k, c⟩ := p
    simp only [hren, hget]
    by_cases hki : k = i
    · subst hki; simp
    rw [if_neg hki, if_neg (fun e => hki (renI_inj hk e)), ih]
theorem hget_hren_inv {ks : List Id} {d : Nat} (h : Heap) (j : Id) {cs : List C} (hj : hget (hren ks d h) j = some cs) : ∃ i, j = renI ks d i := by
  induction h with
  | nil => cases hj
  | cons p h ih =>
    obtain ⟨k, c⟩ := p
    simp only [hren, hget] at hj
    split at hj
    · rename_i e; exact ⟨k, e.symm⟩
    exact ih hj
open Classical in
/-- the caller's names, with the callee's laid over them -/
noncomputable def mixB (ks : List Id) (d : Nat) (B B' : Id → Nat) : Id → Nat := fun j => if h : ∃ i, renI ks d i = j then B' h.choose else B j
open Classical in
noncomputable def mixO (ks : List Id) (d : Nat) (O O' : Tag → Option Rec) : Tag → Option Rec := fun j => if h : ∃ i, renT ks d i = j then O' h.choose else O j
theorem mixB_ren {ks : List Id} {d : Nat} (hk : okKs ks d) (B B' : Id → Nat) (i : Id) : mixB ks d B B' (renI ks d i) = B' i := by
  have h : ∃ i', renI ks d i' = renI ks d i := ⟨i, rfl⟩
  unfold mixB
  rw [dif_pos h]
  exact congrArg B' (renI_inj hk h.choose_spec)
theorem mixB_old {ks : List Id} {d : Nat} (B B' : Id → Nat) {j : Id} (h : ∀ i, renI ks d i ≠ j) : mixB ks d B B' j = B j := by
  unfold mixB
  rw [dif_neg]
  rintro ⟨i, hi⟩; exact h i hi
theorem mixO_ren {ks : List Id} {d : Nat} (hk : okKs ks d) (B B' : Tag → Option Rec) (i : Tag) : mixO ks d B B' (renT ks d i) = B' i := by
  have h : ∃ i', renT ks d i' = renT ks d i := ⟨i, rfl⟩
  unfold mixO
  rw [dif_pos h]
  exact congrArg B' (renT_inj hk h.choose_spec)
theorem mixO_old {ks : List Id} {d : Nat} (B B' : Tag → Option Rec) {j : Tag} (h : ∀ i, renT ks d i ≠ j) : mixO ks d B B' j = B j := by
  unfold mixO
  rw [dif_neg]
  rintro ⟨i, hi⟩; exact h i hi
theorem ren_cases {ks : List Id} {d : Nat} (i : Id) : (∃ k, i = .arg k ∧ ks[k]? = some (renI ks d i)) ∨ rootI d (renI ks d i) = true := by
  cases i with
  | arg k =>
    rcases Nat.lt_or_ge k ks.length with h | h
    · exact .inl ⟨k, rfl, by simp [renI, List.getElem?_eq_getElem h]⟩
    exact .inr (rootI_ren fun l e => by cases e; exact h)
  | loc p => exact .inr (rootI_ren fun l e => by cases e)
theorem bornT_ren {ks : List Id} {d : Nat} (t : Tag) : bornT ks d (renT ks d t) = true := by
  cases t with
  | slot p => simp [bornT, renT, rootT]
  | made p => simp [bornT, renT, rootT]
  | bslot t p => simp [bornT, renT, rootT]
  | bcell t i o =>
    rcases ren_cases (ks := ks) (d := d) i with ⟨k, _, hk⟩ | h
    · have := List.mem_of_getElem? hk
      simp [bornT, renT, this]
    simp [bornT, renT, rootT, h]
  | cell i o =>
    rcases ren_cases (ks := ks) (d := d) i with ⟨k, _, hk⟩ | h
    · have := List.mem_of_getElem? hk
      simp [bornT, renT, this]
    simp [bornT, renT, rootT, h]
end
section
section
variable {P : Program} {E : Entry} {g : Gh} {w : World} {s : St} {a : Act}

theorem ren_typ {ks : List Id} {d : Nat} (c : C) (τ : TypeId) (h : c.ren ks d = .typ τ) : c = .typ τ := by
  cases c with
  | lst o nl sz xs => cases o <;> cases h
  | typ t => exact h
  | undef => cases h
  | val => cases h
  | mem => cases h
  | ptr => cases h
  | row => cases h
  | fn => cases h
  | ifc => cases h
  | stk => cases h
  | sptr => cases h
theorem frz_typ {i : Id} {sz : Nat} {ds : List D} (c : C) (τ : TypeId) (h : c.frz i sz ds = .typ τ) : c = .typ τ := by
  cases c with
  | lst o nl sz xs => cases h
  | typ t => exact h
  | undef => cases h
  | val => cases h
  | mem => cases h
  | ptr => simp only [C.frz] at h; split at h <;> cases h
  | row => simp only [C.frz] at h; split at h
           · split at h <;> cases h
           cases h
  | fn => simp only [C.frz] at h; split at h <;> cases h
  | ifc => cases h
  | stk => cases h
  | sptr => cases h
/-- the callee's memory out of the caller's -/
def pull (g : Gh) (ks : List Id) (d : Nat) : Gh := ⟨g.M, fun i => g.B (renI ks d i), fun t => g.O (renT ks d t)⟩
theorem WI.pull (hw : WI g s.heap w) {ks : List Id} {d : Nat} (hk : okKs ks d) {hl : Heap} (hh : ∀ i cs, hget hl i = some cs → ∃ k j ds, i = .arg k ∧ ks[k]? = some j ∧ hget s.heap j = some ds ∧ leCs (cs.map (C.ren ks d)) ds) :
    WI (pull g ks d) hl w := by
  have hb : ∀ i cs, hget hl i = some cs → ∃ ds, hget s.heap (renI ks d i) = some ds ∧ leCs (cs.map (C.ren ks d)) ds := by
    intro i cs hi
    obtain ⟨k, j, ds, rfl, hj, h, hle⟩ := hh i cs hi
    exact ⟨ds, by simpa [renI, hj] using h, hle⟩
  refine ⟨hw.mem, ?_, ?_, ?_, ?_, ?_, ?_, fun t r ht => hw.muta _ r ht⟩
  · intro i cs hi
    obtain ⟨ds0, hb1, hb2⟩ := hb i cs hi
    obtain ⟨ys, t, h1, h2, hT⟩ := hw.box _ _ hb1
    replace h2 := leCs_rel hb2 h2
    refine ⟨ys, t, h1, All2.of_get (by have := h2.length; simpa using this) fun j c y hc hy => ?_, (hT.le hb2).sub fun τ hτ => List.mem_map.2 ⟨_, hτ, rfl⟩⟩
    obtain ⟨y', hy', hr⟩ := h2.get (i := j) (a := c.ren ks d) (by simp [hc])
    rw [hy] at hy'
    cases hy'
    exact RelC.unren (g := g) (g' := Proofs.YtgeelaafmnedmaaGreat.pull g ks d) rfl (fun _ => rfl) (fun _ => rfl) hr
  · intro i j cs ds hi hj e
    obtain ⟨_, hb1, _⟩ := hb i cs hi
    obtain ⟨_, hb2, _⟩ := hb j ds hj
    exact renI_inj hk (hw.inj _ _ _ _ hb1 hb2 e)
  · intro i cs ad v hi ha
    obtain ⟨_, hb1, _⟩ := hb i cs hi
    exact hw.boxM _ _ ad v hb1 ha
  · exact fun t r ht => hw.own _ r ht
  · intro t r i cs ht hi
    obtain ⟨_, hb1, _⟩ := hb i cs hi
    exact hw.ownB _ r _ _ ht hb1
  exact fun t u r q h1 h2 e => renT_inj hk (hw.ownI _ _ r q h1 h2 e)

theorem sound_call0 {f : FuncId} {args : List V} {us : List Value} {d : Nat} {K : V → St → Prop} (hs : Sim E g s a w) (ha : All2 (RelV g) args us) (h : aCall0 P f args d s K) :
    Callable P f ∧ Calls P f us.toArray w fun e w' => ∃ x v s' g', e = .returned x ∧ K v s' ∧ RelV g' v x ∧ Sim E g' s' a w' := by
  obtain ⟨ks, args', hl, R, H, hk, hargs, hh, hK⟩ := h
  let gc := pull g ks d
  have hwc : WI gc hl w := hs.wi.pull hk hh
  have hac : All2 (RelW gc) args' us := by
    have gen : ∀ (args' : List W) (args : List V) (us : List Value), leA ks d args' args → All2 (RelV g) args us → All2 (RelW gc) args' us := by
      intro args'
      induction args' with
      | nil => intro args us h ha; cases args with
        | nil => rw [ha.nil_inv]; exact .nil
        | cons v _ => cases v <;> exact h.elim
      | cons x l ih => intro args us h ha; cases args with
        | nil => exact h.elim
        | cons v m =>
          obtain ⟨u, us', rfl, h1, h2⟩ := ha.cons_inv
          cases v with
          | w y => exact .cons (RelW.unren (g := g) (g' := gc) rfl (fun _ => rfl) (fun _ => rfl) (leW_rel h.1 h1)) (ih m us' h.2 h2)
          | tup _ => exact h.elim
    exact gen args' args us hargs ha
  have hb : ∀ i cs, hget hl i = some cs → ∃ ds, hget s.heap (renI ks d i) = some ds ∧ leCs (cs.map (C.ren ks d)) ds := by
    intro i cs hi
    obtain ⟨k, j, ds, rfl, hj, h, hle⟩ := hh i cs hi
    exact ⟨ds, by simpa [renI, hj] using h, hle⟩
  have hfoot : ∀ k, Foot gc hl k → Foot g s.heap k := by
    rintro k (⟨i, cs, hi, rfl⟩ | ⟨t, r, ht, rfl⟩)
    · obtain ⟨_, hb1, _⟩ := hb i cs hi; exact .inl ⟨_, _, hb1, rfl⟩
    exact .inr ⟨_, r, ht, rfl⟩
  refine ⟨H.1, (H.2 gc w us (fun k => (hs.defers.2 k).mono hs.cum.mem) hac hwc).mono ?_⟩
  rintro e w' ⟨x, v, h', g', rfl, hR, hv, hw', hc⟩
  let g2 : Gh := ⟨g'.M, mixB ks d g.B g'.B, mixO ks d g.O g'.O⟩
  have hB2 : ∀ i, g2.B (renI ks d i) = g'.B i := mixB_ren hk g.B g'.B
  have hO2 : ∀ t, g2.O (renT ks d t) = g'.O t := mixO_ren hk g.O g'.O
  have hMm : ∀ ad v, g.M ad = some v → g2.M ad = some v := hc.mem
  -- names that are not struck are as they were
  have hBold : ∀ j, rootI d j = false → g2.B j = g.B j := by
    intro j hj
    by_cases h : ∃ i, renI ks d i = j
    · obtain ⟨i, rfl⟩ := h
      rcases ren_cases (ks := ks) (d := d) i with ⟨k, rfl, hk'⟩ | h
      · rw [hB2, hc.argB]
        rfl
      rw [h] at hj; cases hj
    exact mixB_old _ _ fun i hi => h ⟨i, hi⟩
  have hOold : ∀ t, bornT ks d t = false → g2.O t = g.O t := by
    intro t ht
    refine mixO_old _ _ fun u hu => ?_
    rw [← hu, bornT_ren] at ht
    cases ht
  have relC : ∀ c y, RelC g c y → RelC g2 (c.clean (rootI d) (bornT ks d)) y := fun c y h => RelC.clean (g := g) (g' := g2) hMm hBold hOold h
  have relV : ∀ c y, RelV g c y → RelV g2 (c.clean (rootI d) (bornT ks d)) y := fun c y h => RelV.clean (g := g) (g' := g2) hMm hBold hOold h
  have relR : ∀ c y, RelC g' c y → RelC g2 (c.ren ks d) y := fun c y h => RelC.ren (g := g') (g' := g2) (fun _ _ h => h) hB2 hO2 h
  -- what is in the heap behind
  have heap : ∀ j cs, hget (s.back ks d h').heap j = some cs → (∃ i c0, j = renI ks d i ∧ hget h' i = some c0 ∧ cs = c0.map (C.ren ks d)) ∨
      (∃ c0, (∀ i, renI ks d i ≠ j) ∧ rootI d j = false ∧ j ∉ ks ∧ hget s.heap j = some c0 ∧ cs = c0.map (C.clean (rootI d) (bornT ks d))) := by
    intro j cs hj
    simp only [St.back] at hj
    rw [hget_append] at hj
    cases hq : hget (hren ks d h') j with
    | some c =>
      rw [hq] at hj
      cases hj
      obtain ⟨i, rfl⟩ := hget_hren_inv h' j hq
      rw [hget_hren hk] at hq
      simp only [Option.map_eq_some_iff] at hq
      obtain ⟨c0, h0, rfl⟩ := hq
      exact .inl ⟨i, c0, rfl, h0, rfl⟩
    | none =>
      rw [hq] at hj
      simp only at hj
      rw [hget_hkeep] at hj
      split at hj
      · cases hj
      rename_i hnk
      rw [hget_hclean] at hj
      cases hr : rootI d j with
      | true => rw [hr] at hj; cases hj
      | false =>
        rw [hr] at hj
        simp only [Bool.false_eq_true, if_false, Option.map_eq_some_iff] at hj
        obtain ⟨c0, h0, rfl⟩ := hj
        have hnk' : j ∉ ks := by simpa using hnk
        refine .inr ⟨c0, fun i hi => ?_, rfl, hnk', h0, rfl⟩
        rcases ren_cases (ks := ks) (d := d) i with ⟨k, _, h1⟩ | h1
        · rw [hi] at h1; exact hnk' (List.mem_of_getElem? h1)
        rw [hi, hr] at h1; cases h1
  -- a kept box is not the callee's
  have apart : ∀ j c0, (∀ i, renI ks d i ≠ j) → hget s.heap j = some c0 → ¬ Foot gc hl (g.B j) := by
    rintro j c0 hn hj (⟨i, cs, hi, e⟩ | ⟨t, r, ht, e⟩)
    · obtain ⟨_, hb1, _⟩ := hb i cs hi; exact hn i (hs.wi.inj _ _ _ _ hb1 hj e)
    exact hs.wi.ownB _ r _ _ ht hj e
  have boxlt : ∀ j c0, hget s.heap j = some c0 → g.B j < w.heap.size := fun j c0 hj => by obtain ⟨_, _, h1, _⟩ := hs.wi.box j c0 hj; exact block_lt h1
  have apartO : ∀ t r, (∀ u, renT ks d u ≠ t) → g.O t = some r → ¬ Foot gc hl r.blk := by
    rintro t r hn ht (⟨i, cs, hi, e⟩ | ⟨u, q, hu, e⟩)
    · obtain ⟨_, hb1, _⟩ := hb i cs hi; exact hs.wi.ownB _ r _ _ ht hb1 e.symm
    exact hn u (hs.wi.ownI _ _ q r hu ht e)
  have ownlt : ∀ t r, g.O t = some r → r.blk < w.heap.size := fun t r ht => by obtain ⟨_, h1, _⟩ := hs.wi.own t r ht; exact block_lt h1
  have own : ∀ t r, g2.O t = some r → (∃ u, t = renT ks d u ∧ g'.O u = some r) ∨ ((∀ u, renT ks d u ≠ t) ∧ g.O t = some r) := by
    intro t r ht
    by_cases h : ∃ u, renT ks d u = t
    · obtain ⟨u, rfl⟩ := h
      rw [hO2] at ht
      exact .inl ⟨u, rfl, ht⟩
    have hn : ∀ u, renT ks d u ≠ t := fun u hu => h ⟨u, hu⟩
    refine .inr ⟨hn, ?_⟩
    rw [show g2.O t = g.O t from mixO_old _ _ hn] at ht
    exact ht
  -- memory that became readable is the callee's, or new
  have memN : ∀ k, k < w.heap.size → ¬ Foot gc hl k → ∀ ad v, g'.M ad = some v → ad.block = k → g.M ad = some v := by
    intro k hlt hn ad v ha e
    rcases hc.memN ad v ha with h | h | h
    · exact h
    · rw [e] at h; exact absurd h hn
    have h : w.heap.size ≤ ad.block := h
    omega
  have keep : ∀ k, k < w.heap.size → ¬ Foot gc hl k → w'.heap[k]? = w.heap[k]? := fun k hlt hn => hc.unch k hlt hn
  have foot' : ∀ k, Foot g' h' k → Foot gc hl k ∨ w.heap.size ≤ k := hc.foot
  refine ⟨x, v.ren ks d, s.back ks d h', g2, rfl, hK v h' hR, RelV.ren (g := g') (g' := g2) (fun _ _ h => h) hB2 hO2 hv, hs.slots.map relV, hs.defers, ⟨hw'.mem, ?_, ?_, ?_, ?_, ?_, ?_, ?_⟩, hs.cum.trans ⟨hc.os, hc.tape, hc.output, hc.size, ?_, ?_, hMm, ?_, ?_⟩⟩
  · intro j cs hj
    rcases heap j cs hj with ⟨i, c0, rfl, h0, rfl⟩ | ⟨c0, hn, hr, _, h0, rfl⟩
    · obtain ⟨ys, t, h1, h2, hT⟩ := hw'.box i c0 h0
      exact ⟨ys, t, by rw [hB2]; exact h1, h2.map relR, hT.mapf ren_typ⟩
    obtain ⟨ys, t, h1, h2, hT⟩ := hs.wi.box j c0 h0
    refine ⟨ys, t, ?_, h2.map relC, hT.mapf clean_typ⟩
    rw [hBold j hr, keep _ (boxlt j c0 h0) (apart j c0 hn h0)]
    exact h1
  · intro i j cs ds hi hj e
    rcases heap i cs hi with ⟨i', c0, rfl, h0, _⟩ | ⟨c0, hn, hr, _, h0, _⟩ <;> rcases heap j ds hj with ⟨j', d0, rfl, k0, _⟩ | ⟨d0, hm, hq, _, k0, _⟩
    · rw [hB2, hB2] at e
      rw [hw'.inj _ _ _ _ h0 k0 e]
    · rw [hB2, hBold j hq] at e
      rcases foot' _ (.inl ⟨i', c0, h0, e⟩) with h | h
      · exact absurd h (apart j d0 hm k0)
      have := boxlt j d0 k0; omega
    · rw [hB2, hBold i hr] at e
      rcases foot' _ (.inl ⟨j', d0, k0, e.symm⟩) with h | h
      · exact absurd h (apart i c0 hn h0)
      have := boxlt i c0 h0; omega
    rw [hBold i hr, hBold j hq] at e
    exact hs.wi.inj _ _ _ _ h0 k0 e
  · intro j cs ad v hj ha
    rcases heap j cs hj with ⟨i, c0, rfl, h0, rfl⟩ | ⟨c0, hn, hr, _, h0, rfl⟩
    · rw [hB2]; exact hw'.boxM i c0 ad v h0 ha
    rw [hBold j hr]
    intro e
    exact hs.wi.boxM j c0 ad v h0 (memN _ (boxlt j c0 h0) (apart j c0 hn h0) ad v ha e) e
  · intro t r ht
    rcases own t r ht with ⟨u, rfl, hu⟩ | ⟨hn, hu⟩
    · exact hw'.own u r hu
    obtain ⟨cur, h1, h2, h3, h4, h5⟩ := hs.wi.own t r hu
    refine ⟨cur, by rw [keep _ (ownlt t r hu) (apartO t r hn hu)]; exact h1, h2, h3, h4, fun ad v ha e => h5 ad v (memN _ (ownlt t r hu) (apartO t r hn hu) ad v ha e) e⟩
  · intro t r j cs ht hj e
    rcases own t r ht with ⟨u, rfl, hu⟩ | ⟨hn, hu⟩ <;> rcases heap j cs hj with ⟨j', d0, rfl, k0, _⟩ | ⟨d0, hm, hq, _, k0, _⟩
    · rw [hB2] at e; exact hw'.ownB u r j' d0 hu k0 e
    · rw [hBold j hq] at e
      rcases foot' _ (.inr ⟨u, r, hu, e⟩) with h | h
      · exact absurd h (apart j d0 hm k0)
      have := boxlt j d0 k0; omega
    · rw [hB2] at e
      rcases foot' _ (.inl ⟨j', d0, k0, e.symm⟩) with h | h
      · exact absurd h (apartO t r hn hu)
      have := ownlt t r hu; omega
    rw [hBold j hq] at e; exact hs.wi.ownB t r j d0 hu k0 e
  · intro t t' r r' h1 h2 e
    rcases own t r h1 with ⟨u, rfl, hu⟩ | ⟨hn, hu⟩ <;> rcases own t' r' h2 with ⟨u', rfl, hu'⟩ | ⟨hn', hu'⟩
    · rw [hw'.ownI _ _ _ _ hu hu' e]
    · rcases foot' _ (.inr ⟨u, r, hu, e⟩) with h | h
      · exact absurd h (apartO t' r' hn' hu')
      have := ownlt t' r' hu'; omega
    · rcases foot' _ (.inr ⟨u', r', hu', e.symm⟩) with h | h
      · exact absurd h (apartO t r hn hu)
      have := ownlt t r hu; omega
    exact hs.wi.ownI _ _ _ _ hu hu' e
  · intro t r ht
    rcases own t r ht with ⟨u, rfl, hu⟩ | ⟨hn, hu⟩
    · exact hw'.muta u r hu
    exact (hs.wi.muta t r hu).mono hMm (fun ad v ha e => memN _ (ownlt t r hu) (apartO t r hn hu) ad v ha e) (keep _ (ownlt t r hu) (apartO t r hn hu))
  · intro k hlt hF
    exact keep k hlt fun h => hF (hfoot k h)
  · rintro k (⟨j, cs, hj, rfl⟩ | ⟨t, r, ht, rfl⟩)
    · rcases heap j cs hj with ⟨i, c0, rfl, h0, rfl⟩ | ⟨c0, hn, hr, _, h0, rfl⟩
      · rw [hB2]
        rcases foot' _ (.inl ⟨i, c0, h0, rfl⟩) with h | h
        · exact .inl (hfoot _ h)
        exact .inr h
      rw [hBold j hr]; exact .inl (.inl ⟨j, c0, h0, rfl⟩)
    rcases own t r ht with ⟨u, rfl, hu⟩ | ⟨hn, hu⟩
    · rcases foot' _ (.inr ⟨u, r, hu, rfl⟩) with h | h
      · exact .inl (hfoot _ h)
      exact .inr h
    exact .inl (.inr ⟨t, r, hu, rfl⟩)
  · intro ad v ha
    rcases hc.memN ad v ha with h | h | h
    · exact .inl h
    · exact .inr (.inl (hfoot _ h))
    exact .inr (.inr h)
  intro k
  exact hBold _ rfl
theorem sound_callT {f : FuncId} {d : Nat} {K : V → St → Prop} {args : List V} {us : List Value} (hs : Sim E g s a w) (ha : All2 (RelV g) args us) (h : aCallT P f args d s K) :
    Callable P f ∧ Calls P f us.toArray w fun e w' => ∃ x v s' g', e = .returned x ∧ K v s' ∧ RelV g' v x ∧ Sim E g' s' a w' := by
  obtain ⟨rt, h⟩ := h
  induction rt generalizing g s args with
  | nil =>
    have e : V.retags [] = id := rfl
    rw [e, List.map_id] at h
    exact sound_call0 hs ha h
  | cons p l ih =>
    refine ih (g := g.retag p.1 p.2) (s := s.retag p.1 p.2) (args := args.map (V.retag p.1 p.2)) (hs.retag p.1 p.2) (ha.map fun _ _ h => RelV.retag h) ?_
    rw [List.map_map]
    exact h

theorem hget_hfrz (i : Id) (sz : Nat) (ds : List D) (h : Heap) (j : Id) : hget (hfrz i sz ds h) j = if j = i then none else (hget h j).map (List.map (C.frz i sz ds)) := by
  induction h with
  | nil => simp [hfrz, hget]
  | cons p h ih =>
    obtain ⟨k, c⟩ := p
    simp only [hfrz]
    by_cases hk : k = i
    · subst hk
      simp only [if_true, ih, hget]
      by_cases hj : j = k
      · simp [hj]
      simp [hj, Ne.symm hj]
    rw [if_neg hk]
    simp only [hget]
    by_cases hj : k = j
    · subst hj; simp [hk]
    rw [if_neg hj, if_neg hj, ih]
/-- memory that may be read from now on: a whole box -/
theorem Sim.frz {i : Id} {sz : Nat} {ds : List D} (hs : Sim E g s a w) (hf : frzOK s i ds) : ∃ g', Sim E g' (s.frz i sz ds) a w ∧ ∀ v x, RelV g v x → RelV g' (v.frz i sz ds) x := by
  obtain ⟨cs, hi, hle, hd⟩ := hf
  obtain ⟨ys, ty, hb, hr, _⟩ := hs.wi.box i cs hi
  have hlen := hr.length
  simp only [Array.length_toList] at hlen
  let g1 : Gh := ⟨addM g.M (g.B i) ys.toList, g.B, g.O⟩
  have hold : ∀ a v, g.M a = some v → a.block = g.B i → a.off < ys.toList.length → ys.toList[a.off]? = some v := fun a v ha e => absurd e (hs.wi.boxM i cs a v hi ha)
  have hMm : ∀ a v, g.M a = some v → g1.M a = some v := fun a v ha => addM_old hold ha
  have hdr : All2 (RelD g.M) ds (ys.toList.take ds.length) := allD_rel hd (hr.take _)
  have relC : ∀ c y, RelC g c y → RelC g1 (c.frz i sz ds) y := by
    intro c y hc
    cases c with
    | undef => trivial
    | val x => exact hc
    | lst o nl sz' xs => exact ⟨hc.1.mono hMm, hc.2⟩
    | ptr j o =>
      simp only [C.frz]
      split
      · trivial
      exact hc
    | mem xs => obtain ⟨a, h1, h2⟩ := hc; exact ⟨a, h1, h2.mono hMm⟩
    | row j o n c =>
      simp only [C.frz]
      split
      · rename_i e
        subst e
        split
        · rename_i hq
          obtain ⟨h0, h1, h2, h3⟩ := hq
          obtain rfl := hc
          have hln : ((ds.drop o).take (n * sz)).length = n * sz := by simp; omega
          refine ⟨RelD.mk (by simp) h0 (by rw [hln]) h1 h2 ?_, trivial⟩
          intro k d hk
          rw [List.getElem?_take] at hk
          split at hk
          · rw [List.getElem?_drop] at hk
            obtain ⟨y, hy, hy2⟩ := hdr.get hk
            rw [List.getElem?_take] at hy
            split at hy
            · refine ⟨y, ?_, hy2.mono hMm⟩
              rw [add_mk]
              show addM g.M (g.B j) ys.toList _ = some y
              unfold addM
              rw [if_pos ⟨rfl, rfl, (List.getElem?_eq_some_iff.1 hy).1⟩]
              exact hy
            cases hy
          cases hk
        trivial
      exact hc
    | typ => exact hc
    | ifc => exact hc
    | stk => exact hc
    | sptr => exact hc
    | fn f x z =>
      simp only [C.frz]
      split
      · trivial
      exact hc
  have relW : ∀ c y, RelW g c y → RelW g1 (c.frz i sz ds) y := by
    intro c y hc
    cases c with
    | c x => exact relC _ _ hc
    | agg cs => obtain ⟨ys, h1, h2⟩ := hc; exact ⟨ys, h1, h2.map relC⟩
  have relV : ∀ c y, RelV g c y → RelV g1 (c.frz i sz ds) y := by
    intro c y hc
    cases c with
    | w x => exact relW _ _ hc
    | tup cs => obtain ⟨ys, h1, h2⟩ := hc; exact ⟨ys, h1, h2.map relW⟩
  have heap : ∀ j c, hget (s.frz i sz ds).heap j = some c → j ≠ i ∧ ∃ c0, hget s.heap j = some c0 ∧ c = c0.map (C.frz i sz ds) := by
    intro j c hj
    simp only [St.frz] at hj
    rw [hget_hfrz] at hj
    split at hj
    · cases hj
    rename_i hne
    simp only [Option.map_eq_some_iff] at hj
    obtain ⟨c0, h0, rfl⟩ := hj
    exact ⟨hne, c0, h0, rfl⟩
  refine ⟨g1, ⟨hs.slots.map relV, hs.defers, ⟨?_, ?_, ?_, ?_, ?_, ?_, hs.wi.ownI, ?_⟩, hs.cum.trans ⟨rfl, rfl, rfl, Nat.le_refl _, fun _ _ _ => rfl, ?_, hMm, ?_, fun _ => rfl⟩⟩, relV⟩
  · intro ad v ha
    rcases addM_inv ha with ha | ⟨h1, h2, h3, h4⟩
    · exact hs.wi.mem ad v ha
    obtain ⟨b, o, sp⟩ := ad
    simp only at h1 h2 h3 h4
    subst h1; subst h2
    rw [cell_row hb, ← Array.getElem?_toList]
    exact h4
  · intro j c hj
    obtain ⟨_, c0, h0, rfl⟩ := heap j c hj
    obtain ⟨zs, u, h1, h2, hT⟩ := hs.wi.box j c0 h0
    exact ⟨zs, u, h1, h2.map relC, hT.mapf frz_typ⟩
  · intro j k c d hj hk e
    obtain ⟨_, c0, h0, _⟩ := heap j c hj
    obtain ⟨_, d0, h1, _⟩ := heap k d hk
    exact hs.wi.inj j k _ _ h0 h1 e
  · intro j c ad v hj ha
    obtain ⟨hne, c0, h0, _⟩ := heap j c hj
    rcases addM_inv ha with ha | ⟨h1, _⟩
    · exact hs.wi.boxM j c0 ad v h0 ha
    intro e
    exact hne (hs.wi.inj j i _ _ h0 hi (e.symm.trans h1))
  · intro t r ht
    obtain ⟨cur, h1, h2, h3, h4, h5⟩ := hs.wi.own t r ht
    refine ⟨cur, h1, h2, h3, h4, fun ad v ha e => ?_⟩
    rcases addM_inv ha with ha | ⟨h6, _⟩
    · exact h5 ad v ha e
    exact absurd (e.symm.trans h6) (hs.wi.ownB t r i cs ht hi)
  · intro t r j c ht hj
    obtain ⟨_, c0, h0, _⟩ := heap j c hj
    exact hs.wi.ownB t r j c0 ht h0
  · intro t r ht
    refine (hs.wi.muta t r ht).mono hMm (fun ad v ha e => ?_) rfl
    rcases addM_inv ha with ha | ⟨h6, _⟩
    · exact ha
    exact absurd (e.symm.trans h6) (hs.wi.ownB t r i cs ht hi)
  · rintro k (⟨j, c, hj, rfl⟩ | ⟨t, r, ht, rfl⟩)
    · obtain ⟨_, c0, h0, _⟩ := heap j c hj
      exact .inl (.inl ⟨j, c0, h0, rfl⟩)
    exact .inl (.inr ⟨t, r, ht, rfl⟩)
  intro ad v ha
  rcases addM_inv ha with ha | ⟨h1, _⟩
  · exact .inl ha
  exact .inr (.inl (.inl ⟨i, cs, hi, h1.symm⟩))
theorem sound_callF {f : FuncId} {d : Nat} {K : V → St → Prop} {args : List V} {us : List Value} (hs : Sim E g s a w) (ha : All2 (RelV g) args us) (h : aCallF P f args d s K) :
    Callable P f ∧ Calls P f us.toArray w fun e w' => ∃ x v s' g', e = .returned x ∧ K v s' ∧ RelV g' v x ∧ Sim E g' s' a w' := by
  rcases h with h | ⟨i, sz, ds, hf, h⟩
  · exact sound_callT hs ha h
  obtain ⟨g1, hs1, hr⟩ := hs.frz (sz := sz) hf
  exact sound_callT hs1 (ha.map hr) h
end
end
section
def pvV (p : Id × Nat) : V := .cell (.ptr p.1 p.2)
def aLoad (P : Program) (t : TypeId) (x : V) (s : St) (K : V → Prop) : Prop :=
  match x with
  | .w (.c (.ptr _ _)) => aLoadBox P t x s K
  | .w (.c (.sptr _ off _ xs)) => ∃ z, sizeT P t = some z ∧ aPart P t z (xs.map D.toC) off K
  | _ => aLoadMem P t x K
/-- a slice, or a row of one's own cut short -/
def aSliceS (P : Program) (t : TypeId) (x : V) (lo hi : Option V) (dst : Option Nat) (s : St) (K : V → St → Prop) : Prop :=
  match x, lo, hi, dst with
  | .w (.c (.stk τ sz xs)), none, some (.w (.c (.val (.int _ h)))), some d => aSliceK P t τ sz xs h d s K
  | x, lo, hi, _ => aSlice P t x lo hi fun v => K v s
def aOp (P : Program) (o : Oper) (s : St) (K : V → St → Prop) : Prop :=
  match o.op with
  | .load t x => aLoad P t (s.ev x) s fun v => K v s
  | .store t x y => aStore P t (s.ev x) (s.ev y) s K
  | .convert t t' x => aConvS P t t' (s.ev x) s K
  | .alloc e => ∃ d z, o.dst = some d ∧ allocC P e = some z ∧ aNewA d z s K
  | .box _ x => ∃ d cs, o.dst = some d ∧ cellsOf (s.ev x) = some cs ∧ aNew d cs s K
  | .build t parts => aBuild P t (parts.toList.map fun p => (p.1, s.ev p.2)) fun v => K v s
  | .buildSlice t n parts => ∃ d, o.dst = some d ∧ aBuildSlice P t n (parts.toList.map fun p => (p.1, s.ev p.2)) d s K
  | .makeSlice t l c => ∃ d, o.dst = some d ∧ aMakeSlice P t (s.ev l) (s.ev c) d s K
  | .call ⟨.builtin .append, ⟨[x, y]⟩, ⟨[t, t']⟩⟩ => ∃ d, o.dst = some d ∧ aAppT P t t' (s.ev x) (s.ev y) d s K
  | .slice t x lo hi none => aSliceS P t (s.ev x) (lo.map s.ev) (hi.map s.ev) o.dst s K
  | .call ⟨.builtin .copy, ⟨[x, y]⟩, ⟨[t, _]⟩⟩ => aCopy P t (s.ev x) (s.ev y) s K
  | .call ⟨.value f, ⟨args⟩, _⟩ => match s.ev f with
    | .w (.c (.fn (.func k) first caps)) => aCallF P k (first.map pvV ++ args.map s.ev ++ caps.map pvV) (o.dst.getD 1000003) s K
    | _ => False
  | op => aPureOp P op s fun v => K v s

section
variable {P : Program} {E : Entry} {g : Gh} {w : World} {s : St} {a : Act}
theorem evs_rel (hs : Sim E g s a w) (l : List Operand) : All2 (RelV g) (l.map s.ev) (l.map a.eval) := by
  induction l with
  | nil => exact .nil
  | cons x l ih => exact .cons (hs.ev x) ih
theorem parts_rel (hs : Sim E g s a w) (l : List (Nat × Operand)) : All2 (fun p q => p.1 = q.1 ∧ RelV g p.2 q.2) (l.map fun p => (p.1, s.ev p.2)) (l.map fun p => (p.1, a.eval p.2)) := by
  induction l with
  | nil => exact .nil
  | cons x l ih => exact .cons ⟨rfl, hs.ev x.2⟩ ih
theorem pvs_rel (g : Gh) (l : List (Id × Nat)) : All2 (RelV g) (l.map pvV) (l.map (pv g.B)) := by
  induction l with
  | nil => exact .nil
  | cons x l ih => exact .cons rfl ih

/-- an operation that comes to a value -/
theorem wp_value {o : Oper} {next : Act → World → Prop} {Q : Exit → Act → World → Prop} {z : Value} {w' : World} (h : (execOp a.eval o).run P w = .ok (.value z) w') (hn : next (a.put o.dst z) w') : o.wp P a w next Q := by
  unfold Oper.wp; rw [h]; exact hn
theorem aOp_sound {o : Oper} {K : V → St → Prop} {next : Act → World → Prop} {Q : Exit → Act → World → Prop} (hs : Sim E g s a w) (h : aOp P o s K)
    (hn : ∀ v s' g' w' x, K v s' → Sim E g' s' a w' → RelV g' v x → next (a.put o.dst x) w') : o.wp P a w next Q := by
  have pure_ : ∀ {K' : V → Prop}, aPureOp P o.op s K' → (∀ v, K' v → K v s) → o.wp P a w next Q := fun h hk => by
    obtain ⟨r, z, h1, h2, h3⟩ := aPureOp_sound (P := P) (o := o) (ρ := a.eval) (fun x => hs.ev x) h
    exact wp_value (h3 w fun _ => hs.wi.mem) (hn r s g w z (hk r h1) hs h2)
  obtain ⟨dst, op, type, pos, after, guard⟩ := o
  unfold aOp at h
  dsimp only at h pure_ hn ⊢
  split at h
  · rename_i t x
    unfold aLoad at h
    split at h
    · obtain ⟨r, z, h1, h2, h3⟩ := sound_loadBox hs.wi (hs.ev _) h
      exact wp_value (w' := w) (z := z) (by simp [execOp, h3 w rfl]) (hn r s g w z h1 hs h2)
    · rename_i hx
      have hr := hs.ev x
      rw [hx] at hr
      obtain ⟨r, z, h1, h2, h3⟩ := sound_loadK hs.wi hr h
      exact wp_value (w' := w) (z := z) (by simp [execOp, h3 w rfl]) (hn r s g w z h1 hs h2)
    exact pure_ (K' := fun v => K v s) h fun _ h => h
  · obtain ⟨r, s', g', w', h1, h2, h3, h4⟩ := sound_store hs (hs.ev _) (hs.ev _) h
    rename_i t x y
    unfold Oper.wp
    have : (execOp a.eval { dst := dst, op := Op.store t x y, type := type, pos := pos, after := after, guard := guard }).run P w = .ok .skip w' := by
      simp only [execOp, Sem.run_bind, h4, Result.andThen_ok]; rfl
    rw [this]
    exact hn r s' g' w' undef h1 h3 (by rw [h2]; trivial)
  · rename_i t t' x
    obtain ⟨r, s', g', w', z, h1, h2, h3, h4⟩ := sound_convS hs (hs.ev x) h (fun hc => run_conv (hs.ev x) hc)
    refine wp_value (w' := w') (z := z) ?_ (hn r s' g' _ _ h1 h3 h2)
    simp only [execOp, Sem.run_bind, h4]
    rfl
  · obtain ⟨d, z, rfl, hz, h⟩ := h
    obtain ⟨ie, zv, hie, hzv, hrz, hT⟩ := allocC_spec hz
    rename_i e
    obtain ⟨r, s', g', h1, h2, h3⟩ := sound_newA (t := e) hs (ys := zv.cells) hrz hT (Grow1.alloc w _ e) h
    refine wp_value (w' := w.alloc (.cells zv.cells e)) (z := .pointer (some ⟨w.heap.size, 0, none⟩)) ?_ (hn r s' g' _ _ h1 h3 h2)
    simp [execOp, Instr.alloc, zeroValue, typeInfo, hie, hzv, newVar, newRow]
  · obtain ⟨d, cs, rfl, hc, h⟩ := h
    rename_i e x
    obtain ⟨r, s', g', h1, h2, h3, _⟩ := sound_new (t := e) hs (ys := (a.eval x).cells) (cellsOf_rel (hs.ev x) hc) (Grow1.alloc w _ e) h
    refine wp_value (w' := w.alloc (.cells (a.eval x).cells e)) (z := .pointer (some ⟨w.heap.size, 0, none⟩)) ?_ (hn r s' g' _ _ h1 h3 h2)
    simp [execOp, Instr.box, newVar, newRow]
  · rename_i t parts
    obtain ⟨z, pl, cs, hz, hpl, hf, h⟩ := h
    obtain ⟨ie, zv, hie, hzv, rfl⟩ := zeroC_spec hz
    obtain ⟨ys, hfill, hr⟩ := aFill_rel (parts_rel hs parts.toList) (ofCells_rel g zv.cells.toList) hf
    have hb : P.built t (parts.toList.map fun p => (p.1, a.eval p.2)) = some ys := by
      unfold Program.built
      split at hpl
      · rename_i hu
        obtain ⟨n, hn', rfl⟩ := hpl
        obtain ⟨i2, hi2, hi3⟩ := sizeT_info hn'
        simp only [hie, hu, hzv, hi2, hi3]
        exact hfill
      · rename_i fs hu
        obtain ⟨l, hl, rfl⟩ := hpl
        simp only [hie, hu, hzv, hl]
        simpa using hfill
      exact hpl.elim
    have hrun := run_build (P := P) w t _ ys hb
    refine wp_value (w' := w) (z := .agg ys) ?_ (hn _ s g w _ h hs ⟨ys, rfl, hr⟩)
    have e : (parts.map fun (i, x) => (i, a.eval x)) = (parts.toList.map fun p => (p.1, a.eval p.2)).toArray := by
      apply Array.ext'; simp
    simp only [execOp, e, Sem.run_bind]
    rw [hrun]
    rfl
  · rename_i t n parts
    obtain ⟨d, rfl, h⟩ := h
    obtain ⟨r, s', g', w', z, h1, h2, h3, h4⟩ := sound_buildSlice (t := t) hs (parts_rel hs parts.toList) h
    refine wp_value (w' := w') (z := z) ?_ (hn r s' g' _ _ h1 h3 h2)
    have e : (parts.map fun (i, x) => (i, a.eval x)) = (parts.toList.map fun p => (p.1, a.eval p.2)).toArray := by
      apply Array.ext'; simp
    simp only [execOp, e, Sem.run_bind, h4]
    rfl
  · obtain ⟨d, rfl, h⟩ := h
    obtain ⟨r, s', g', w', z, h1, h2, h3, h4⟩ := sound_makeSlice hs (hs.ev _) (hs.ev _) h
    refine wp_value (w' := w') (z := z) ?_ (hn r s' g' _ _ h1 h3 h2)
    simp [execOp, h4]
  · obtain ⟨d, rfl, h⟩ := h
    obtain ⟨r, s', g', w', z, h1, h2, h3, h4⟩ := sound_appX (ty := type) hs (hs.ev _) (hs.ev _) h
    refine wp_value (w' := w') (z := z) ?_ (hn r s' g' _ _ h1 h3 h2)
    simp [execOp, resolve, invoke, builtin, h4]
  · rename_i t x lo hi
    unfold aSliceS at h
    split at h
    · rename_i τ sz xs k hv d hx hl hh
      have hr := hs.ev x
      rw [hx] at hr
      cases lo with
      | some _ => cases hl
      | none =>
        cases hi with
        | none => cases hh
        | some y =>
          have hy := hs.ev y
          simp only [Option.map_some, Option.some.injEq] at hh
          rw [hh] at hy
          obtain ⟨_, hy⟩ := hy
          obtain ⟨r, s', g', h1, z, h2, h3, h4⟩ := sound_sliceK (k := k) hs hr h
          refine wp_value (w' := w) (z := z) ?_ (hn r s' g' w z h1 h3 h2)
          simp [execOp, hy, h4]
    exact pure_ (K' := fun v => K v s) h fun _ h => h
  · rename_i t' 
    obtain ⟨r, s', g', w', z, h1, h2, h3, h4⟩ := sound_copy (t' := t') (ty := type) hs (hs.ev _) (hs.ev _) h
    refine wp_value (w' := w') (z := z) ?_ (hn r s' g' _ _ h1 h3 h2)
    simp [execOp, resolve, invoke, builtin, h4]
  · rename_i f args ats
    split at h
    · rename_i k first caps hf
      have hfr := hs.ev f
      rw [hf] at hfr
      have hfv : a.eval f = .func (.func k) (first.map (pv g.B)).toArray (caps.map (pv g.B)).toArray := hfr
      have hargs : All2 (RelV g) (first.map pvV ++ args.map s.ev ++ caps.map pvV) (first.map (pv g.B) ++ args.map a.eval ++ caps.map (pv g.B)) :=
        ((pvs_rel g first).append (evs_rel hs args)).append (pvs_rel g caps)
      obtain ⟨hc, hcall⟩ := sound_callF hs hargs h
      unfold Oper.wp
      have e : (execOp a.eval { dst := dst, op := Op.call ⟨.value f, ⟨args⟩, ats⟩, type := type, pos := pos, after := after, guard := guard }).run P w = .ok (.enter k (first.map (pv g.B) ++ args.map a.eval ++ caps.map (pv g.B)).toArray) w := by
        have := hc (first.map (pv g.B) ++ args.map a.eval ++ caps.map (pv g.B)).toArray w
        simp only [execOp, resolve, hfv, Deferred.ofValue, invoke, Sem.run_bind, Sem.run_pure, Result.andThen_ok]
        rw [← this]
        congr 2
        simp
      rw [e]
      refine hcall.mono ?_
      rintro e w' ⟨x, v, s', g', rfl, h1, h2, h3⟩
      exact hn v s' g' w' x h1 h3 h2
    exact h.elim
  exact pure_ (K' := fun v => K v s) h fun _ h => h
end

/-! ### regions -/
def aWanted (ops : Array Oper) (o : Oper) (s : St) (yes no : Prop) : Prop :=
  match o.guard with
  | none => yes
  | some (j, want) => match (ops[j]?).bind (·.dst) with
    | some t => match s.slots.getD t V.undef with
      | .w (.c (.val (.bool b))) => (b = want → yes) ∧ (b = !want → no)
      | .tup [] => no
      | _ => False
    | none => False
/-- what an operation leaves that was not wanted -/
abbrev V.off : V := .tup []
theorem off_rel {g : Gh} : RelV g V.off undef := ⟨#[], rfl, .nil⟩
def aList (P : Program) (ops : Array Oper) : List Oper → (St → Prop) → St → Prop
  | [], K, s => K s
  | o :: rest, K, s => aWanted ops o s (aOp P o s fun v s' => aList P ops rest K (s'.put o.dst v)) (aList P ops rest K (s.put o.dst V.off))

section
variable {P : Program} {E : Entry} {g : Gh} {w : World} {s : St} {a : Act}
theorem wanted_sound {ops : Array Oper} {o : Oper} {yes no : Prop} (hs : Sim E g s a w) (h : aWanted ops o s yes no) :
    (Region.wanted o (yielded ops a.tmps) = true ∧ yes) ∨ (Region.wanted o (yielded ops a.tmps) = false ∧ no) := by
  unfold aWanted at h
  split at h
  · rename_i hg; exact .inl ⟨by simp [Region.wanted, hg], h⟩
  rename_i j want hg
  split at h
  · rename_i t ht
    split at h
    · rename_i b hb
      have hr := hs.ev (.tmp t)
      simp only [St.ev, hb] at hr
      obtain ⟨_, hv⟩ := hr
      have hlt : t < a.tmps.size := by
        rcases Nat.lt_or_ge t a.tmps.size with h | h
        · exact h
        simp only [Act.eval] at hv
        rw [Array.getD_eq_getD_getElem?, Array.getElem?_eq_none h] at hv
        cases hv
      have hy : yielded ops a.tmps j = some b := by
        unfold yielded
        simp only [Act.eval] at hv
        rw [Array.getD_eq_getD_getElem?, Array.getElem?_eq_getElem hlt] at hv
        simp only [Option.getD_some] at hv
        simp [ht, Array.getElem?_eq_getElem hlt, hv]
      by_cases hbw : b = want
      · exact .inl ⟨by simp [Region.wanted, hg, hy, hbw], h.1 hbw⟩
      refine .inr ⟨by simp [Region.wanted, hg, hy, hbw], h.2 ?_⟩
      cases b <;> cases want <;> simp_all
    · rename_i hb
      have hr := hs.ev (.tmp t)
      simp only [St.ev, hb] at hr
      obtain ⟨ys, hv, _⟩ := hr
      have hy : yielded ops a.tmps j = none := by
        unfold yielded
        simp only [Act.eval] at hv
        rw [Array.getD_eq_getD_getElem?] at hv
        simp only [ht, Option.bind_some]
        cases hq : a.tmps[t]? with
        | none => rfl
        | some z =>
          rw [hq] at hv
          simp only [Option.getD_some] at hv
          subst hv
          rfl
      exact .inr ⟨by simp [Region.wanted, hg, hy], h⟩
    exact h.elim
  exact h.elim
theorem aList_sound {ops : Array Oper} {Q : Exit → Act → World → Prop} {l : List Oper} : ∀ {g : Gh} {s : St} {a : Act} {w : World} {K : St → Prop}, Sim E g s a w → aList P ops l K s →
    (∀ s' g' a' w', K s' → Sim E g' s' a' w' → Q .normal a' w') → wpList P ops Q l a w := by
  induction l with
  | nil => intro g s a w K hs h hn; exact hn s g a w h hs
  | cons o l ih =>
    intro g s a w K hs h hn
    unfold wpList
    rcases wanted_sound hs h with ⟨hw, h⟩ | ⟨hw, h⟩
    · rw [if_pos hw]
      refine .inl (aOp_sound hs h fun v s' g' w' x hk hs' hr => ?_)
      exact ih (hs'.put hr o.dst) hk hn
    rw [if_neg (by simp [hw])]
    exact ih (hs.put (v := V.off) off_rel o.dst) h hn
end

/-- in which order a region that draws is looked at -/
inductive Plan where
  | done
  | take (i : Nat) (p : Plan)
  | both (l : List (Nat × Plan))
def quietOp : Op → Bool
  | .move _ => true
  | .assign _ => true
  | .pick _ _ _ => true
  | .binOp _ _ _ _ _ => true
  | .unOp _ _ _ => true
  | .convert _ _ _ => true
  | .fieldAddr _ _ _ => true
  | .field _ _ _ => true
  | .indexAddr _ _ _ => true
  | .index _ _ _ => true
  | .extract _ _ => true
  | .nilCheck _ => true
  | .makeFunc _ _ _ => true
  | .makeInterface _ _ => true
  | .slice _ _ _ _ _ => true
  | .load _ _ => true
  | .call ⟨.builtin .len, _, _⟩ => true
  | .call ⟨.builtin .max, _, _⟩ => true
  | .call ⟨.builtin .min, _, _⟩ => true
  | _ => false
def allQuiet (ops : Array Oper) (listed : Array Bool) : Bool := (List.range ops.size).all fun i => listed.getD i true || ((ops[i]?).map fun o => quietOp o.op).getD true

/-- one operation out of turn -/
def aTake (P : Program) (ops : Array Oper) (i : Nat) (s : St) (K : St → Prop) : Prop :=
  match ops[i]? with
  | some o => aWanted ops o s (match o.op with
      | .load t x => aLoad P t (s.ev x) s fun v => K (s.put o.dst v)
      | op => aPureOp P op s fun v => K (s.put o.dst v)) (K (s.put o.dst V.off))
  | none => False
def takesOnly : Plan → Bool
  | .done => true
  | .take _ p => takesOnly p
  | .both _ => false
mutual
def planOK (ops : Array Oper) : Nat → Array Bool → Plan → Bool
  | _, listed, .done => (Region.ready .any ops listed).isEmpty
  | 0, _, _ => false
  | n + 1, listed, .take i p => (Region.ready .any ops listed).contains i && Region.free .any ops listed i && (match ops[i]? with
      | some o => quietOp o.op && (!isLoad o.op || (allQuiet ops listed && takesOnly p))
      | none => false) && planOK ops n (listed.setIfInBounds i true) p
  | n + 1, listed, .both l => !l.isEmpty && (Region.ready .any ops listed == l.map (·.1)) && plansOK ops n listed l
def plansOK (ops : Array Oper) : Nat → Array Bool → List (Nat × Plan) → Bool
  | _, _, [] => true
  | n, listed, (i, p) :: l => planOK ops n (listed.setIfInBounds i true) p && plansOK ops n listed l
end
mutual
def aPlan (P : Program) (ops : Array Oper) : Plan → (St → Prop) → St → Prop
  | .done, K, s => K s
  | .take i p, K, s => aTake P ops i s (aPlan P ops p K)
  | .both l, K, s => aPlans P ops l K s
def aPlans (P : Program) (ops : Array Oper) : List (Nat × Plan) → (St → Prop) → St → Prop
  | [], _, _ => True
  | (i, p) :: l, K, s => (match ops[i]? with
      | some o => aWanted ops o s (aOp P o s fun v s' => aPlan P ops p K (s'.put o.dst v)) (aPlan P ops p K (s.put o.dst V.off))
      | none => False) ∧ aPlans P ops l K s
end

section
variable {P : Program} {E : Entry} {g : Gh} {w : World} {s : St} {a : Act}
theorem Sim.sameHeap {w' : World} (hs : Sim E g s a w) (hh : w'.heap = w.heap) (ho : w'.os = w.os) (ht : w'.tape = w.tape) (hp : w'.output = w.output) : Sim E g s a w' := by
  have hc : ∀ ad, w'.cell? ad = w.cell? ad := fun ad => cell_eq (by rw [hh])
  refine ⟨hs.slots, hs.defers, ⟨fun ad v ha => by rw [hc]; exact hs.wi.mem ad v ha, fun i cs hi => by rw [hh]; exact hs.wi.box i cs hi, hs.wi.inj, hs.wi.boxM, fun t r ht => by rw [hh]; exact hs.wi.own t r ht, hs.wi.ownB, hs.wi.ownI, fun t r ht => (hs.wi.muta t r ht).same (by rw [hh])⟩, ?_⟩
  exact ⟨ho.trans hs.cum.os, ht.trans hs.cum.tape, hp.trans hs.cum.output, by rw [hh]; exact hs.cum.size, fun k h1 h2 => by rw [hh]; exact hs.cum.unch k h1 h2, hs.cum.foot, hs.cum.mem, hs.cum.memN, hs.cum.argB⟩
/-- what is taken out of turn yields its value -/
theorem take_sound {ops : Array Oper} {i : Nat} {o : Oper} {K : St → Prop} (hi : ops[i]? = some o) (hs : Sim E g s a w) (h : aTake P ops i s K) :
    ∃ v z, K (s.put o.dst v) ∧ RelV g v z ∧ (isLoad o.op = false → YieldsIf P ops (fun _ => True) o z a) ∧ YieldsIf P ops (fun w' => w'.heap = w.heap) o z a := by
  unfold aTake at h
  rw [hi] at h
  simp only at h
  rcases wanted_sound hs h with ⟨hw, h⟩ | ⟨hw, h⟩
  · have pure_ : ∀ {K' : V → Prop}, aPureOp P o.op s K' → ∃ v z, K' v ∧ RelV g v z ∧ (isLoad o.op = false → YieldsIf P ops (fun _ => True) o z a) ∧ YieldsIf P ops (fun w' => w'.heap = w.heap) o z a := fun h => by
      obtain ⟨r, z, h1, h2, h3⟩ := aPureOp_sound (P := P) (o := o) (ρ := a.eval) (fun x => hs.ev x) h
      exact ⟨r, z, h1, h2, fun hl => .inl ⟨hw, fun w' _ => h3 w' fun e => by rw [hl] at e; cases e⟩, .inl ⟨hw, fun w' hh => h3 w' fun _ => fun ad v ha => (cell_eq (w := w) (w' := w') (by rw [hh])).trans (hs.wi.mem ad v ha)⟩⟩
    obtain ⟨dst, op, type, pos, after, guard⟩ := o
    simp only at h pure_ ⊢
    split at h
    · rename_i t x
      unfold aLoad at h
      split at h
      · obtain ⟨r, z, h1, h2, h3⟩ := sound_loadBox hs.wi (hs.ev _) h
        exact ⟨r, z, h1, h2, (fun hl => (by cases hl)), .inl ⟨hw, fun w' hh => by simp [execOp, h3 w' hh]⟩⟩
      · rename_i hx
        have hr := fun y => hs.ev y
        obtain ⟨r, z, h1, h2, h3⟩ := sound_loadK hs.wi (hx ▸ hr _) h
        exact ⟨r, z, h1, h2, (fun hl => (by cases hl)), .inl ⟨hw, fun w' hh => by simp [execOp, h3 w' hh]⟩⟩
      exact pure_ (K' := fun v => K (s.put dst v)) h
    exact pure_ (K' := fun v => K (s.put dst v)) h
  exact ⟨V.off, undef, h, off_rel, fun _ => .inr ⟨hw, rfl⟩, .inr ⟨hw, rfl⟩⟩
theorem wpAnyH_imp {md : Region.Mode} {ops : Array Oper} {Q : Exit → Act → World → Prop} {S S' : World → Prop} (h : ∀ w, S w → S' w) : ∀ (fuel : Nat) (listed : Array Bool) (a : Act) (w : World), wpAnyH P md ops Q S fuel listed a w → wpAnyH P md ops Q S' fuel listed a w
  | 0, _, _, _, H => H
  | fuel + 1, _, _, _, H => ⟨H.1, fun i hi => wpOp_mono (fun a' w' h' => ⟨h _ h'.1, wpAnyH_imp h fuel _ a' w' h'.2⟩) (H.2 i hi)⟩
section
variable {ops : Array Oper} {Q : Exit → Act → World → Prop} {K : St → Prop} (hsel : Region.noSelect ops = true) (hQ : ∀ c a w, ¬ Q (.panic c) a w) (hK : ∀ s' g' a' w', K s' → Sim E g' s' a' w' → Q .normal a' w')
include hsel hQ hK
theorem takes_sound {heap : Array Obj} : ∀ (n : Nat) (p : Plan) (listed : Array Bool) (g : Gh) (s : St) (a : Act) (w : World), takesOnly p = true → planOK ops n listed p = true → aPlan P ops p K s → Sim E g s a w → w.heap = heap →
    wpAnyH P .any ops Q (fun w' => w'.heap = heap) n listed a w := by
  intro n
  induction n with
  | zero =>
    intro p listed g s a w ht hp h hs hh
    cases p with
    | done =>
      simp only [planOK] at hp
      exact wpAnyH_done (by simpa using hp) (hK s g a w (by simpa [aPlan] using h) hs) _
    | take i p => simp [planOK] at hp
    | both l => simp [takesOnly] at ht
  | succ n ih =>
    intro p listed g s a w ht hp h hs hh
    cases p with
    | done =>
      simp only [planOK] at hp
      exact wpAnyH_done (by simpa using hp) (hK s g a w (by simpa [aPlan] using h) hs) _
    | take i p =>
      simp only [planOK, Bool.and_eq_true] at hp
      obtain ⟨⟨⟨h1, h2⟩, h3⟩, h4⟩ := hp
      cases ho : ops[i]? with
      | none => rw [ho] at h3; simp at h3
      | some o =>
        simp only [aPlan] at h
        obtain ⟨v, z, hk, hr, _, hy⟩ := take_sound ho hs h
        have hy' : YieldsIf P ops (fun w' => w'.heap = heap) o z a := by rw [← hh]; exact hy
        exact wpAnyH_take ho hsel h2 h1 (fun c a w hq => absurd hq (hQ c _ w)) hy' hh (ih p _ g _ _ w (by simpa [takesOnly] using ht) h4 hk (hs.put hr o.dst) hh)
    | both l => simp [takesOnly] at ht
theorem plan_sound : ∀ (n : Nat) (p : Plan) (listed : Array Bool) (g : Gh) (s : St) (a : Act) (w : World), planOK ops n listed p = true → aPlan P ops p K s → Sim E g s a w →
    wpAnyH P .any ops Q (fun _ => True) n listed a w := by
  intro n
  induction n with
  | zero =>
    intro p listed g s a w hp h hs
    cases p with
    | done =>
      simp only [planOK] at hp
      exact wpAnyH_done (by simpa using hp) (hK s g a w (by simpa [aPlan] using h) hs) _
    | take i p => simp [planOK] at hp
    | both l => simp [planOK] at hp
  | succ n ih =>
    intro p listed g s a w hp h hs
    cases p with
    | done =>
      simp only [planOK] at hp
      exact wpAnyH_done (by simpa using hp) (hK s g a w (by simpa [aPlan] using h) hs) _
    | take i p =>
      have hp0 := hp
      simp only [planOK, Bool.and_eq_true] at hp
      obtain ⟨⟨⟨h1, h2⟩, h3⟩, h4⟩ := hp
      cases ho : ops[i]? with
      | none => rw [ho] at h3; simp at h3
      | some o =>
        rw [ho] at h3
        simp only [Bool.and_eq_true, Bool.or_eq_true] at h3
        cases hl : isLoad o.op with
        | true =>
          rw [hl] at h3
          obtain ⟨_, h3⟩ := h3
          rcases h3 with h3 | ⟨_, h3⟩
          · cases h3
          exact wpAnyH_imp (fun _ _ => trivial) _ _ _ _ (takes_sound (heap := w.heap) hsel hQ hK (n + 1) (.take i p) listed g s a w (by simpa [takesOnly] using h3) hp0 h hs rfl)
        | false =>
          simp only [aPlan] at h
          obtain ⟨v, z, hk, hr, hy, _⟩ := take_sound ho hs h
          exact wpAnyH_take ho hsel h2 h1 (fun c a w hq => absurd hq (hQ c _ w)) (hy hl) trivial (ih p _ g _ _ w h4 hk (hs.put hr o.dst))
    | both l =>
      simp only [planOK, Bool.and_eq_true] at hp
      obtain ⟨⟨h1, h2⟩, h3⟩ := hp
      have hrd : Region.ready .any ops listed = l.map (·.1) := by simpa using h2
      refine wpAnyH_all hrd (by cases l <;> simp at h1 ⊢) fun i hi => ?_
      simp only [aPlan] at h
      clear h1 h2 hrd
      induction l with
      | nil => simp at hi
      | cons q l ihl =>
        obtain ⟨j, p⟩ := q
        simp only [plansOK, Bool.and_eq_true] at h3
        simp only [aPlans] at h
        by_cases hij : i = j
        · subst hij
          unfold wpOp
          cases ho : ops[i]? with
          | none => rw [ho] at h; exact h.1.elim
          | some o =>
            rw [ho] at h
            simp only
            rcases wanted_sound hs h.1 with ⟨hw, h⟩ | ⟨hw, h⟩
            · rw [if_pos hw]
              exact .inl (aOp_sound hs h fun v s' g' w' x hk hs' hr => ⟨trivial, ih p _ g' _ _ w' h3.1 hk (hs'.put hr o.dst)⟩)
            rw [if_neg (by simp [hw])]
            exact ⟨trivial, ih p _ g _ _ w h3.1 h (hs.put (v := V.off) off_rel o.dst)⟩
        have hi' : i ∈ l.map (·.1) := by
          simp only [List.map_cons, List.mem_cons] at hi
          rcases hi with hi | hi
          · exact absurd hi hij
          exact hi
        first | exact ihl h.2 h3.2 hi' | exact ihl h.2 hi' h3.2 | exact ihl hi' h3.2 h.2 | exact ihl hi' h.2 h3.2 | exact ihl h3.2 hi' h.2
end
end

/-! ### code -/
inductive AExit where
  | normal
  | exit (i : Nat)
  | ret
def AExit.conc : AExit → Exit
  | .normal => .normal
  | .exit i => .exit i
  | .ret => .ret
def thenK (K : St → Prop) (Q : AExit → St → Prop) : AExit → St → Prop
  | .normal, s => K s
  | e, s => Q e s
def blockK (id : Nat) (Q : AExit → St → Prop) : AExit → St → Prop
  | .exit i, s => if i = id then Q .normal s else Q (.exit i) s
  | e, s => Q e s
def aCond (c : V) (x y : Prop) : Prop :=
  match c with
  | .w (.c (.val (.bool b))) => (b = true → x) ∧ (b = false → y)
  | _ => False
def aReg (P : Program) (ops : Array Oper) (draw : Bool) (K : St → Prop) (s : St) : Prop :=
  match draw with
  | false => aList P ops ops.toList K s
  | true => ∃ p, Region.noSelect ops = true ∧ planOK ops ops.size (Array.replicate ops.size false) p = true ∧ aPlan P ops p (fun s' => ∃ s'', leS s'' s' ∧ K s'') s
def awp (P : Program) : Code → (AExit → St → Prop) → St → Prop
  | .skip, Q, s => Q .normal s
  | .region _ ops draw, Q, s => aReg P ops draw (Q .normal) s
  | .seq a b, Q, s => awp P a (thenK (awp P b Q) Q) s
  | .cond c a b, Q, s => aCond (s.ev c) (awp P a Q s) (awp P b Q s)
  | .block id c, Q, s => awp P c (blockK id Q) s
  | .loop c, Q, s => ∃ (I : Nat → St → Prop) (n₀ : Nat), (∃ s', leS s' s ∧ I n₀ s') ∧ ∀ n s, I n s → awp P c (thenK (fun s' => ∃ m, m < n ∧ ∃ s'', leS s'' s' ∧ I m s'') Q) s
  | .exit id, Q, s => Q (.exit id) s
  | .scope c, Q, s => awp P c Q s
  | .ret, Q, s => Q .ret s
  | _, _, _ => False

theorem awp_sound {P : Program} {E : Entry} (hm : P.follows .mixedOrders = true) (c : Code) : ∀ {g : Gh} {s : St} {a : Act} {w : World} {Q : AExit → St → Prop} {Q' : Exit → Act → World → Prop}, Sim E g s a w → awp P c Q s →
    (∀ e s' g' a' w', Q e s' → Sim E g' s' a' w' → Q' e.conc a' w') → c.wp P Q' a w := by
  induction c with
  | skip => intro g s a w Q Q' hs h hn; exact wp_skip (hn .normal s g a w h hs)
  | region id ops draw =>
    intro g s a w Q Q' hs h hn
    cases draw with
    | false => exact wp_region_list (aList_sound hs h fun s' g' a' w' hk hs' => hn .normal s' g' a' w' hk hs')
    | true =>
      obtain ⟨p, hsel, hp, h⟩ := h
      let Q0 : Exit → Act → World → Prop := fun e a w => match e with
        | .panic _ => False
        | e => Q' e a w
      have h0 : (Code.region id ops true).wp P Q0 a w := by
        refine wp_region_held (S := fun _ => True) hm ?_
        exact plan_sound (E := E) (Q := Q0) (K := fun s' => ∃ s'', leS s'' s' ∧ Q .normal s'') hsel (fun c a w hq => hq) (fun s' g' a' w' ⟨s'', hle, hk⟩ hs' => hn .normal s'' g' a' w' hk (hs'.le hle)) ops.size p _ g s a _ hp h (hs.sameHeap rfl rfl rfl rfl)
      refine wp_mono h0 fun e a w hq => ?_
      cases e <;> first | exact hq | exact hq.elim
  | seq x y ihx ihy =>
    intro g s a w Q Q' hs h hn
    refine wp_seq (ihx hs h fun e s' g' a' w' hk hs' => ?_)
    cases e with
    | normal => exact ihy hs' hk hn
    | exit i => exact hn (.exit i) s' g' a' w' hk hs'
    | ret => exact hn .ret s' g' a' w' hk hs'
  | cond c x y ihx ihy =>
    intro g s a w Q Q' hs h hn
    simp only [awp] at h
    unfold aCond at h
    split at h
    · rename_i b hb
      have hr := hs.ev c
      rw [hb] at hr
      obtain ⟨_, hv⟩ := hr
      exact wp_cond_split hv (fun e => ihx hs (h.1 e) hn) (fun e => ihy hs (h.2 e) hn)
    exact h.elim
  | block id c ih =>
    intro g s a w Q Q' hs h hn
    refine wp_block (ih hs h fun e s' g' a' w' hk hs' => ?_)
    cases e with
    | normal => exact hn .normal s' g' a' w' hk hs'
    | exit i =>
      simp only [blockK] at hk
      show Exit.inBlock id Q' (.exit i) a' w'
      simp only [Exit.inBlock]
      split
      · rename_i e; rw [if_pos e] at hk; exact hn .normal s' g' a' w' hk hs'
      rename_i e; rw [if_neg e] at hk; exact hn (.exit i) s' g' a' w' hk hs'
    | ret => exact hn .ret s' g' a' w' hk hs'
  | loop c ih =>
    intro g s a w Q Q' hs h hn
    obtain ⟨I, n₀, ⟨s0, hle, h0⟩, hr⟩ := h
    refine wp_loop_ghost (fun n a w => ∃ g s, I n s ∧ Sim E g s a w) n₀ ⟨g, _, h0, hs.le hle⟩ ?_
    rintro n a w ⟨g, s, hI, hs⟩
    refine ih hs (hr n s hI) fun e s' g' a' w' hk hs' => ?_
    cases e with
    | normal => obtain ⟨m, hm, s'', hle', hI'⟩ := hk; exact ⟨m, hm, g', _, hI', hs'.le hle'⟩
    | exit i => exact hn (.exit i) s' g' a' w' hk hs'
    | ret => exact hn .ret s' g' a' w' hk hs'
  | exit id => intro g s a w Q Q' hs h hn; exact wp_exit (hn (.exit id) s g a w h hs)
  | scope c ih =>
    intro g s a w Q Q' hs h hn
    refine wp_scope_straight (ih hs h fun e s' g' a' w' hk hs' => ?_)
    cases e <;> exact hn _ s' g' a' w' hk hs'
  | ret => intro g s a w Q Q' hs h hn; exact wp_ret (hn .ret s g a w h hs)
  | rangeFunc => intro g s a w Q Q' hs h hn; exact h.elim
  | label => intro g s a w Q Q' hs h hn; exact h.elim
  | goto => intro g s a w Q Q' hs h hn; exact h.elim
  | refuse => intro g s a w Q Q' hs h hn; exact h.elim
end
section
def V.toW : V → W
  | .w x => x
  | .tup _ => .c .undef
def packV : List V → V
  | [v] => v
  | vs => .tup (vs.map V.toW)
def aRes (P : Program) : List ResultVar → St → (List V → Prop) → Prop
  | [], _, K => K []
  | .tmp t :: l, s, K => aRes P l s fun vs => K (s.slots.getD t V.undef :: vs)
  | .cell b t :: l, s, K => aLoadBox P t (s.slots.getD b V.undef) s fun v => aRes P l s fun vs => K (v :: vs)
/-- what stands where a function leaves -/
def aEnd (P : Program) (rs : List ResultVar) (R : V → Heap → Prop) : AExit → St → Prop
  | .exit _, _ => False
  | _, s => aRes P rs s fun vs => ∃ v h', leV v (packV vs) ∧ leH h' s.heap ∧ R v h'
def entrySt (n : Nat) (args : List W) (h : Heap) : St := ⟨args.map V.w ++ List.replicate (n - args.length) V.undef, h⟩

section
variable {P : Program} {E : Entry} {g : Gh} {w : World} {s : St} {a : Act}
theorem toW_rel {v : V} {y : Value} (h : RelV g v y) : RelW g v.toW y := by
  cases v with
  | w x => exact h
  | tup xs => trivial
theorem aRes_sound {rs : List ResultVar} : ∀ {K : List V → Prop}, Sim E g s a w → aRes P rs s K → ∃ vs ys, K vs ∧ All2 (RelV g) vs ys ∧ (rs.mapM (m := Sem) fun
    | .tmp t => pure (a.tmps.getD t undef)
    | .cell b t => do loadVar t (← asAddr (a.tmps.getD b undef))).run P w = .ok ys w := by
  induction rs with
  | nil => intro K hs h; exact ⟨[], [], h, .nil, rfl⟩
  | cons r rs ih =>
    intro K hs h
    cases r with
    | tmp t =>
      obtain ⟨vs, ys, h1, h2, h3⟩ := ih hs h
      refine ⟨_, a.tmps.getD t undef :: ys, h1, .cons (hs.ev (.tmp t)) h2, ?_⟩
      simp only [List.mapM_cons, pure_bind, Sem.run_bind, h3, Result.andThen_ok, Sem.run_pure]
    | cell b t =>
      obtain ⟨v, z, h1, h2, h3⟩ := sound_loadBox hs.wi (hs.ev (.tmp b)) h
      obtain ⟨vs, ys, h4, h5, h6⟩ := ih hs h1
      refine ⟨_, z :: ys, h4, .cons h2 h5, ?_⟩
      have h7 := h3 w rfl
      have h8 : (do loadVar t (← asAddr (a.tmps.getD b undef)) : Sem Value).run P w = .ok z w := by
        change (Instr.loadAt t (a.tmps.getD b undef)).run P w = .ok z w at h7
        have hp : ∃ ad, a.tmps.getD b undef = .pointer (some ad) := by
          have hb := hs.ev (.tmp b)
          simp only [St.ev, Act.eval] at hb
          simp only [aRes] at h
          unfold aLoadBox at h
          split at h
          · rename_i heq; rw [heq] at hb; exact ⟨_, hb⟩
          exact h.elim
        obtain ⟨ad, hp⟩ := hp
        rw [hp] at h7 ⊢
        simpa [Instr.loadAt, Instr.sureAddr, asAddr] using h7
      simp only [List.mapM_cons, Sem.run_bind]
      rw [Sem.run_bind] at h8
      rw [h8]
      simp only [Result.andThen_ok, Sem.run_bind, h6, Sem.run_pure]
theorem callable_of {f : FuncId} {fn : Func} {c : Code} (hf : P.funcs[f]? = some fn) (hb : fn.body = some c) (hn : (fn.name == "runtime.NumGoroutine") = false) : Callable P f := by
  intro args w
  have hn' : fn.name ≠ "runtime.NumGoroutine" := by simpa using hn
  simp [callFunc, hf, hb, hn']
theorem holds_of_awp {f : FuncId} {fn : Func} {c : Code} {n : Nat} {rs : List ResultVar} {args : List W} {h : Heap} {R : V → Heap → Prop} (hf : P.funcs[f]? = some fn) (hb : fn.body = some c) (hname : (fn.name == "runtime.NumGoroutine") = false)
    (hm : P.follows .mixedOrders = true) (hn : fn.ntmps = n) (hrs : fn.results = rs.toArray) (H : awp P c (aEnd P rs R) (entrySt n args h)) : Holds P f args h R := by
  refine ⟨callable_of hf hb hname, fun g w xs hG ha hw => ?_⟩
  refine calls_of_wp hf hb ?_
  have hl := ha.length
  have hs : Sim (entry g h w) g (entrySt n args h) { tmps := xs.toArray ++ Array.replicate (fn.ntmps - xs.toArray.size) undef, defers := [] } w := by
    refine ⟨?_, ⟨rfl, hG⟩, hw, Cum.refl g h w⟩
    simp only [entrySt, Array.toList_append, List.size_toArray, Array.toList_replicate, hn, ← hl]
    exact (ha.map (T := RelV g) (f := V.w) fun _ _ h => h).append (All2.replicate _ trivial)
  refine awp_sound hm c hs H fun e s' g' a' w' hk hs' => ?_
  have fin : aRes P rs s' (fun vs => ∃ v h', leV v (packV vs) ∧ leH h' s'.heap ∧ R v h') → a'.defers = [] ∧ ∃ v, (results fn a'.tmps).run P w' = .ok v w' ∧ (fun e w' => ∃ x v h' g', e = Ending.returned x ∧ R v h' ∧ RelV g' v x ∧ WI g' h' w' ∧ Cum (entry g h w) g' h' w') (.returned v) w' := by
    intro h1
    obtain ⟨vs, ys, ⟨vr, h', hle, hsub, hR⟩, h3, h4⟩ := aRes_sound hs' h1
    refine ⟨hs'.defers.1, if h : ys.toArray.size = 1 then ys.toArray[0] else .tuple ys.toArray, ?_, _, vr, h', g', rfl, hR, leV_rel hle ?_, hs'.wi.le hsub, hs'.cum.le hsub⟩
    · unfold results
      rw [Array.mapM_eq_mapM_toList, hrs]
      simp only []
      rw [Sem.run_bind]
      have h5 : Sem.run P (List.toArray <$> rs.mapM fun
          | .tmp t => pure (a'.tmps.getD t undef)
          | .cell b t => do loadVar t (← asAddr (a'.tmps.getD b undef))) w' = .ok ys.toArray w' := by
        rw [← bind_pure_comp, Sem.run_bind, h4]
        rfl
      refine (congrArg (fun r : Result (Array Value) => r.andThen _) h5).trans ?_
      simp only [Result.andThen_ok, Sem.run_pure]
    cases h3 with
    | nil => exact ⟨#[], by simp, .nil⟩
    | cons hab t =>
      cases t with
      | nil => simpa [packV] using hab
      | cons hcd t =>
        simp only [List.size_toArray, List.length_cons]
        rw [dif_neg (by omega)]
        refine ⟨_, rfl, ?_⟩
        show All2 (RelW g') (List.map V.toW _) _
        exact (All2.cons hab (All2.cons hcd t)).map fun _ _ h => toW_rel h
  cases e with
  | normal => exact fin hk
  | exit i => exact hk.elim
  | ret => exact fin hk
end
end
end Go.Proofs.YtgeelaafmnedmaaGreat
