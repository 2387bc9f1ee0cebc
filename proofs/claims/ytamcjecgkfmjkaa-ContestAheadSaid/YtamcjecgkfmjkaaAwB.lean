/- The logic: 'append' whose row is a box of its own. -/
import Derived.Test.YtamcjecgkfmjkaaAwW
open Go Go.RowKit
namespace Go.Proofs.Ytamcjecgkfmjkaa
set_option linter.unusedSimpArgs false

section
variable {P : Program} {E : Entry} {g : Gh} {w : World} {s : St} {a : Act}
theorem all2_toC {g : Gh} {ds : List D} {us : List Value} (h : All2 (RelD g.M) ds us) : All2 (RelC g) (ds.map D.toC) us := h.map fun _ _ h => D.toC_rel h
theorem all2_undef {g : Gh} : ∀ (us : List Value) {n : Nat}, us.length = n → All2 (RelC g) (List.replicate n .undef) us
  | [], n, h => by subst h; exact .nil
  | u :: us, n, h => by subst h; exact .cons trivial (all2_undef us rfl)
theorem us_one {g : Gh} {ds : List D} {us : List Value} (h : All2 (RelD g.M) ds us) : ∀ q ∈ us, q.oneCell' = true := by
  induction h with
  | nil => intro q hq; cases hq
  | cons h _ ih =>
    intro q hq
    rcases List.mem_cons.1 hq with rfl | hq
    · exact h.one
    · exact ih q hq
theorem sound_appendB {t ty : TypeId} {sv x : V} {u y : Value} {d : Nat} {K : V → St → Prop} (hs : Sim E g s a w) (hsv : RelV g sv u) (hx : RelV g x y) (h : aAppendB P t sv x d s K) :
    ∃ r s' g' w' z, K r s' ∧ RelV g' r z ∧ Sim E g' s' a w' ∧ (Builtin.append_ #[t, t] ty #[u, y]).run P w = .ok z w' := by
  unfold aAppendB at h
  split at h
  · rename_i nl sz' xs
    obtain ⟨e, sz, z, b, ht, h0, hz, hzl, hby, hb0, hsz', h⟩ := h
    obtain ⟨hu, hsz⟩ := idxT_slc ht
    obtain ⟨ie, zv, hie, hzv, rfl⟩ := zeroC_spec hz
    obtain ⟨ie', hie', hbs⟩ := bytesT_spec hby
    rw [hie] at hie'
    cases hie'
    have hies : ie.size = sz := by simpa [sizeT, hie] using hsz
    have hzs : zv.cells.size = sz := by simpa using hzl
    obtain ⟨ds, ⟨hbytes, hK0, hK1⟩, A, m, c, us, hsrc⟩ := src_at h0 hs hx h
    obtain rfl := hsrc.form
    have hdl : ds.length = m * sz := by rw [hsrc.rel.length]; exact hsrc.len
    have hf : RelF u := hsv.2
    obtain ⟨hp, h2⟩ := RelD.lst_inv hsv.1
    have hn0 : ∀ n : Nat, n * sz' = xs.length → n * sz = xs.length := by
      intro n hl
      rcases hsz' with rfl | rfl
      · exact hl
      · have : n = 0 := by
          rcases Nat.eq_zero_or_pos n with h | h
          · exact h
          · have := Nat.mul_pos h hp; simp at hl; omega
        subst this; simp
    have hform : ∃ bs n, u = .slice bs n n ∧ n * sz = xs.length ∧ n ≤ maxLen ∧ (bs = none → n = 0 ∧ xs = [] ∧ nl ≠ some false) ∧ ∃ olds, olds.length = n * sz ∧ All2 (RelD g.M) xs olds ∧ ∀ q, bs = some q → nl ≠ some true ∧ RelM g.M q xs ∧ ∀ j v, olds[j]? = some v → g.M (q.add j) = some v := by
      rcases h2 with ⟨rfl, rfl, h3⟩ | ⟨q, n, cap, rfl, h3, hl, hc, hm, hM⟩
      · exact ⟨none, 0, rfl, by simp, Nat.zero_le _, fun _ => ⟨rfl, rfl, h3⟩, [], by simp, .nil, fun q hq => by cases hq⟩
      · obtain rfl : n = cap := hf _ _ _ rfl
        obtain ⟨olds, h4, h5⟩ := relM_list hM
        exact ⟨some q, n, rfl, hn0 n hl, hm, fun e => (by cases e), olds, by rw [hn0 n hl, h4.length], h4, fun q' hq => by cases hq; exact ⟨h3, hM, h5⟩⟩
    obtain ⟨bs, n, rfl, hnx, hcm, hnone, olds, hol, horel, hosome⟩ := hform
    have hnm' : (xs.length + ds.length) / sz = n + m := by rw [← hnx, hdl, ← Nat.add_mul]; exact Nat.mul_div_cancel _ h0
    have htot : (n + m) * b ≤ 140737488355328 := by rw [hnm'] at hbytes; exact hbytes
    have hnm : n + m ≤ 140737488355328 := mul_le_pos hb0 htot
    rcases Nat.eq_zero_or_pos m with hm0 | hm0
    · subst hm0
      obtain rfl : ds = [] := List.eq_nil_of_length_eq_zero (by simpa using hdl)
      refine ⟨_, _, g, w, _, hK0 rfl, ⟨?_, hf⟩, hs, run_append_none t ty e ie hu hie bs n n (Nat.le_refl _) A c⟩
      cases bs with
      | none =>
        obtain ⟨rfl, rfl, h3⟩ := hnone rfl
        exact RelD.nil h3 h0
      | some q => exact RelD.mk (hosome q rfl).1 h0 hnx (Nat.le_refl _) hcm (hosome q rfl).2.1
    · have hul : 0 < us.length := by rw [hsrc.len]; exact Nat.mul_pos hm0 h0
      obtain ⟨ad, rfl, hcell⟩ := hsrc.cells hul
      have hge := grownCap_ge w (n + m) n e
      have hcm' : grownCap w (n + m) n e ≤ maxLen := grownCap_le_maxLen w (n + m) n e (by simp only [maxLen]; omega)
      have hrun : (Builtin.append_ #[t, t] ty #[.slice bs n n, .slice (some ad) m c]).run P w = .ok (.slice (some ⟨w.heap.size, 0, none⟩) (n + m) (grownCap w (n + m) n e)) (w.drew.alloc (.cells (olds.toArray ++ us.toArray ++ Builtin.zeroCells zv.cells (grownCap w (n + m) n e - (n + m))) e)) := by
        cases bs with
        | none =>
          obtain ⟨rfl, rfl, _⟩ := hnone rfl
          obtain rfl : olds = [] := List.eq_nil_of_length_eq_zero (by simpa using hol)
          have := run_append_nil (P := P) w t ty e ie zv hu hie hzv ad m c us (by rw [hsrc.len, hies]) hcell hm0 (by omega) (by rw [hbs]; simp at htot; omega)
          simpa using this
        | some q =>
          exact run_append_grow (P := P) w t ty e ie zv hu hie hzv q n n olds (by rw [hol, hies]) (fun j v hj => hs.wi.mem _ _ ((hosome q rfl).2.2 j v hj)) ad m c us (by rw [hsrc.len, hies]) hcell (by omega) (by omega) (growslice_fits (by omega) (by rw [hbs]; exact htot))
      have hds : ds ≠ [] := by rintro rfl; simp at hdl; have := Nat.mul_pos hm0 h0; omega
      have hK := hK1 hds (grownCap w (n + m) n e) (by rw [hnm']; exact hge) hcm'
      let ys : Array Value := olds.toArray ++ us.toArray ++ Builtin.zeroCells zv.cells (grownCap w (n + m) n e - (n + m))
      obtain ⟨r, s', g', hKK, hr, hs', hBd⟩ := sound_new (t := e) hs (ys := ys) (by
        simp only [ys, Array.toList_append]
        refine (all2_toC (horel.append hsrc.rel)).append (all2_undef _ ?_)
        simp only [Array.length_toList, size_zeroCells, hzs, ← hnx, hdl, ← Nat.add_mul, ← Nat.sub_mul]) (Grow1.allocDrew w ys e) hK
      rw [hnm'] at hKK
      refine ⟨_, s', g', _, _, hKK, ?_, hs', hrun⟩
      show _ = Value.slice (some ⟨g'.B (.loc [d]), 0, none⟩) (n + m) _
      rw [hBd]
  · rename_i i off n cp
    obtain ⟨e, sz, z, b, cs, ht, h0, hz, hzl, hby, hb0, rfl, hnc, hcm, hi, hfit, h⟩ := h
    obtain rfl := hsv
    obtain ⟨hu, hsz⟩ := idxT_slc ht
    obtain ⟨ie, zv, hie, hzv, rfl⟩ := zeroC_spec hz
    obtain ⟨ie', hie', hbs⟩ := bytesT_spec hby
    rw [hie] at hie'
    cases hie'
    have hies : ie.size = sz := by simpa [sizeT, hie] using hsz
    have hzs : zv.cells.size = sz := by simpa using hzl
    obtain ⟨ds, ⟨hbytes, hK0, hK1⟩, A, m, c, us, hsrc⟩ := src_at h0 hs hx h
    obtain rfl := hsrc.form
    have hdl : ds.length = m * sz := by rw [hsrc.rel.length]; exact hsrc.len
    have hdm : ds.length / sz = m := by rw [hdl]; exact Nat.mul_div_cancel _ h0
    rw [hdm] at hbytes hK0 hK1
    have hnm : n + m ≤ 140737488355328 := mul_le_pos hb0 hbytes
    obtain ⟨ys, tb, hb, hr, _⟩ := hs.wi.box i cs hi
    have hlen := hr.length
    simp only [Array.length_toList] at hlen
    have hncs : n * sz ≤ cp * sz := Nat.mul_le_mul_right _ hnc
    by_cases hroom : n + m ≤ cp
    · have hfit2 : n * sz + us.length ≤ ys.size := by
        rw [hsrc.len, ← Nat.add_mul]
        have : (n + m) * sz ≤ cp * sz := Nat.mul_le_mul_right _ hroom
        omega
      have hrun : (Builtin.append_ #[t, t] ty #[.slice (some ⟨g.B i, 0, none⟩) n cp, .slice A m c]).run P w = .ok (.slice (some ⟨g.B i, 0, none⟩) (n + m) cp) (w.setRow (g.B i) (spl ys.toList (n * sz) us).toArray) := by
        rw [spl_eq (by simpa using hfit2)]
        rcases Nat.eq_zero_or_pos m with hm | hm
        · subst hm
          obtain rfl : us = [] := List.eq_nil_of_length_eq_zero (by simpa using hsrc.len)
          rw [run_append_none t ty e ie hu hie _ _ _ hnc A c]
          simp only [List.append_nil, List.length_nil, Nat.add_zero, List.take_append_drop, Array.toArray_toList]
          rw [setRow_self w (g.B i) ys tb (0, 0) hb]
        · have hul : 0 < us.length := by rw [hsrc.len]; exact Nat.mul_pos hm h0
          obtain ⟨ad, rfl, hcell⟩ := hsrc.cells hul
          have := run_append_room_any (P := P) (w := w) t ty e tb ie hu hie (g.B i) n cp ys hb ad m c us (by rw [hsrc.len, hies]) hcell (us_one hsrc.rel) hroom (by rw [hies]; exact hfit2)
          rw [hies] at this
          exact this
      refine ⟨_, _, g, _, _, hK0 hroom, rfl, hs.setBox (w' := w.setRow (g.B i) (spl ys.toList (n * sz) us).toArray) (ys' := (spl ys.toList (n * sz) us).toArray) hi ?_ (fun k hk => setRow_other w _ k _ hk) ⟨ys, tb, hb, setRow_heap w _ ys _ tb _ hb⟩ (fun t ht => ht.spl (no_typD _)) rfl rfl rfl (by simp), hrun⟩
      exact spl_rel hr (all2_toC hsrc.rel)
    · have hm0 : 0 < m := by omega
      have hul : 0 < us.length := by rw [hsrc.len]; exact Nat.mul_pos hm0 h0
      obtain ⟨ad, rfl, hcell⟩ := hsrc.cells hul
      have hge := grownCap_ge w (n + m) cp e
      have hcm' : grownCap w (n + m) cp e ≤ maxLen := grownCap_le_maxLen w (n + m) cp e (by simp only [maxLen]; omega)
      have hol : (ys.toList.take (n * sz)).length = n * sz := by simp; omega
      have hrun := run_append_grow (P := P) (ty := ty) w t e ie zv hu hie hzv ⟨g.B i, 0, none⟩ n cp (ys.toList.take (n * sz)) (by rw [hol, hies]) (fun j v hj => by
        rw [add_mk, Nat.zero_add, cell_row hb, ← Array.getElem?_toList]
        rw [List.getElem?_take] at hj
        split at hj
        · exact hj
        · cases hj) ad m c us (by rw [hsrc.len, hies]) hcell (by omega) (by omega) (growslice_fits (by omega) (by rw [hbs]; exact hbytes))
      have hK := hK1 (by omega) (grownCap w (n + m) cp e) hge hcm'
      let zs : Array Value := (ys.toList.take (n * sz)).toArray ++ us.toArray ++ Builtin.zeroCells zv.cells (grownCap w (n + m) cp e - (n + m))
      obtain ⟨r, s', g', hKK, hr', hs', hBd⟩ := sound_new (t := e) hs (ys := zs) (by
        simp only [zs, Array.toList_append]
        refine ((hr.take _).append (all2_toC hsrc.rel)).append (all2_undef _ ?_)
        simp only [Array.length_toList, size_zeroCells, hzs, hdl, ← Nat.add_mul, ← Nat.sub_mul]) (Grow1.allocDrew w zs e) hK
      refine ⟨_, s', g', _, _, hKK, ?_, hs', hrun⟩
      show _ = Value.slice (some ⟨g'.B (.loc [d]), 0, none⟩) (n + m) _
      rw [hBd]
  · exact h.elim
theorem sound_appX0 {t ty : TypeId} {sv x : V} {u y : Value} {d : Nat} {K : V → St → Prop} (hs : Sim E g s a w) (hsv : RelV g sv u) (hx : RelV g x y) (h : aAppX P t sv x d s K) :
    ∃ r s' g' w' z, K r s' ∧ RelV g' r z ∧ Sim E g' s' a w' ∧ (Builtin.append_ #[t, t] ty #[u, y]).run P w = .ok z w' := by
  rcases h with h | h | h
  · exact sound_append hs hsv hx h
  · exact sound_appendB hs hsv hx h
  · exact sound_appendS hs hsv hx h
theorem sound_appX {t t' ty : TypeId} {sv x : V} {u y : Value} {d : Nat} {K : V → St → Prop} (hs : Sim E g s a w) (hsv : RelV g sv u) (hx : RelV g x y) (h : aAppT P t t' sv x d s K) :
    ∃ r s' g' w' z, K r s' ∧ RelV g' r z ∧ Sim E g' s' a w' ∧ (Builtin.append_ #[t, t'] ty #[u, y]).run P w = .ok z w' := by
  unfold aAppT at h
  split at h
  · rename_i e; subst e; exact sound_appX0 hs hsv hx h
  · exact sound_appN hs hsv hx h
end
end Go.Proofs.Ytamcjecgkfmjkaa
