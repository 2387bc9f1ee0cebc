/- The logic: the operations that leave memory alone do what the logic says. -/
import Derived.Test.YtamcjecgkfmjkaaAwP
open Go Go.RowKit
namespace Go.Proofs.Ytamcjecgkfmjkaa
set_option linter.unusedSimpArgs false

section
variable {P : Program} {g : Gh} {K : V → Prop}

theorem run_un {op : UnOp} {x : V} {u : Value} (hx : RelV g x u) (h : aUn op x K) : ∃ r z, K r ∧ RelV g r z ∧ ∀ w : World, (Op.unary op u).run P w = .ok z w := by
  unfold aUn at h
  split at h
  · obtain ⟨_, rfl⟩ := hx; exact ⟨_, _, h, ⟨rfl, rfl⟩, fun w => by simp [Op.unary]⟩
  · obtain ⟨_, rfl⟩ := hx; exact ⟨_, _, h, ⟨rfl, rfl⟩, fun w => by simp [Op.unary, Op.intArith]⟩
  · obtain ⟨_, rfl⟩ := hx; exact ⟨_, _, h, ⟨rfl, rfl⟩, fun w => by simp [Op.unary, Op.intBits]⟩
  · exact h.elim
theorem knownT_spec {t : TypeId} (h : knownT P t = true) : ∃ d, P.underlying t = some d := Option.isSome_iff_exists.mp h
theorem kindT_spec {t : TypeId} {k : IntKind} (h : kindT P t = some k) : P.underlying t = some (.int k) := by
  unfold kindT at h; split at h
  · cases h; assumption
  · cases h
theorem strT_spec {t : TypeId} (h : isStrT P t = true) : P.underlying t = some .string := by
  unfold isStrT at h; split at h
  · assumption
  · cases h
theorem run_conv {src dst : TypeId} {x : V} {u : Value} (hx : RelV g x u) (h : aConv P src dst x K) : ∃ r z, K r ∧ RelV g r z ∧ ∀ w : World, (convert src dst u).run P w = .ok z w := by
  unfold aConv at h
  split at h
  · obtain ⟨_, rfl⟩ := hx
    obtain ⟨hs, k, hk, h⟩ := h
    obtain ⟨d, hd⟩ := knownT_spec hs
    exact ⟨_, _, h, ⟨rfl, rfl⟩, fun w => by simp [convert, run_underlying hd, run_underlying (kindT_spec hk), Conv.intToInt]⟩
  · obtain ⟨_, rfl⟩ := hx
    obtain ⟨hs, hk, h⟩ := h
    obtain ⟨d, hd⟩ := knownT_spec hs
    refine ⟨_, _, h, ⟨rfl, rfl⟩, fun w => ?_⟩
    simp [convert, run_underlying hd, run_underlying (strT_spec hk)]
  · exact h.elim
theorem run_part {t : TypeId} {sz : Nat} {cs : List C} {ys : Array Value} {off : Nat} (hs : sizeT P t = some sz) (hr : All2 (RelC g) cs ys.toList) (h : aPart P t sz cs off K) :
    ∃ r z, K r ∧ RelV g r z ∧ ∀ w : World, (part t ys off).run P w = .ok z w := by
  unfold aPart at h
  split at h
  · rename_i ha
    obtain ⟨hl, h⟩ := h
    refine ⟨_, .agg (ys.extract off (off + sz)), h, ⟨_, rfl, ?_⟩, fun w => ?_⟩
    · have := (hr.drop off).take sz
      rw [Array.toList_extract, List.extract_eq_take_drop]
      simpa using this
    · simp [part, run_isAgg ha, run_sizeOf hs]
  · rename_i ha
    obtain ⟨c, hc, h⟩ := h
    obtain ⟨v, hv, hv2⟩ := hr.get hc
    rw [Array.getElem?_toList] at hv
    exact ⟨_, v, h, hv2, fun w => by simp [part, run_isAgg ha, hv]⟩
  · exact h.elim
theorem fldT_spec {t : TypeId} {i off : Nat} {ft : TypeId} {sz : Nat} (h : fldT P t i = some (off, ft, sz)) : ∃ fs f, P.underlying t = some (.struct fs) ∧ fs[i]? = some f ∧ f.offset = off ∧ f.type = ft ∧ sizeT P ft = some sz := by
  unfold fldT at h
  split at h
  · rename_i fs hu
    split at h
    · rename_i f hf
      cases hq : P.info? f.type with
      | none => rw [hq] at h; cases h
      | some inf =>
        rw [hq] at h
        simp only [Option.map_some, Option.some.injEq, Prod.mk.injEq] at h
        obtain ⟨h1, h2, h3⟩ := h
        exact ⟨fs, f, hu, hf, h1, h2, by subst h2; simp [sizeT, hq, h3]⟩
    · cases h
  · cases h
theorem idxT_arr {t : TypeId} {n : Nat} {e : TypeId} {sz : Nat} (h : idxT P t = some (some n, e, sz)) : P.underlying t = some (.array n e) ∧ sizeT P e = some sz := by
  unfold idxT at h
  split at h
  · rename_i n' e' hu
    cases hq : P.info? e' with
    | none => rw [hq] at h; cases h
    | some inf => rw [hq] at h; simp only [Option.map_some, Option.some.injEq, Prod.mk.injEq] at h; obtain ⟨h1, h2, h3⟩ := h; subst h1; subst h2; exact ⟨hu, by simp [sizeT, hq, h3]⟩
  · rename_i e' hu
    cases hq : P.info? e' with
    | none => rw [hq] at h; cases h
    | some inf => rw [hq] at h; simp at h
  · cases h
theorem idxT_slc {t : TypeId} {e : TypeId} {sz : Nat} (h : idxT P t = some (none, e, sz)) : P.underlying t = some (.slice e) ∧ sizeT P e = some sz := by
  unfold idxT at h
  split at h
  · rename_i n' e' hu
    cases hq : P.info? e' with
    | none => rw [hq] at h; cases h
    | some inf => rw [hq] at h; simp at h
  · rename_i e' hu
    cases hq : P.info? e' with
    | none => rw [hq] at h; cases h
    | some inf => rw [hq] at h; simp only [Option.map_some, Option.some.injEq, Prod.mk.injEq, true_and] at h; obtain ⟨h2, h3⟩ := h; subst h2; exact ⟨hu, by simp [sizeT, hq, h3]⟩
  · cases h
theorem run_field {t : TypeId} {x : V} {u : Value} {i : Nat} (hx : RelV g x u) (h : aField P t x i K) : ∃ r z, K r ∧ RelV g r z ∧ ∀ w : World, (Instr.field t u i).run P w = .ok z w := by
  unfold aField at h
  split at h
  · obtain ⟨ys, rfl, hr⟩ := hx
    obtain ⟨off, ft, sz, hf, h⟩ := h
    obtain ⟨fs, f, hu, hfs, rfl, rfl, hs⟩ := fldT_spec hf
    obtain ⟨r, z, h1, h2, h3⟩ := run_part hs hr h
    exact ⟨r, z, h1, h2, fun w => by simp [Instr.field, run_underlying hu, hfs, asAgg, h3]⟩
  · exact h.elim
theorem run_fieldAddr {t : TypeId} {x : V} {u : Value} {i : Nat} (hx : RelV g x u) (h : aFieldAddr P t x i K) : ∃ r z, K r ∧ RelV g r z ∧ ∀ w : World, (Instr.fieldAt t u i).run P w = .ok z w := by
  unfold aFieldAddr at h
  split at h
  · obtain rfl := hx
    obtain ⟨off, ft, sz, hf, h0, h⟩ := h
    obtain ⟨fs, f, hu, hfs, rfl, rfl, hs⟩ := fldT_spec hf
    refine ⟨_, _, h, rfl, fun w => ?_⟩
    simp [Instr.fieldAt, run_underlying hu, hfs, Instr.sureAddr, fieldPlace, run_sizeOf hs, h0, add_mk]
  · obtain ⟨a, rfl, hm⟩ := hx
    obtain ⟨off, ft, sz, hf, h0, h⟩ := h
    obtain ⟨fs, f, hu, hfs, rfl, rfl, hs⟩ := fldT_spec hf
    refine ⟨_, _, h, ⟨a.add f.offset, rfl, fun j d hd => ?_⟩, fun w => ?_⟩
    · rw [List.getElem?_drop] at hd
      rw [add_of_add]
      exact hm _ d hd
    · simp [Instr.fieldAt, run_underlying hu, hfs, Instr.sureAddr, fieldPlace, run_sizeOf hs, h0]
  · exact h.elim
theorem mem_drop {M : Addr → Option Value} {a : Addr} {xs : List D} (hm : RelM M a xs) (k : Nat) : RelM M (a.add k) (xs.drop k) := fun j d hd => by
  rw [List.getElem?_drop] at hd; rw [add_of_add]; exact hm _ d hd
theorem run_indexAddr {t : TypeId} {x ix : V} {u v : Value} (hx : RelV g x u) (hi : RelV g ix v) (h : aIndexAddr P t x ix K) : ∃ r z, K r ∧ RelV g r z ∧ ∀ w : World, (Instr.indexAt t u v).run P w = .ok z w := by
  unfold aIndexAddr at h
  split at h
  · obtain ⟨_, rfl⟩ := hi
    obtain ⟨l, e, sz, ht, h⟩ := h
    split at h
    · obtain rfl := hx
      obtain ⟨h0, h1, h⟩ := h
      obtain ⟨hu, hs⟩ := idxT_arr ht
      refine ⟨_, _, h, rfl, fun w => ?_⟩
      simp [Instr.indexAt, run_underlying hu, Instr.sureAddr, asIntOf, h0, h1, run_sizeOf hs, add_mk]
    · obtain ⟨a, rfl, hm⟩ := hx
      obtain ⟨h0, h1, h⟩ := h
      obtain ⟨hu, hs⟩ := idxT_arr ht
      refine ⟨_, _, h, ⟨_, rfl, mem_drop hm _⟩, fun w => ?_⟩
      simp [Instr.indexAt, run_underlying hu, Instr.sureAddr, asIntOf, h0, h1, run_sizeOf hs]
    · obtain ⟨rfl, h0, h1, h⟩ := h
      obtain ⟨hu, hs⟩ := idxT_slc ht
      obtain ⟨hsz, h2⟩ := RelD.lst_inv hx.1
      rcases h2 with ⟨rfl, rfl, _⟩ | ⟨a, n, c, rfl, _, hl, hc, _, hm⟩
      · exact absurd h1 (Int.not_lt.2 (Int.mul_nonneg h0 (Int.natCast_nonneg _)))
      · refine ⟨_, _, h, ⟨_, rfl, mem_drop hm _⟩, fun w => ?_⟩
        have h3 := h1
        rw [← hl, Int.natCast_mul] at h3
        replace h3 := Int.lt_of_mul_lt_mul_right h3 (by omega)
        simp [Instr.indexAt, run_underlying hu, asIntOf, h0, h3, run_sizeOf hs]
    · obtain rfl := hx
      obtain ⟨h0, h1, h⟩ := h
      obtain ⟨hu, hs⟩ := idxT_slc ht
      refine ⟨_, _, h, rfl, fun w => ?_⟩
      simp [Instr.indexAt, run_underlying hu, asIntOf, h0, h1, run_sizeOf hs, add_mk]
    · exact h.elim
  · exact h.elim
theorem str_get {s : ByteArray} {j : Nat} {b : UInt8} (hb : s.data.toList[j]? = some b) : s[j]? = some b := by
  rw [Array.getElem?_toList] at hb
  rw [← hb]
  obtain ⟨hlt, _⟩ := Array.getElem?_eq_some_iff.1 hb
  rw [Array.getElem?_eq_getElem hlt]
  exact getElem?_pos s j hlt
theorem run_index {t : TypeId} {x ix : V} {u v : Value} (hx : RelV g x u) (hi : RelV g ix v) (h : aIndex P t x ix K) : ∃ r z, K r ∧ RelV g r z ∧ ∀ w : World, (Instr.index t u v).run P w = .ok z w := by
  unfold aIndex at h
  split at h
  · obtain ⟨_, rfl⟩ := hi
    split at h
    · obtain ⟨ys, rfl, hr⟩ := hx
      obtain ⟨n, e, sz, ht, h0, h1, h⟩ := h
      obtain ⟨hu, hs⟩ := idxT_arr ht
      obtain ⟨r, z, h2, h3, h4⟩ := run_part hs hr h
      exact ⟨r, z, h2, h3, fun w => by simp [Instr.index, asIntOf, run_underlying hu, h0, h1, run_sizeOf hs, h4]⟩
    · obtain ⟨_, rfl⟩ := hx
      obtain ⟨ht, h0, b, hb, h⟩ := h
      refine ⟨_, _, h, ⟨rfl, rfl⟩, fun w => ?_⟩
      have hb' := str_get hb
      simp [Instr.index, asIntOf, run_underlying (strT_spec ht), h0, hb']
    · exact h.elim
  · exact h.elim
theorem run_extract {x : V} {u : Value} {i : Nat} (hx : RelV g x u) (h : aExtract x i K) : ∃ r z, K r ∧ RelV g r z ∧ ∀ w : World, (Instr.extract u i).run P w = .ok z w := by
  unfold aExtract at h
  split at h
  · obtain ⟨ys, rfl, hr⟩ := hx
    obtain ⟨y, hy, h⟩ := h
    obtain ⟨v, hv, hv2⟩ := hr.get hy
    rw [Array.getElem?_toList] at hv
    exact ⟨_, v, h, hv2, fun w => by simp [Instr.extract, hv]⟩
  · exact h.elim
theorem run_len {t ty : TypeId} {x : V} {u : Value} (hx : RelV g x u) (h : aLen P t x K) : ∃ r z, K r ∧ RelV g r z ∧ ∀ w : World, (Builtin.len_ #[t] ty #[u]).run P w = .ok z w := by
  unfold aLen at h
  split at h
  · obtain ⟨ht, h⟩ := h
    obtain ⟨e, hu⟩ := slcT ht
    rename_i o nl sz xs
    obtain ⟨hsz, h2⟩ := RelD.lst_inv hx.1
    rcases h2 with ⟨rfl, rfl, _⟩ | ⟨a, n, c, rfl, _, hl, hc, _, hm⟩
    · refine ⟨_, _, h, ⟨rfl, rfl⟩, fun w => ?_⟩
      simp [Builtin.len_, run_underlying hu, goInt]
    · refine ⟨_, _, h, ⟨rfl, rfl⟩, fun w => ?_⟩
      rw [← hl, Nat.mul_div_cancel _ hsz]
      simp [Builtin.len_, run_underlying hu, goInt]
  · obtain ⟨ht, h⟩ := h
    obtain ⟨e, hu⟩ := slcT ht
    obtain rfl := hx
    exact ⟨_, _, h, ⟨rfl, rfl⟩, fun w => by simp [Builtin.len_, run_underlying hu, goInt]⟩
  · obtain ⟨ht, h⟩ := h
    obtain ⟨_, rfl⟩ := hx
    exact ⟨_, _, h, ⟨rfl, rfl⟩, fun w => by simp [Builtin.len_, run_underlying (strT_spec ht), goInt]⟩
  · exact h.elim
theorem run_iface {t : TypeId} {x : V} {u : Value} (hx : RelV g x u) (h : aMakeIface P t x K) : ∃ r z, K r ∧ RelV g r z ∧ ∀ w : World, (Instr.makeInterface t u).run P w = .ok z w := by
  unfold aMakeIface at h
  split at h
  · obtain ⟨_, rfl⟩ := hx
    obtain ⟨⟨d, hd, hn⟩, h1, h⟩ := h
    refine ⟨_, _, h, ⟨h1, rfl⟩, fun w => ?_⟩
    rw [Instr.makeInterface, Sem.run_bind, run_underlying hd]
    cases d <;> first | exact absurd rfl (hn _) | simp
  · exact h.elim
theorem run_loadMem {t : TypeId} {x : V} {u : Value} (hx : RelV g x u) (h : aLoadMem P t x K) : ∃ r z, K r ∧ RelV g r z ∧ ∀ w : World, MemOK g.M w → (Instr.loadAt t u).run P w = .ok z w := by
  unfold aLoadMem at h
  split at h
  · obtain ⟨a, rfl, hm⟩ := hx
    rename_i xs
    obtain ⟨sz, hs, h⟩ := h
    unfold aPart at h
    split at h
    · rename_i ha
      obtain ⟨hl, h⟩ := h
      have hcell : ∀ j, j < sz → ∃ d u, xs[j]? = some d ∧ g.M (a.add j) = some u ∧ RelD g.M d u := fun j hj => by
        have hlt : j < xs.length := by simp at hl; omega
        obtain ⟨u, hu, hr⟩ := hm j xs[j] (List.getElem?_eq_getElem hlt)
        exact ⟨_, u, List.getElem?_eq_getElem hlt, hu, hr⟩
      refine ⟨_, .agg (((List.range sz).map fun j => (g.M (a.add j)).getD undef).toArray), h, ⟨_, rfl, ?_⟩, fun w hw => ?_⟩
      · refine All2.of_get (by simp at hl ⊢; omega) fun i c v hc hv => ?_
        simp only [List.drop_zero, List.getElem?_take, List.getElem?_map] at hc
        split at hc
        · rename_i hi
          obtain ⟨d, u, hd, hu, hr⟩ := hcell i hi
          rw [hd] at hc
          simp only [Option.map_some, Option.some.injEq] at hc
          subst hc
          simp only [List.getElem?_map] at hv
          rw [List.getElem?_range hi] at hv
          simp only [Option.map_some, Option.some.injEq, hu, Option.getD_some] at hv
          subst hv
          exact D.toC_rel hr
        · cases hc
      · have := run_loadCells (P := P) w a sz (fun j => (g.M (a.add j)).getD undef) (fun j hj => by
          obtain ⟨d, u, _, hu, _⟩ := hcell j hj
          rw [hu]; exact hw _ _ hu)
        simp [Instr.loadAt, Instr.sureAddr, loadVar, run_isAgg ha, run_sizeOf hs, this]
    · rename_i ha
      obtain ⟨c, hc, h⟩ := h
      rw [List.getElem?_map] at hc
      cases hq : xs[0]? with
      | none => rw [hq] at hc; cases hc
      | some d =>
        rw [hq] at hc
        simp only [Option.map_some, Option.some.injEq] at hc
        subst hc
        obtain ⟨u, hu, hr⟩ := hm 0 d hq
        rw [add_zero_] at hu
        refine ⟨_, u, h, D.toC_rel hr, fun w hw => ?_⟩
        simp [Instr.loadAt, Instr.sureAddr, loadVar, run_isAgg ha, load, Sem.run, hw _ _ hu]
    · exact h.elim
  · exact h.elim
theorem bnd_rel {d : Int} {x : Option V} {l : Int} {u : Option Value} (hb : bnd d x = some l) (hx : ∀ v, x = some v → ∃ z, u = some z ∧ RelV g v z) (hn : x = none → u = none) :
    (x = none ∧ u = none ∧ l = d) ∨ ∃ k, u = some (.int k l) := by
  unfold bnd at hb
  split at hb
  · cases hb; exact .inl ⟨rfl, hn rfl, rfl⟩
  · cases hb
    obtain ⟨z, hz, _, hr⟩ := hx _ rfl
    exact .inr ⟨_, by rw [hz, hr]⟩
  · cases hb
theorem run_slice {t : TypeId} {x : V} {u : Value} {lo hi : Option V} {l h : Option Value} (hx : RelV g x u) (hlo : ∀ v, lo = some v → ∃ z, l = some z ∧ RelV g v z) (hlo' : lo = none → l = none)
    (hhi : ∀ v, hi = some v → ∃ z, h = some z ∧ RelV g v z) (hhi' : hi = none → h = none) (H : aSlice P t x lo hi K) : ∃ r z, K r ∧ RelV g r z ∧ ∀ w : World, (Instr.sliceAt t u l h none).run P w = .ok z w := by
  unfold aSlice at H
  split at H
  · obtain ⟨e, ht, a, b, ha, hb, h0, h1, h2, H⟩ := H
    obtain ⟨hu, hs⟩ := idxT_slc ht
    rename_i o nl sz xs
    obtain ⟨hsz, h3⟩ := RelD.lst_inv hx.1
    obtain ⟨a, rfl⟩ := Int.eq_ofNat_of_zero_le h0
    obtain ⟨b, rfl⟩ := Int.eq_ofNat_of_zero_le (Int.le_trans h0 h1)
    have h1' : a ≤ b := by omega
    have h2' : b * sz ≤ xs.length := by rw [← Int.natCast_mul] at h2; omega
    have bl := bnd_rel ha hlo hlo'
    have bh := bnd_rel hb hhi hhi'
    rcases h3 with ⟨rfl, rfl, hnl⟩ | ⟨ad, n, c, rfl, hnl, hl, hc, hm, hM⟩
    · have hb0 : b = 0 := by
        rcases Nat.eq_zero_or_pos b with h | h
        · exact h
        · have := Nat.mul_pos h hsz; simp at h2'; omega
      subst hb0
      obtain rfl : a = 0 := by omega
      refine ⟨_, .slice none 0 0, H, ⟨by simpa using RelD.nil hnl hsz, ?_⟩, fun w => ?_⟩
      · split
        · intro a n c h; cases h; rfl
        · trivial
      · rcases bl with ⟨_, rfl, _⟩ | ⟨k1, rfl⟩ <;> rcases bh with ⟨_, rfl, _⟩ | ⟨k2, rfl⟩ <;>
          simp [Instr.sliceAt, Instr.slice, run_underlying hu, Instr.sliceBounds, Instr.sliceBound, asIntOf, run_sizeOf hs]
    · have hbn : b ≤ n := by rw [← hl] at h2'; exact Nat.le_of_mul_le_mul_right h2' hsz
      have hlen : ((xs.take (b * sz)).drop (a * sz)).length = (b - a) * sz := by
        rw [List.length_drop, List.length_take, Nat.sub_mul]; omega
      have hM' : RelM g.M (ad.add (a * sz)) ((xs.take (b * sz)).drop (a * sz)) := by
        refine mem_drop (fun j d hd => ?_) _
        rw [List.getElem?_take] at hd
        split at hd
        · exact hM j d hd
        · cases hd
      have key : ∀ (ho : (match o, hi with | .full, none => Own.full | _, _ => Own.no) = .full → b = c),
          RelC g (.lst (match o, hi with | .full, none => .full | _, _ => .no) nl sz ((xs.take ((b : Int).toNat * sz)).drop ((a : Int).toNat * sz))) (.slice (some (if c = a then ad else ad.add (a * sz))) (b - a) (c - a)) := by
        intro ho
        refine ⟨?_, ?_⟩
        · simp only [Int.toNat_natCast]
          refine RelD.mk hnl hsz (by rw [hlen]) (by omega) (by omega) ?_
          split
          · have e : (b - a) * sz = 0 := by rw [show b - a = 0 by omega]; omega
            intro j d hd
            have := (List.getElem?_eq_some_iff.1 hd).1
            rw [hlen, e] at this
            omega
          · exact hM'
        · split
          · intro a' n' c' h
            cases h
            have := ho rfl
            omega
          · trivial
      have run : (∀ w : World, (Instr.sliceAt t (.slice (some ad) n c) l h none).run P w = .ok (.slice (some (if c = a then ad else ad.add (a * sz))) (b - a) (c - a)) w) := by
        intro w
        have hac : a ≤ c := by omega
        have hbc : b ≤ c := by omega
        have e : ∀ q : Addr, (if c = a then some q else some (q.add (a * sz))) = some (if c = a then q else q.add (a * sz)) := fun q => by split <;> rfl
        rcases bl with ⟨_, rfl, h5⟩ | ⟨k1, rfl⟩ <;> rcases bh with ⟨_, rfl, h6⟩ | ⟨k2, rfl⟩
        · have h5' : a = 0 := by omega
          have h6' : b = n := by have := Nat.mul_div_cancel n hsz; rw [hl] at this; omega
          subst h5'; subst h6'
          simp [Instr.sliceAt, Instr.slice, run_underlying hu, Instr.sliceBounds, Instr.sliceBound, asIntOf, run_sizeOf hs, add_zero_]
        · have h5' : a = 0 := by omega
          subst h5'
          simp [Instr.sliceAt, Instr.slice, run_underlying hu, Instr.sliceBounds, Instr.sliceBound, asIntOf, run_sizeOf hs, hbc, add_zero_]
        · have h6' : b = n := by have := Nat.mul_div_cancel n hsz; rw [hl] at this; omega
          subst h6'
          simp [Instr.sliceAt, Instr.slice, run_underlying hu, Instr.sliceBounds, Instr.sliceBound, asIntOf, run_sizeOf hs, h1', ← e]
        · simp [Instr.sliceAt, Instr.slice, run_underlying hu, Instr.sliceBounds, Instr.sliceBound, asIntOf, run_sizeOf hs, h1', hbc, ← e]
      refine ⟨_, _, H, key ?_, run⟩
      intro ho
      split at ho
      · rcases bh with ⟨_, _, h6⟩ | ⟨k2, h6⟩
        · have := hx.2 _ _ _ rfl
          have h6' : b = n := by have := Nat.mul_div_cancel n hsz; rw [hl] at this; omega
          omega
        · have := hhi' rfl; rw [this] at h6; cases h6
      · cases ho
  · obtain ⟨e, sz, ht, a, b, ha, hb, h0, h1, h2, H⟩ := H
    obtain ⟨hu, hs⟩ := idxT_slc ht
    obtain rfl := hx
    obtain ⟨a, rfl⟩ := Int.eq_ofNat_of_zero_le h0
    obtain ⟨b, rfl⟩ := Int.eq_ofNat_of_zero_le (Int.le_trans h0 h1)
    have h1' : a ≤ b := by omega
    have h2' := Int.ofNat_le.1 h2
    refine ⟨_, _, H, rfl, fun w => ?_⟩
    simp only [Int.toNat_natCast]
    rcases bnd_rel ha hlo hlo' with ⟨_, rfl, h5⟩ | ⟨k1, rfl⟩ <;> rcases bnd_rel hb hhi hhi' with ⟨_, rfl, h6⟩ | ⟨k2, rfl⟩
    · have h5' : a = 0 := by omega
      have h6' := Int.ofNat_inj.1 h6
      subst h5'; subst h6'
      simp [Instr.sliceAt, Instr.slice, run_underlying hu, Instr.sliceBounds, Instr.sliceBound, asIntOf, run_sizeOf hs, add_zero_]
    · have h5' : a = 0 := by omega
      subst h5'
      simp [Instr.sliceAt, Instr.slice, run_underlying hu, Instr.sliceBounds, Instr.sliceBound, asIntOf, run_sizeOf hs, h2', add_zero_]
    · have h6' := Int.ofNat_inj.1 h6
      subst h6'
      simp [Instr.sliceAt, Instr.slice, run_underlying hu, Instr.sliceBounds, Instr.sliceBound, asIntOf, run_sizeOf hs, h1', add_mk]
      split <;> rfl
    · simp [Instr.sliceAt, Instr.slice, run_underlying hu, Instr.sliceBounds, Instr.sliceBound, asIntOf, run_sizeOf hs, h1', h2', add_mk]
      split <;> rfl
  · obtain ⟨n, e, sz, ht, a, b, ha, hb, h0, h1, h2, H⟩ := H
    obtain ⟨hu, hs⟩ := idxT_arr ht
    obtain rfl := hx
    obtain ⟨a, rfl⟩ := Int.eq_ofNat_of_zero_le h0
    obtain ⟨b, rfl⟩ := Int.eq_ofNat_of_zero_le (Int.le_trans h0 h1)
    have h1' : a ≤ b := by omega
    have h2' : b ≤ n := by omega
    refine ⟨_, _, H, rfl, fun w => ?_⟩
    simp only [Int.toNat_natCast]
    rcases bnd_rel ha hlo hlo' with ⟨_, rfl, h5⟩ | ⟨k1, rfl⟩ <;> rcases bnd_rel hb hhi hhi' with ⟨_, rfl, h6⟩ | ⟨k2, rfl⟩
    · have h5' : a = 0 := by omega
      have h6' : b = n := by omega
      subst h5'; subst h6'
      simp [Instr.sliceAt, run_underlying hu, Instr.sureAddr, Instr.sliceBounds, Instr.sliceBound, asIntOf, run_sizeOf hs, add_zero_]
    · have h5' : a = 0 := by omega
      subst h5'
      simp [Instr.sliceAt, run_underlying hu, Instr.sureAddr, Instr.sliceBounds, Instr.sliceBound, asIntOf, run_sizeOf hs, h2', add_zero_]
    · have h6' : b = n := by omega
      subst h6'
      simp [Instr.sliceAt, run_underlying hu, Instr.sureAddr, Instr.sliceBounds, Instr.sliceBound, asIntOf, run_sizeOf hs, h1', add_mk]
      split <;> rfl
    · simp [Instr.sliceAt, run_underlying hu, Instr.sureAddr, Instr.sliceBounds, Instr.sliceBound, asIntOf, run_sizeOf hs, h1', h2', add_mk]
      split <;> rfl
  · obtain ⟨ht, a, b, ha, hb, h0, h1, h2, H⟩ := H
    have hu := strT_spec ht
    obtain ⟨_, rfl⟩ := hx
    obtain ⟨a, rfl⟩ := Int.eq_ofNat_of_zero_le h0
    obtain ⟨b, rfl⟩ := Int.eq_ofNat_of_zero_le (Int.le_trans h0 h1)
    have h1' : a ≤ b := by omega
    have h2' := Int.ofNat_le.1 h2
    refine ⟨_, _, H, ⟨rfl, rfl⟩, fun w => ?_⟩
    simp only [Int.toNat_natCast]
    rcases bnd_rel ha hlo hlo' with ⟨_, rfl, h5⟩ | ⟨k1, rfl⟩ <;> rcases bnd_rel hb hhi hhi' with ⟨_, rfl, h6⟩ | ⟨k2, rfl⟩
    · have h5' : a = 0 := by omega
      have h6' := Int.ofNat_inj.1 h6
      subst h5'; subst h6'
      simp [Instr.sliceAt, Instr.slice, run_underlying hu, Instr.sliceBounds, Instr.sliceBound, asIntOf]
    · have h5' : a = 0 := by omega
      subst h5'
      simp [Instr.sliceAt, Instr.slice, run_underlying hu, Instr.sliceBounds, Instr.sliceBound, asIntOf, h2']
    · have h6' := Int.ofNat_inj.1 h6
      subst h6'
      simp [Instr.sliceAt, Instr.slice, run_underlying hu, Instr.sliceBounds, Instr.sliceBound, asIntOf, h1']
    · simp [Instr.sliceAt, Instr.slice, run_underlying hu, Instr.sliceBounds, Instr.sliceBound, asIntOf, h1', h2']
  · exact H.elim
theorem run_minmax {b : Bool} {xs : List V} {us : List Value} {ty : TypeId} {ts : Array TypeId} (hx : All2 (RelV g) xs us) (h : aMinMax b xs K) :
    ∃ r z, K r ∧ RelV g r z ∧ ∀ w : World, ((if b then Builtin.max_ else Builtin.min_) ts ty us.toArray).run P w = .ok z w := by
  unfold aMinMax at h
  split at h
  · rename_i k a k' b'
    obtain ⟨rfl, h⟩ := h
    obtain ⟨u, l, rfl, hu, hl⟩ := hx.cons_inv
    obtain ⟨v, l, rfl, hv, hl⟩ := hl.cons_inv
    obtain rfl := hl.nil_inv
    obtain ⟨_, rfl⟩ := hu
    obtain ⟨_, rfl⟩ := hv
    refine ⟨_, _, h, ⟨rfl, rfl⟩, fun w => ?_⟩
    cases b
    · simp [Builtin.min_, Builtin.min2]
      split <;> omega
    · simp [Builtin.max_, Builtin.max2]
      split <;> omega
  · exact h.elim
theorem ptrs_rel {xs : List V} {l : List (Id × Nat)} : ∀ {us : List Value}, All2 (RelV g) xs us → ptrs xs = some l → us = l.map (pv g.B) := by
  induction xs generalizing l with
  | nil => intro us hu h; cases h; exact hu.nil_inv
  | cons x xs ih =>
    intro us hu h
    obtain ⟨u, us, rfl, h1, h2⟩ := hu.cons_inv
    unfold ptrs at h
    split at h
    · rename_i heq; cases heq
    · rename_i i o l' heq
      injection heq with e1 e2
      subst e1; subst e2
      cases hq : ptrs xs with
      | none => rw [hq] at h; cases h
      | some l2 =>
        rw [hq] at h
        cases h
        rw [ih h2 hq]
        obtain rfl := h1
        rfl
    · cases h
end
/-- an operation that leaves memory alone -/
def aPureOp (P : Program) (op : Op) (s : St) (K : V → Prop) : Prop :=
  match op with
  | .move x => K (s.ev x)
  | .assign x => K (s.ev x)
  | .pick c a b => match s.ev c with
    | .w (.c (.val (.bool t))) => (t = true → K (s.ev a)) ∧ (t = false → K (s.ev b))
    | _ => False
  | .binOp op t x y _ => aBinY P op t y (s.ev x) (s.ev y) K
  | .unOp op _ x => aUn op (s.ev x) K
  | .convert a b x => aConv P a b (s.ev x) K
  | .fieldAddr t x i => aFieldAddr P t (s.ev x) i K
  | .field t x i => aField P t (s.ev x) i K
  | .indexAddr t x i => aIndexAddr P t (s.ev x) (s.ev i) K
  | .index t x i => aIndex P t (s.ev x) (s.ev i) K
  | .extract x i => aExtract (s.ev x) i K
  | .nilCheck x => aNilCheck (s.ev x) K
  | .makeFunc f a b => aMakeFunc f (a.toList.map s.ev) (b.toList.map s.ev) K
  | .makeInterface t x => aMakeIface P t (s.ev x) K
  | .slice t x lo hi none => aSlice P t (s.ev x) (lo.map s.ev) (hi.map s.ev) K
  | .load t x => aLoadMem P t (s.ev x) K
  | .call ⟨.builtin .len, ⟨[x]⟩, ⟨[t]⟩⟩ => aLen P t (s.ev x) K
  | .call ⟨.builtin .max, ⟨xs⟩, _⟩ => aMinMax true (xs.map s.ev) K
  | .call ⟨.builtin .min, ⟨xs⟩, _⟩ => aMinMax false (xs.map s.ev) K
  | _ => False
def isLoad : Op → Bool
  | .load _ _ => true
  | _ => false
theorem aPureOp_sound {P : Program} {g : Gh} {o : Oper} {s : St} {ρ : Operand → Value} {K : V → Prop} (hs : ∀ x, RelV g (s.ev x) (ρ x)) (h : aPureOp P o.op s K) :
    ∃ r z, K r ∧ RelV g r z ∧ ∀ w : World, (isLoad o.op = true → MemOK g.M w) → (execOp ρ o).run P w = .ok (.value z) w := by
  have v : ∀ {z : Value} {w : World} {S : Sem Value}, S.run P w = .ok z w → (do pure (Next.value (← S)) : Sem Next).run P w = .ok (.value z) w := fun h => by simp [h]
  have map_rel : ∀ l : List Operand, All2 (RelV g) (l.map s.ev) (l.map ρ) := fun l => by
    induction l with
    | nil => exact .nil
    | cons x l ih => exact .cons (hs x) ih
  have opt1 : ∀ (x : Option Operand) v, x.map s.ev = some v → ∃ z, x.map ρ = some z ∧ RelV g v z := by
    intro x v h
    cases x with
    | none => cases h
    | some x => cases h; exact ⟨_, rfl, hs x⟩
  have opt2 : ∀ (x : Option Operand), x.map s.ev = none → x.map ρ = none := by
    intro x h; cases x with
    | none => rfl
    | some x => cases h
  obtain ⟨dst, op, type, pos, after, guard⟩ := o
  simp only at h
  unfold aPureOp at h
  split at h
  · exact ⟨_, _, h, hs _, fun w _ => rfl⟩
  · exact ⟨_, _, h, hs _, fun w _ => rfl⟩
  · rename_i c a b
    split at h
    · rename_i t ht
      have hc := hs c
      rw [ht] at hc
      obtain ⟨_, hc⟩ := hc
      cases t
      · exact ⟨_, _, h.2 rfl, hs b, fun w _ => by simp [execOp, hc, asBool]⟩
      · exact ⟨_, _, h.1 rfl, hs a, fun w _ => by simp [execOp, hc, asBool]⟩
    · exact h.elim
  · unfold aBinY at h
    split at h
    · rename_i x _ _
      have hn : ρ (.const .nilIface) = .nilIface := (hs (.const .nilIface)).2
      obtain ⟨r, z, h1, h2, h3⟩ := run_nilI (X := x) (hs _) h
      refine ⟨r, z, h1, h2, fun w _ => v ?_⟩
      rw [hn]; exact h3 w
    · obtain ⟨r, z, h1, h2, h3⟩ := run_bin (X := _) (Y := _) (hs _) (hs _) h
      exact ⟨r, z, h1, h2, fun w _ => v (h3 w)⟩
  · obtain ⟨r, z, h1, h2, h3⟩ := run_un (P := P) (hs _) h
    exact ⟨r, z, h1, h2, fun w _ => v (h3 w)⟩
  · obtain ⟨r, z, h1, h2, h3⟩ := run_conv (hs _) h
    exact ⟨r, z, h1, h2, fun w _ => v (h3 w)⟩
  · obtain ⟨r, z, h1, h2, h3⟩ := run_fieldAddr (hs _) h
    exact ⟨r, z, h1, h2, fun w _ => v (h3 w)⟩
  · obtain ⟨r, z, h1, h2, h3⟩ := run_field (hs _) h
    exact ⟨r, z, h1, h2, fun w _ => v (h3 w)⟩
  · obtain ⟨r, z, h1, h2, h3⟩ := run_indexAddr (hs _) (hs _) h
    exact ⟨r, z, h1, h2, fun w _ => v (h3 w)⟩
  · obtain ⟨r, z, h1, h2, h3⟩ := run_index (hs _) (hs _) h
    exact ⟨r, z, h1, h2, fun w _ => v (h3 w)⟩
  · obtain ⟨r, z, h1, h2, h3⟩ := run_extract (P := P) (hs _) h
    exact ⟨r, z, h1, h2, fun w _ => v (h3 w)⟩
  · rename_i x
    have hx := hs x
    unfold aNilCheck at h
    split at h
    · rename_i heq; rw [heq] at hx; obtain hx := hx; exact ⟨_, _, h, by rw [heq]; exact hx, fun w _ => by have := hx; simp only [RelV, RelW, RelC] at this; simp [execOp, this]⟩
    · rename_i heq; rw [heq] at hx; obtain ⟨a, ha, hm⟩ := hx; exact ⟨_, _, h, by rw [heq]; exact ⟨a, ha, hm⟩, fun w _ => by simp [execOp, ha]⟩
    · rename_i heq; rw [heq] at hx; exact ⟨_, _, h, by rw [heq]; exact hx, fun w _ => by have := hx; simp only [RelV, RelW, RelC] at this; simp [execOp, this]⟩
    · exact h.elim
  · obtain ⟨a, b, h1, h2, h⟩ := h
    refine ⟨_, _, h, rfl, fun w _ => ?_⟩
    have e1 := ptrs_rel (map_rel _) h1
    have e2 := ptrs_rel (map_rel _) h2
    have e0 : ∀ l : Array Operand, l.map ρ = (l.toList.map ρ).toArray := fun l => Array.ext' (Array.toList_map)
    simp only [execOp, Instr.makeFunc, e0, e1, e2]
    rfl
  · obtain ⟨r, z, h1, h2, h3⟩ := run_iface (hs _) h
    exact ⟨r, z, h1, h2, fun w _ => v (h3 w)⟩
  · obtain ⟨r, z, h1, h2, h3⟩ := run_slice (hs _) (opt1 _) (opt2 _) (opt1 _) (opt2 _) h
    exact ⟨r, z, h1, h2, fun w _ => v (h3 w)⟩
  · obtain ⟨r, z, h1, h2, h3⟩ := run_loadMem (hs _) h
    exact ⟨r, z, h1, h2, fun w hw => v (h3 w (hw rfl))⟩
  · obtain ⟨r, z, h1, h2, h3⟩ := run_len (ty := type) (hs _) h
    exact ⟨r, z, h1, h2, fun w _ => by simp [execOp, resolve, invoke, builtin, h3]⟩
  · obtain ⟨r, z, h1, h2, h3⟩ := run_minmax (P := P) (ty := type) (ts := _) (map_rel _) h
    exact ⟨r, z, h1, h2, fun w _ => by have h4 := h3 w; simp at h4; simp [execOp, resolve, invoke, builtin]; rw [h4]; rfl⟩
  · obtain ⟨r, z, h1, h2, h3⟩ := run_minmax (P := P) (ty := type) (ts := _) (map_rel _) h
    exact ⟨r, z, h1, h2, fun w _ => by have h4 := h3 w; simp at h4; simp [execOp, resolve, invoke, builtin]; rw [h4]; rfl⟩
  · exact h.elim
end Go.Proofs.Ytamcjecgkfmjkaa
