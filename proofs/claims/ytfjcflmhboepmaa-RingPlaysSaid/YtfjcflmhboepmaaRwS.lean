/- From the logic to the rows of the laws: states. -/
import Derived.Test.YtfjcflmhboepmaaRwH
import Derived.Test.YtfjcflmhboepmaaRwF
import Derived.Test.YtfjcflmhboepmaaF13j
import Derived.Deep.Slices
open Go Go.RowKit Go.ChangeShapes Go.WideShapes
namespace Go.Proofs.Ytfjcflmhboepmaa
set_option linter.unusedVariables false
theorem i32_inv : ∀ (n : Nat) {l : List Value}, All2 okW (List.replicate n (some .i32)) l → ∃ xs : List Int, l = xs.map (fun n => Value.int .i32 n) ∧ xs.length = n
  | 0, l, h => by cases h; exact ⟨[], rfl, rfl⟩
  | n + 1, l, h => by
    obtain ⟨v, l', rfl, ⟨m, rfl, _⟩, h2⟩ := h.cons_inv
    obtain ⟨xs, rfl, hx⟩ := i32_inv n h2
    exact ⟨m :: xs, rfl, by simp [hx]⟩
theorem sta_inv {cs : List Value} (h : All2 okW ([some .i64, some .i32, some .i32, some .i32, some .i32, some .i32, some .i32, some .i32, some .i32, some .i32, some .i32, some .i32, some .i32, some .i32, some .i32, some .i32, some .i32, some .u32, none, some .i64] : List (Option IntKind)) cs) : ∃ s : Sta, cs = uvS s ∧ i64B s.frame ∧ i64B s.win := by
  obtain ⟨v, cs', rfl, ⟨f, rfl, hf⟩, h0⟩ := h.cons_inv
  have h' : All2 okW (List.replicate 16 (some .i32) ++ [some .u32, none, some .i64]) cs' := h0
  obtain ⟨l1, l2, rfl, h1, h2⟩ := h'.split
  obtain ⟨xs, rfl, hx⟩ := i32_inv 16 h1
  obtain ⟨v2, l3, rfl, ⟨z, rfl, hz⟩, h3⟩ := h2.cons_inv
  obtain ⟨v3, l4, rfl, ⟨b, rfl⟩, h4⟩ := h3.cons_inv
  obtain ⟨v4, l5, rfl, ⟨k, rfl, hk⟩, h5⟩ := h4.cons_inv
  obtain rfl := h5.nil_inv
  have hu : U32 (UInt32.ofNat z.toNat) = z := by
    simp only [Lit.wf, Bool.and_eq_true, decide_eq_true_eq] at hz
    have e1 : IntKind.u32.min = 0 := by kernel_rfl
    have e2 : IntKind.u32.max = 4294967295 := by kernel_rfl
    rw [e1, e2] at hz
    unfold U32; rw [UInt32.toNat_ofNat']; omega
  refine ⟨⟨f, xs, UInt32.ofNat z.toNat, b, k, hx⟩, ?_, i64_wf hf, i64_wf hk⟩
  simp only [uvS, hu]
theorem uvS_scalar (s : Sta) : ∀ u ∈ uvS s, scalar u = true := by
  intro u hu
  unfold uvS at hu
  simp only [List.mem_cons, List.mem_append, List.mem_map, List.not_mem_nil, or_false] at hu
  rcases hu with rfl | ⟨n, _, rfl⟩ | rfl | rfl | rfl <;> rfl
theorem flatSta : flatK Try.prog 8 64 = some [some .i64, some .i32, some .i32, some .i32, some .i32, some .i32, some .i32, some .i32, some .i32, some .i32, some .i32, some .i32, some .i32, some .i32, some .i32, some .i32, some .i32, some .u32, none, some .i64] := by kernel_rfl
set_option maxRecDepth 100000 in
theorem open_sta {H : Type} {enc : TypeId × Value → H} {W : World} {v : Value} {d : DataW H} {ps : List MemPlace} {r : Reach} {b0 : Nat}
    (hv : Value.okWide Try.prog W r b0 64 v) (h : DataW.Trod enc Try.prog W 0 (fun _ => true) true 64 v d ps) :
    ∃ s : Sta, RelW (ghOf W) (.agg ((sd s).map D.toC)) v ∧ i64B s.frame ∧ i64B s.win := by
  obtain ⟨cs, rfl, _⟩ := okWide_struct Try.underlying64 hv
  obtain ⟨fuel, hf⟩ := h
  obtain ⟨s, hs, h1, h2⟩ := sta_inv (flat_trod 8 flatSta hf)
  refine ⟨s, ⟨cs, rfl, ?_⟩, h1, h2⟩
  have e : cs.toList = uvS s := hs
  rw [e, uvS_sd]
  exact rel_vals (uvS_scalar s)
theorem stas_inv : ∀ {L : List (List Value)}, (∀ q ∈ L, All2 okW ([some .i64, some .i32, some .i32, some .i32, some .i32, some .i32, some .i32, some .i32, some .i32, some .i32, some .i32, some .i32, some .i32, some .i32, some .i32, some .i32, some .i32, some .u32, none, some .i64] : List (Option IntKind)) q) → ∃ l : List Sta, L = l.map uvS ∧ ∀ s ∈ l, i64B s.frame ∧ i64B s.win
  | [], _ => ⟨[], rfl, by simp⟩
  | q :: L, h => by
    obtain ⟨s, rfl, h1, h2⟩ := sta_inv (h q (List.mem_cons_self ..))
    obtain ⟨l, rfl, h3⟩ := stas_inv (L := L) fun q hq => h q (List.mem_cons_of_mem _ hq)
    refine ⟨s :: l, rfl, fun t ht => ?_⟩
    rcases List.mem_cons.1 ht with rfl | ht
    · exact ⟨h1, h2⟩
    · exact h3 t ht
theorem sds_vals (l : List Sta) : (l.map uvS).flatten.map D.val = sds l := by
  induction l with
  | nil => rfl
  | cons s l ih =>
    rw [List.map_cons, List.flatten_cons, List.map_append, ih, sds_cons]
    congr 1
    simp [sd, uvS, c32]
set_option maxRecDepth 100000 in
theorem open_stas {H : Type} {enc : TypeId × Value → H} {W : World} {v : Value} {d : DataW H} {ps : List MemPlace} {r : Reach} {b0 : Nat}
    (hv : Value.okWide Try.prog W r b0 53 v) (h : DataW.Trod enc Try.prog W 0 (fun _ => true) true 53 v d ps) :
    ∃ l : List Sta, RelW (ghOf W) (.c (.lst .no none 20 (sds l))) v ∧ (∀ s ∈ l, i64B s.frame ∧ i64B s.win) ∧ l.length ≤ maxLen := by
  obtain ⟨L, h1, h2, h3⟩ := open_flats (sz := 20) Try.underlying53 flatSta rfl (by omega) hv h
  obtain ⟨l, rfl, h4⟩ := stas_inv h1
  rw [sds_vals] at h3
  exact ⟨l, h3, h4, by simpa using h2⟩
end Go.Proofs.Ytfjcflmhboepmaa
