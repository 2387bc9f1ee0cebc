/- From the logic to the rows of the laws: states. -/
import Derived.Test.YtfjcflmhboepmaaRwH
import Derived.Test.YtfjcflmhboepmaaF13j
import Derived.Deep.Slices
open Go Go.RowKit Go.ChangeShapes Go.WideShapes
namespace Go.Proofs.Ytfjcflmhboepmaa
set_option linter.unusedVariables false
def okW : Option IntKind → Value → Prop
  | none, v => ∃ b, v = .bool b
  | some k, v => ∃ n, v = .int k n ∧ (Lit.int k n).wf = true
theorem All2.split {α β : Type} {R : α → β → Prop} {a b : List α} {l : List β} (h : All2 R (a ++ b) l) : ∃ l1 l2, l = l1 ++ l2 ∧ All2 R a l1 ∧ All2 R b l2 := by
  refine ⟨l.take a.length, l.drop a.length, (List.take_append_drop _ _).symm, ?_, ?_⟩
  · have := h.take a.length; rwa [List.take_left' rfl] at this
  · have := h.drop a.length; rwa [List.drop_left' rfl] at this
section
variable {H : Type} {enc : TypeId × Value → H} {P : Program} {w : World} {base : Nat} {sp : Nat → Bool} {held : Bool}
theorem flatFs_ok {K : TypeId → Option (List (Option IntKind))} {cs : List Value} : ∀ (fs : List Field) (off : Nat) (ks : List (Option IntKind)), flatFs K off fs = some ks →
    (∀ f ∈ fs, ∀ k1, K f.type = some k1 → All2 okW k1 ((cs.drop f.offset).take (P.cellsOf f.type))) → All2 okW ks ((cs.drop off).take ks.length) := by
  intro fs
  induction fs with
  | nil => intro off ks h _; cases h; exact .nil
  | cons f fs ih =>
    intro off ks h hf
    unfold flatFs at h
    split at h
    · cases h
    · rename_i hn
      have hoff : f.offset = off := Decidable.byContradiction fun e => hn (.inr e)
      split at h
      · rename_i k1 hk1
        simp only [Option.map_eq_some_iff] at h
        obtain ⟨k2, hk2, rfl⟩ := h
        have h1 := hf f (List.mem_cons_self ..) k1 hk1
        rw [hoff] at h1
        have hl := h1.length
        have hc : (cs.drop off).take k1.length = (cs.drop off).take (P.cellsOf f.type) := by
          have e : ((cs.drop off).take (P.cellsOf f.type)).take k1.length = (cs.drop off).take (P.cellsOf f.type) := List.take_of_length_le (by omega)
          rw [List.take_take] at e
          have hle : k1.length ≤ P.cellsOf f.type := by rw [hl, List.length_take]; omega
          rw [Nat.min_eq_left hle] at e
          exact e
        have h2 := ih (off + k1.length) k2 hk2 fun g hg => hf g (List.mem_cons_of_mem _ hg)
        rw [List.length_append, List.take_add, hc, List.drop_drop]
        exact h1.app h2
      · cases h
theorem flat_trod : ∀ (d : Nat) {t : TypeId} {ks : List (Option IntKind)} {fuel : Nat} {cs : List Value} {x : DataW H × List MemPlace}, flatK P d t = some ks → DataW.trod enc P w base sp held fuel t cs = some x → All2 okW ks cs := by
  intro d
  induction d with
  | zero => intro t ks fuel cs x h; cases h
  | succ d ih =>
    intro t ks fuel cs x h hx
    unfold flatK at h
    split at h
    · cases h
    · split at h
      · rename_i hu
        cases h
        obtain ⟨b, rfl, _⟩ := DataW.trod_bool hu hx
        exact .cons ⟨b, rfl⟩ .nil
      · rename_i k hu
        cases h
        obtain ⟨n, rfl, _, hw⟩ := DataW.trod_int hu hx
        exact .cons ⟨n, rfl, hw⟩ .nil
      · rename_i n e hu
        split at h
        · rename_i k1 hk1
          split at h
          · rename_i hc
            cases h
            obtain ⟨xs, m, _, _, hlen, hxl, hall⟩ := DataW.trod_array hu hx
            have key : ∀ j, j ≤ n → All2 okW (List.replicate j k1).flatten (cs.take (j * k1.length)) := by
              intro j
              induction j with
              | zero => intro _; simp only [List.replicate_zero, List.flatten_nil, Nat.zero_mul, List.take_zero]; exact .nil
              | succ j ihj =>
                intro hj
                have h1 := ihj (by omega)
                have hq := hall j (by omega)
                rw [List.getElem?_eq_getElem (by omega)] at hq
                have h2 := ih hk1 hq
                rw [hc.1] at h2
                rw [show List.replicate (j + 1) k1 = List.replicate j k1 ++ [k1] by rw [List.replicate_succ'], List.flatten_append, Nat.succ_mul, List.take_add]
                simp only [List.flatten_cons, List.flatten_nil, List.append_nil]
                exact h1.app h2
            have := key n (Nat.le_refl _)
            rwa [List.take_of_length_le (by rw [hlen, hc.2]; omega)] at this
          · cases h
        · cases h
      · rename_i fs hu
        split at h
        · cases h
        · split at h
          · rename_i k1 hk1
            split at h
            · rename_i hc
              cases h
              obtain ⟨xs, m, _, _, hlen, hxl, hall⟩ := DataW.trod_struct hu hx
              have := flatFs_ok (P := P) (cs := cs) fs.toList 0 _ hk1 fun f hf kf hkf => by
                obtain ⟨i, hi⟩ := List.mem_iff_getElem?.1 hf
                have hi' : fs[i]? = some f := by simpa using hi
                have hlt : i < fs.size := by
                  have := (List.getElem?_eq_some_iff.1 hi).1; simpa using this
                have hq := hall i f hi'
                rw [List.getElem?_eq_getElem (by omega)] at hq
                exact ih hkf hq
              rw [List.drop_zero, List.take_of_length_le (by omega)] at this
              exact this
            · cases h
          · cases h
      · cases h
end
theorem i32_inv : ∀ (n : Nat) {l : List Value}, All2 okW (List.replicate n (some .i32)) l → ∃ xs : List Int, l = xs.map (fun n => Value.int .i32 n) ∧ xs.length = n
  | 0, l, h => by cases h; exact ⟨[], rfl, rfl⟩
  | n + 1, l, h => by
    obtain ⟨v, l', rfl, ⟨m, rfl, _⟩, h2⟩ := h.cons_inv
    obtain ⟨xs, rfl, hx⟩ := i32_inv n h2
    exact ⟨m :: xs, rfl, by simp [hx]⟩
def i64B (n : Int) : Prop := -9223372036854775808 ≤ n ∧ n ≤ 9223372036854775807
theorem i64_wf {n : Int} (h : (Lit.int .i64 n).wf = true) : i64B n := by
  simp only [Lit.wf, Bool.and_eq_true, decide_eq_true_eq] at h
  have e1 : IntKind.i64.min = -9223372036854775808 := by kernel_rfl
  have e2 : IntKind.i64.max = 9223372036854775807 := by kernel_rfl
  rw [e1, e2] at h
  exact h
theorem sta_inv {cs : List Value} (h : All2 okW ([some .i64, some .i32, some .i32, some .i32, some .i32, some .i32, some .i32, some .i32, some .i32, some .i32, some .i32, some .i32, some .i32, some .i32, some .i32, some .i32, some .i32, some .u32, none, some .i64] : List (Option IntKind)) cs) : ∃ s : Sta, cs = uvS s ∧ i64B s.frame ∧ i64B s.win := by
  obtain ⟨v, cs', rfl, ⟨f, rfl, hf⟩, h0⟩ := h.cons_inv
  have h' : All2 okW (List.replicate 16 (some .i32) ++ [some .u32, none, some .i64]) cs' := h0
  obtain ⟨l1, l2, rfl, h1, h2⟩ := h'.split
  obtain ⟨xs, rfl, hx⟩ := i32_inv 16 h1
  obtain ⟨v2, l3, rfl, ⟨z, rfl, hz⟩, h3⟩ := h2.cons_inv
  obtain ⟨v3, l4, rfl, ⟨b, rfl⟩, h4⟩ := h3.cons_inv
  obtain ⟨v4, l5, rfl, ⟨k, rfl, hk⟩, h5⟩ := h4.cons_inv
  obtain rfl := h5.nil_inv
  have hu : U32 (UInt32.ofNat z.toNat) = z := by
    simp only [Lit.wf, Bool.and_eq_true, decide_eq_true_eq] at hz
    have e1 : IntKind.u32.min = 0 := by kernel_rfl
    have e2 : IntKind.u32.max = 4294967295 := by kernel_rfl
    rw [e1, e2] at hz
    unfold U32; rw [UInt32.toNat_ofNat']; omega
  refine ⟨⟨f, xs, UInt32.ofNat z.toNat, b, k, hx⟩, ?_, i64_wf hf, i64_wf hk⟩
  simp only [uvS, hu]
theorem rel_vals {g : Gh} : ∀ {us : List Value}, (∀ u ∈ us, scalar u = true) → All2 (RelC g) (us.map C.val) us
  | [], _ => .nil
  | u :: us, h => .cons ⟨h u (List.mem_cons_self ..), rfl⟩ (rel_vals fun v hv => h v (List.mem_cons_of_mem _ hv))
theorem uvS_scalar (s : Sta) : ∀ u ∈ uvS s, scalar u = true := by
  intro u hu
  unfold uvS at hu
  simp only [List.mem_cons, List.mem_append, List.mem_map, List.not_mem_nil, or_false] at hu
  rcases hu with rfl | ⟨n, _, rfl⟩ | rfl | rfl | rfl <;> rfl
theorem flatSta : flatK Try.prog 8 64 = some [some .i64, some .i32, some .i32, some .i32, some .i32, some .i32, some .i32, some .i32, some .i32, some .i32, some .i32, some .i32, some .i32, some .i32, some .i32, some .i32, some .i32, some .u32, none, some .i64] := by kernel_rfl
set_option maxRecDepth 100000 in
theorem open_sta {H : Type} {enc : TypeId × Value → H} {W : World} {v : Value} {d : DataW H} {ps : List MemPlace} {r : Reach} {b0 : Nat}
    (hv : Value.okWide Try.prog W r b0 64 v) (h : DataW.Trod enc Try.prog W 0 (fun _ => true) true 64 v d ps) :
    ∃ s : Sta, RelW (ghOf W) (.agg ((sd s).map D.toC)) v ∧ i64B s.frame ∧ i64B s.win := by
  obtain ⟨cs, rfl, _⟩ := okWide_struct Try.underlying64 hv
  obtain ⟨fuel, hf⟩ := h
  obtain ⟨s, hs, h1, h2⟩ := sta_inv (flat_trod 8 flatSta hf)
  refine ⟨s, ⟨cs, rfl, ?_⟩, h1, h2⟩
  have e : cs.toList = uvS s := hs
  rw [e, uvS_sd]
  exact rel_vals (uvS_scalar s)
end Go.Proofs.Ytfjcflmhboepmaa
