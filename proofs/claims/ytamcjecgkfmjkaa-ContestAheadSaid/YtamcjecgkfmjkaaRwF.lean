/- From the logic to the rows of the laws: rows of structs of numbers. -/
import Derived.Test.YtamcjecgkfmjkaaRwH
import Derived.Test.YtamcjecgkfmjkaaAwJ
import Derived.Deep.Slices
open Go Go.RowKit Go.ChangeShapes Go.WideShapes
namespace Go.Proofs.Ytamcjecgkfmjkaa
set_option linter.unusedVariables false
theorem All2.app' {α β : Type} {R : α → β → Prop} {a c : List α} {b d : List β} (h1 : All2 R a b) (h2 : All2 R c d) : All2 R (a ++ c) (b ++ d) := by
  induction h1 with
  | nil => exact h2
  | cons h _ ih => exact .cons h ih
def okW : Option IntKind → Value → Prop
  | none, v => ∃ b, v = .bool b
  | some k, v => ∃ n, v = .int k n ∧ (Lit.int k n).wf = true
theorem All2.split {α β : Type} {R : α → β → Prop} {a b : List α} {l : List β} (h : All2 R (a ++ b) l) : ∃ l1 l2, l = l1 ++ l2 ∧ All2 R a l1 ∧ All2 R b l2 := by
  refine ⟨l.take a.length, l.drop a.length, (List.take_append_drop _ _).symm, ?_, ?_⟩
  · have := h.take a.length; rwa [List.take_left' rfl] at this
  · have := h.drop a.length; rwa [List.drop_left' rfl] at this
section
variable {H : Type} {enc : TypeId × Value → H} {P : Program} {w : World} {base : Nat} {sp : Nat → Bool} {held : Bool}
theorem flatFs_ok {K : TypeId → Option (List (Option IntKind))} {cs : List Value} : ∀ (fs : List Field) (off : Nat) (ks : List (Option IntKind)), flatFs K off fs = some ks →
    (∀ f ∈ fs, ∀ k1, K f.type = some k1 → All2 okW k1 ((cs.drop f.offset).take (P.cellsOf f.type))) → All2 okW ks ((cs.drop off).take ks.length) := by
  intro fs
  induction fs with
  | nil => intro off ks h _; cases h; exact .nil
  | cons f fs ih =>
    intro off ks h hf
    unfold flatFs at h
    split at h
    · cases h
    · rename_i hn
      have hoff : f.offset = off := Decidable.byContradiction fun e => hn (.inr e)
      split at h
      · rename_i k1 hk1
        simp only [Option.map_eq_some_iff] at h
        obtain ⟨k2, hk2, rfl⟩ := h
        have h1 := hf f (List.mem_cons_self ..) k1 hk1
        rw [hoff] at h1
        have hl := h1.length
        have hc : (cs.drop off).take k1.length = (cs.drop off).take (P.cellsOf f.type) := by
          have e : ((cs.drop off).take (P.cellsOf f.type)).take k1.length = (cs.drop off).take (P.cellsOf f.type) := List.take_of_length_le (by omega)
          rw [List.take_take] at e
          have hle : k1.length ≤ P.cellsOf f.type := by rw [hl, List.length_take]; omega
          rw [Nat.min_eq_left hle] at e
          exact e
        have h2 := ih (off + k1.length) k2 hk2 fun g hg => hf g (List.mem_cons_of_mem _ hg)
        rw [List.length_append, List.take_add, hc, List.drop_drop]
        exact h1.app' h2
      · cases h
theorem flat_trod : ∀ (d : Nat) {t : TypeId} {ks : List (Option IntKind)} {fuel : Nat} {cs : List Value} {x : DataW H × List MemPlace}, flatK P d t = some ks → DataW.trod enc P w base sp held fuel t cs = some x → All2 okW ks cs := by
  intro d
  induction d with
  | zero => intro t ks fuel cs x h; cases h
  | succ d ih =>
    intro t ks fuel cs x h hx
    unfold flatK at h
    split at h
    · cases h
    · split at h
      · rename_i hu
        cases h
        obtain ⟨b, rfl, _⟩ := DataW.trod_bool hu hx
        exact .cons ⟨b, rfl⟩ .nil
      · rename_i k hu
        cases h
        obtain ⟨n, rfl, _, hw⟩ := DataW.trod_int hu hx
        exact .cons ⟨n, rfl, hw⟩ .nil
      · rename_i n e hu
        split at h
        · rename_i k1 hk1
          split at h
          · rename_i hc
            cases h
            obtain ⟨xs, m, _, _, hlen, hxl, hall⟩ := DataW.trod_array hu hx
            have key : ∀ j, j ≤ n → All2 okW (List.replicate j k1).flatten (cs.take (j * k1.length)) := by
              intro j
              induction j with
              | zero => intro _; simp only [List.replicate_zero, List.flatten_nil, Nat.zero_mul, List.take_zero]; exact .nil
              | succ j ihj =>
                intro hj
                have h1 := ihj (by omega)
                have hq := hall j (by omega)
                rw [List.getElem?_eq_getElem (by omega)] at hq
                have h2 := ih hk1 hq
                rw [hc.1] at h2
                rw [show List.replicate (j + 1) k1 = List.replicate j k1 ++ [k1] by rw [List.replicate_succ'], List.flatten_append, Nat.succ_mul, List.take_add]
                simp only [List.flatten_cons, List.flatten_nil, List.append_nil]
                exact h1.app' h2
            have := key n (Nat.le_refl _)
            rwa [List.take_of_length_le (by rw [hlen, hc.2]; omega)] at this
          · cases h
        · cases h
      · rename_i fs hu
        split at h
        · cases h
        · split at h
          · rename_i k1 hk1
            split at h
            · rename_i hc
              cases h
              obtain ⟨xs, m, _, _, hlen, hxl, hall⟩ := DataW.trod_struct hu hx
              have := flatFs_ok (P := P) (cs := cs) fs.toList 0 _ hk1 fun f hf kf hkf => by
                obtain ⟨i, hi⟩ := List.mem_iff_getElem?.1 hf
                have hi' : fs[i]? = some f := by simpa using hi
                have hlt : i < fs.size := by
                  have := (List.getElem?_eq_some_iff.1 hi).1; simpa using this
                have hq := hall i f hi'
                rw [List.getElem?_eq_getElem (by omega)] at hq
                exact ih hkf hq
              rw [List.drop_zero, List.take_of_length_le (by omega)] at this
              exact this
            · cases h
          · cases h
      · cases h
end
def i64B (n : Int) : Prop := -9223372036854775808 ≤ n ∧ n ≤ 9223372036854775807
theorem i64_wf {n : Int} (h : (Lit.int .i64 n).wf = true) : i64B n := by
  simp only [Lit.wf, Bool.and_eq_true, decide_eq_true_eq] at h
  have e1 : IntKind.i64.min = -9223372036854775808 := by kernel_rfl
  have e2 : IntKind.i64.max = 9223372036854775807 := by kernel_rfl
  rw [e1, e2] at h
  exact h
theorem rel_vals {g : Gh} : ∀ {us : List Value}, (∀ u ∈ us, scalar u = true) → All2 (RelC g) (us.map C.val) us
  | [], _ => .nil
  | u :: us, h => .cons ⟨h u (List.mem_cons_self ..), rfl⟩ (rel_vals fun v hv => h v (List.mem_cons_of_mem _ hv))
theorem okW_scalar {k : Option IntKind} {v : Value} (h : okW k v) : scalar v = true := by
  cases k with
  | none => obtain ⟨b, rfl⟩ := h; rfl
  | some k => obtain ⟨n, rfl, _⟩ := h; rfl
theorem okW_all {ks : List (Option IntKind)} {vs : List Value} (h : All2 okW ks vs) : ∀ v ∈ vs, scalar v = true := by
  induction h with
  | nil => intro v hv; cases hv
  | cons h _ ih => intro v hv; rcases List.mem_cons.1 hv with rfl | hv
                   · exact okW_scalar h
                   · exact ih v hv
theorem flat_row {α : Type} {sz : Nat} : ∀ (L : List (List α)), (∀ r ∈ L, r.length = sz) → L.flatten.length = L.length * sz ∧ ∀ (j i : Nat), i < sz → L.flatten[j * sz + i]? = (L[j]?).bind (·[i]?)
  | [], _ => ⟨by simp, fun j i _ => by simp⟩
  | r :: L, h => by
    obtain ⟨h1, h2⟩ := flat_row L fun r hr => h r (List.mem_cons_of_mem _ hr)
    have hr := h r (List.mem_cons_self ..)
    refine ⟨by simp only [List.flatten_cons, List.length_append, h1, hr, List.length_cons, Nat.succ_mul]; omega, fun j i hi => ?_⟩
    rw [List.flatten_cons]
    cases j with
    | zero => rw [Nat.zero_mul, Nat.zero_add, List.getElem?_append_left (by omega)]; simp
    | succ j =>
      rw [List.getElem?_append_right (by rw [Nat.succ_mul]; omega), show (j + 1) * sz + i - r.length = j * sz + i by rw [Nat.succ_mul]; omega, h2 j i hi]
      simp
theorem open_flats {H : Type} {enc : TypeId × Value → H} {P : Program} {W : World} {t e : TypeId} {ks : List (Option IntKind)} {v : Value} {d : DataW H} {ps : List MemPlace} {r : Reach} {b0 sz : Nat}
    (hu : P.underlying t = some (.slice e)) (hk : flatK P 8 e = some ks) (hsz : ks.length = sz) (h0 : 0 < sz)
    (hv : Value.okWide P W r b0 t v) (h : DataW.Trod enc P W 0 (fun _ => true) true t v d ps) :
    ∃ L : List (List Value), (∀ q ∈ L, All2 okW ks q) ∧ L.length ≤ maxLen ∧ RelW (ghOf W) (.c (.lst .no none sz (L.flatten.map D.val))) v := by
  obtain ⟨a, len, cap, rfl⟩ := okWide_slice hu hv
  obtain ⟨fuel, hf⟩ := h
  rcases Go.Deep.open_slice hu hf with ⟨hcs, _⟩ | ⟨x, l, c, m, n, D', Pl, hcs, _, hl, hm, hmm, _, hx⟩
  · simp [Value.cells] at hcs
    obtain ⟨rfl, rfl, rfl⟩ := hcs
    exact ⟨[], by simp, by simp, ⟨RelD.nil (by simp) h0, trivial⟩⟩
  · simp [Value.cells] at hcs
    obtain ⟨rfl, rfl, rfl⟩ := hcs
    have hlm : len ≤ m := by rw [hmm]; simp only [if_true]; exact hl
    have hV : ∀ i, i < len → ∃ cs' : List Value, (∀ j, j < sz → W.cell? (x.add (i * sz + j)) = cs'[j]?) ∧ All2 okW ks cs' := by
      intro i hi
      obtain ⟨cs', h1, h2⟩ := hx i (by omega)
      have h3 := flat_trod 8 hk h2
      obtain ⟨_, h4, h5⟩ := World.cells?_some h1
      have h6 : P.cellsOf e = sz := by rw [← h4, ← h3.length, hsz]
      rw [h6] at h5
      refine ⟨cs', fun j hj => ?_, h3⟩
      rw [← add_of_add]
      exact h5 j hj
    obtain ⟨V, hV⟩ := Go.Deep.choose_lt hV
    have hL : ∀ q ∈ (List.range len).map V, All2 okW ks q := by
      intro q hq
      simp only [List.mem_map, List.mem_range] at hq
      obtain ⟨i, hi, rfl⟩ := hq
      exact (hV i hi).2
    have hl2 : ∀ q ∈ (List.range len).map V, q.length = sz := fun q hq => by rw [← (hL q hq).length, hsz]
    obtain ⟨f1, f2⟩ := flat_row _ hl2
    rw [List.length_map, List.length_range] at f1
    refine ⟨(List.range len).map V, hL, by simp; omega, ⟨RelD.mk (by simp) h0 (by simp only [List.length_map, f1]) hl hm ?_, trivial⟩⟩
    intro i dd hi
    rw [List.getElem?_map, Option.map_eq_some_iff] at hi
    obtain ⟨u, hu2, rfl⟩ := hi
    have hlt := (List.getElem?_eq_some_iff.1 hu2).1
    rw [f1] at hlt
    have e1 : i / sz * sz + i % sz = i := by rw [Nat.mul_comm]; exact Nat.div_add_mod i sz
    have e2 : i / sz < len := Nat.div_lt_of_lt_mul (by rw [Nat.mul_comm]; exact hlt)
    have e3 : i % sz < sz := Nat.mod_lt _ h0
    have h7 := f2 (i / sz) (i % sz) e3
    rw [e1, hu2] at h7
    have h8 := (hV _ e2).1 _ e3
    rw [e1] at h8
    rw [List.getElem?_map, List.getElem?_range e2] at h7
    simp only [Option.map_some, Option.bind_some] at h7
    refine ⟨u, by rw [show (ghOf W).M = fun a => W.cell? a from rfl]; dsimp only; rw [h8, ← h7], .val ?_⟩
    exact okW_all (hV _ e2).2 u (List.mem_of_getElem? h7.symm)
/-- one struct (or array) of numbers -/
theorem open_flat {H : Type} {enc : TypeId × Value → H} {P : Program} {W : World} {t : TypeId} {ks : List (Option IntKind)} {cs : Array Value} {d : DataW H} {ps : List MemPlace}
    (hk : flatK P 8 t = some ks) (h : DataW.Trod enc P W 0 (fun _ => true) true t (.agg cs) d ps) : All2 okW ks cs.toList ∧ RelW (ghOf W) (.agg (cs.toList.map C.val)) (.agg cs) := by
  obtain ⟨fuel, hf⟩ := h
  have := flat_trod 8 hk hf
  exact ⟨this, ⟨cs, rfl, rel_vals (okW_all this)⟩⟩
end Go.Proofs.Ytamcjecgkfmjkaa
