/- From the logic to the rows of the laws: an event. -/
import Derived.Test.YtamcjecgkfmjkaaRwH
import Derived.Test.YtamcjecgkfmjkaaRwF
import Derived.Test.YtamcjecgkfmjkaaF18a
open Go Go.RowKit Go.ChangeShapes Go.WideShapes
namespace Go.Proofs.Ytamcjecgkfmjkaa
set_option linter.unusedVariables false
theorem u16_wf {z : Int} (h : (Lit.int .u16 z).wf = true) : U16 (UInt16.ofNat z.toNat) = z := by
  simp only [Lit.wf, Bool.and_eq_true, decide_eq_true_eq] at h
  have e1 : IntKind.u16.min = 0 := by kernel_rfl
  have e2 : IntKind.u16.max = 65535 := by kernel_rfl
  rw [e1, e2] at h
  unfold U16; rw [UInt16.toNat_ofNat']; omega
set_option maxRecDepth 100000 in
theorem open_u16 {H : Type} {enc : TypeId × Value → H} {W : World} {v : Value} {d : DataW H} {ps : List MemPlace} {r : Reach} {b0 : Nat}
    (hv : Value.okWide Try.prog W r b0 35 v) (h : DataW.Trod enc Try.prog W 0 (fun _ => true) true 35 v d ps) :
    ∃ u : UInt16, RelW (ghOf W) (.c (.val (.int .u16 (U16 u)))) v := by
  obtain ⟨z, hr, h1, h2⟩ := open_intn Try.underlying35 hv h
  have e1 : IntKind.u16.min = 0 := by kernel_rfl
  have e2 : IntKind.u16.max = 65535 := by kernel_rfl
  rw [e1] at h1
  rw [e2] at h2
  refine ⟨UInt16.ofNat z.toNat, ?_⟩
  have e : U16 (UInt16.ofNat z.toNat) = z := by unfold U16; rw [UInt16.toNat_ofNat']; omega
  rw [e]
  exact hr
theorem ev_inv {cs : List Value} (h : All2 okW [some .i64, some .i64, some .i64, some .i64, some .u16, some .i64] cs) : ∃ e : Ev, cs.map C.val = evC e := by
  obtain ⟨_, l1, rfl, ⟨a, rfl, _⟩, h1⟩ := h.cons_inv
  obtain ⟨_, l2, rfl, ⟨b, rfl, _⟩, h2⟩ := h1.cons_inv
  obtain ⟨_, l3, rfl, ⟨c, rfl, _⟩, h3⟩ := h2.cons_inv
  obtain ⟨_, l4, rfl, ⟨d, rfl, _⟩, h4⟩ := h3.cons_inv
  obtain ⟨_, l5, rfl, ⟨x, rfl, hx⟩, h5⟩ := h4.cons_inv
  obtain ⟨_, l6, rfl, ⟨f, rfl, _⟩, h6⟩ := h5.cons_inv
  obtain rfl := h6.nil_inv
  refine ⟨⟨a, b, c, d, UInt16.ofNat x.toNat, f⟩, ?_⟩
  simp only [List.map_cons, List.map_nil, evC, u16_wf hx]
theorem flatEv : flatK Try.prog 8 37 = some [some .i64, some .i64, some .i64, some .i64, some .u16, some .i64] := by kernel_rfl
set_option maxRecDepth 100000 in
theorem open_ev {H : Type} {enc : TypeId × Value → H} {W : World} {v : Value} {d : DataW H} {ps : List MemPlace} {r : Reach} {b0 : Nat}
    (hv : Value.okWide Try.prog W r b0 37 v) (h : DataW.Trod enc Try.prog W 0 (fun _ => true) true 37 v d ps) :
    ∃ e : Ev, RelW (ghOf W) (.agg (evC e)) v := by
  obtain ⟨cs, rfl, _⟩ := okWide_struct Try.underlying37 hv
  obtain ⟨h1, h2⟩ := open_flat flatEv h
  obtain ⟨e, he⟩ := ev_inv h1
  refine ⟨e, ?_⟩
  rw [he] at h2
  exact h2
end Go.Proofs.Ytamcjecgkfmjkaa
