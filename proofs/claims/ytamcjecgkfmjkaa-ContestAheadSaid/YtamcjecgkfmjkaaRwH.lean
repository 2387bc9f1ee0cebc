/- From the logic to the rows of the laws. -/
import Derived.Test.YtamcjecgkfmjkaaRows
import Derived.Test.YtamcjecgkfmjkaaAwI
import Derived.Test.YtamcjecgkfmjkaaMem
import Derived.WalkKit
import Derived.ProofKit
import Derived.OpenShut
import Derived.ShutString
import Derived.ChangeOld
import Derived.Below
import Derived.SizedLaws
import Derived.ChangeSlices
open Go Go.RowKit Go.ChangeShapes Go.WideShapes
namespace Go.Proofs.Ytamcjecgkfmjkaa

theorem rowOwn : ownKnob Try.prog.godebug = none := by kernel_rfl
theorem rowLaid : laidOutB Try.prog = true := by kernel_rfl
/-- the byte of a number -/
def byteOf (z : Int) : UInt8 := UInt8.ofNat z.toNat
theorem byteOf_eq {z : Int} (h : (Lit.int .u8 z).wf = true) : ((byteOf z).toNat : Int) = z := by
  simp only [Lit.wf, Bool.and_eq_true, decide_eq_true_eq] at h
  have h1 : (0 : Int) ≤ z := h.1
  have h2 : z ≤ 255 := h.2
  unfold byteOf
  rw [UInt8.toNat_ofNat']
  omega
/-- all that a world holds, as the logic's memory -/
def ghOf (w : World) : Gh := ⟨fun a => w.cell? a, fun _ => 0, fun _ => none⟩
theorem ghOf_wi (w : World) : WI (ghOf w) [] w :=
  ⟨fun _ _ h => h, (fun _ _ h => by cases h), (fun _ _ _ _ h => by cases h), (fun _ _ _ _ h => by cases h), (fun _ _ h => by cases h), (fun _ _ _ _ h => by cases h), (fun _ _ _ _ h => by cases h)⟩
/-- a contract without boxes, as the rows want it -/
theorem Holds.calls {P : Program} {f : FuncId} {args : List W} {b : Bool} (H : Holds P f args [] (fun r h' => r = V.bool b ∧ h' = [])) (w : World) (hG : GlobOK (ghOf w).M) {xs : List Value} (hx : All2 (RelW (ghOf w)) args xs) :
    Calls P f xs.toArray w fun e w' => e = .returned (.bool b) ∧ Kept [] w w' := by
  refine (H.2 (ghOf w) w xs hG hx (ghOf_wi w)).mono ?_
  rintro e w' ⟨x, v, h', g', rfl, ⟨rfl, rfl⟩, hv, hw, hc⟩
  obtain ⟨_, rfl⟩ := hv
  refine ⟨rfl, hc.os, hc.tape, hc.output, hc.size, fun k hk _ => hc.unch k hk ?_⟩
  rintro (⟨i, cs, hi, _⟩ | ⟨t, r, ht, _⟩)
  · cases hi
  · cases ht
theorem places_lt {H : Type} {enc : TypeId × Value → H} {W : World} {t : TypeId} {v : Value} {d : DataW H} {ps : List MemPlace} (h : DataW.Trod enc Try.prog W 0 (fun _ => true) true t v d ps) : ∀ x ∈ ps, x.block < W.heap.size := by
  obtain ⟨m, hm⟩ := h
  exact DataW.trod_lt m _ _ _ hm
set_option maxRecDepth 100000 in
theorem open_i64n {H : Type} {enc : TypeId × Value → H} {W : World} {t : TypeId} {v : Value} {d : DataW H} {ps : List MemPlace} {r : Reach} {b0 : Nat} (ht : Try.prog.underlying t = some (.int .i64))
    (hv : Value.okWide Try.prog W r b0 t v) (h : DataW.Trod enc Try.prog W 0 (fun _ => true) true t v d ps) : ∃ z : Int, RelW (ghOf W) (.int .i64 z) v ∧ -9223372036854775808 ≤ z ∧ z ≤ 9223372036854775807 := by
  obtain ⟨n, rfl, _, _, hw⟩ := open_int ht hv h
  simp only [Lit.wf, Bool.and_eq_true, decide_eq_true_eq] at hw
  have e1 : IntKind.i64.min = -9223372036854775808 := by kernel_rfl
  have e2 : IntKind.i64.max = 9223372036854775807 := by kernel_rfl
  rw [e1, e2] at hw
  exact ⟨n, ⟨rfl, rfl⟩, hw.1, hw.2⟩
set_option maxRecDepth 100000 in
theorem open_intn {H : Type} {enc : TypeId × Value → H} {W : World} {t : TypeId} {k : IntKind} {v : Value} {d : DataW H} {ps : List MemPlace} {r : Reach} {b0 : Nat} (ht : Try.prog.underlying t = some (.int k))
    (hv : Value.okWide Try.prog W r b0 t v) (h : DataW.Trod enc Try.prog W 0 (fun _ => true) true t v d ps) : ∃ z : Int, RelW (ghOf W) (.int k z) v ∧ k.min ≤ z ∧ z ≤ k.max := by
  obtain ⟨n, rfl, _, _, hw⟩ := open_int ht hv h
  simp only [Lit.wf, Bool.and_eq_true, decide_eq_true_eq] at hw
  exact ⟨n, ⟨rfl, rfl⟩, hw.1, hw.2⟩
set_option maxRecDepth 100000 in
theorem open_u8n {H : Type} {enc : TypeId × Value → H} {W : World} {t : TypeId} {v : Value} {d : DataW H} {ps : List MemPlace} {r : Reach} {b0 : Nat} (ht : Try.prog.underlying t = some (.int .u8))
    (hv : Value.okWide Try.prog W r b0 t v) (h : DataW.Trod enc Try.prog W 0 (fun _ => true) true t v d ps) : ∃ z : UInt8, RelW (ghOf W) (.int .u8 (U8 z)) v := by
  obtain ⟨n, hr, h1, h2⟩ := open_intn ht hv h
  have e1 : IntKind.u8.min = 0 := by kernel_rfl
  have e2 : IntKind.u8.max = 255 := by kernel_rfl
  rw [e1] at h1
  rw [e2] at h2
  refine ⟨UInt8.ofNat n.toNat, ?_⟩
  have : U8 (UInt8.ofNat n.toNat) = n := by unfold U8; rw [UInt8.toNat_ofNat']; omega
  rw [this]; exact hr
/-- no tables -/
theorem globNone (hg : globD = fun _ => []) (w : World) : GlobOK (ghOf w).M := fun k i d hd => by rw [hg] at hd; cases hd
end Go.Proofs.Ytamcjecgkfmjkaa
