/- Row words: what an argument of a law holds, told as bytes and numbers. -/
import Derived.Test.YtfjcflmhboepmaaRows
import Derived.Test.YtfjcflmhboepmaaLaw2
import Derived.WalkKit
import Derived.ProofKit
import Derived.OpenShut
import Derived.ShutString
import Derived.ChangeOld
import Derived.Below
import Derived.SizedLaws
import Derived.ChangeSlices
open Go Go.RowKit Go.ChangeShapes Go.WideShapes
namespace Go.Proofs.Ytfjcflmhboepmaa

theorem rowOwn : ownKnob Try.prog.godebug = none := by kernel_rfl
theorem rowLaid : laidOutB Try.prog = true := by kernel_rfl

/-- the byte of a number -/
def byteOf (z : Int) : UInt8 := UInt8.ofNat z.toNat
theorem U8_byteOf {z : Int} (h : (Lit.int .u8 z).wf = true) : U8 (byteOf z) = z := by
  simp only [Lit.wf, Bool.and_eq_true, decide_eq_true_eq] at h
  have h1 : (0 : Int) ≤ z := h.1
  have h2 : z ≤ 255 := h.2
  unfold U8 byteOf
  rw [UInt8.toNat_ofNat']
  omega

set_option maxRecDepth 100000 in
theorem open_bytes {H : Type} {enc : TypeId × Value → H} {W : World} {v : Value} {d : DataW H} {ps : List MemPlace} {r : Reach} {b0 : Nat}
    (hv : Value.okWide Try.prog W r b0 22 v) (h : DataW.Trod enc Try.prog W 0 (fun _ => true) true 22 v d ps) :
    ∃ a len cap, ∃ p : List UInt8, v = .slice a len cap ∧ p.length = len ∧ Rd W a (p.map BV) ∧ len ≤ cap ∧
      (∀ {ts : List TypeId} {ds : List (DataW H)} {j : Nat}, (DataW.weightsEach Try.prog ts ds).all (· ≤ reachBytes) = true → ts[j]? = some 22 → ds[j]? = some d → len ≤ 140737488351232) := by
  obtain ⟨a, len, cap, rfl⟩ := okWide_slice Try.underlying22 hv
  obtain ⟨fuel, hf⟩ := h
  rcases open_ints Try.underlying22 Try.underlying5 (by kernel_rfl) hf with ⟨hcs, _⟩ | ⟨x, l, c, zs, hcs, _, hl, hm, hz, hd, hcell, hwz⟩
  · simp [Value.cells] at hcs
    obtain ⟨rfl, rfl, rfl⟩ := hcs
    exact ⟨none, 0, 0, [], rfl, rfl, Rd.nil _ _, Nat.le_refl _, fun _ _ _ => Nat.zero_le _⟩
  · simp [Value.cells] at hcs
    obtain ⟨rfl, rfl, rfl⟩ := hcs
    simp only [if_true] at hz
    refine ⟨some x, len, cap, (zs.take len).map byteOf, rfl, by simp; omega, ?_, hl, ?_⟩
    · intro _
      refine ⟨x, rfl, fun i v hv => ?_⟩
      simp only [List.map_map, List.getElem?_map, Option.map_eq_some_iff] at hv
      obtain ⟨z, hzz, rfl⟩ := hv
      rw [List.getElem?_take] at hzz
      split at hzz
      · have hi : i < zs.length := by omega
        rw [hcell i hi]
        rw [List.getElem?_eq_getElem hi, Option.some.injEq] at hzz
        subst hzz
        simp only [Function.comp, BV, List.getD, List.getElem?_eq_getElem hi, Option.getD_some]
        rw [U8_byteOf (hwz _ (List.getElem_mem hi))]
      · cases hzz
    · intro ts ds j hsz ht hj
      obtain ⟨hx, _⟩ := Prod.mk.inj hd
      subst hx
      have z := sized_slice hsz ht hj Try.underlying22
      rw [show Try.prog.bytesOf 5 = 1 by kernel_rfl] at z
      have e1 : reachBytes = 140737488351232 := by kernel_rfl
      rw [e1] at z
      simp only [lits, List.length_map, List.length_take, List.length_drop, Nat.mul_one] at z
      omega

/-- the places that an argument reads lie in the heap -/
theorem places_lt {H : Type} {enc : TypeId × Value → H} {W : World} {t : TypeId} {v : Value} {d : DataW H} {ps : List MemPlace} (h : DataW.Trod enc Try.prog W 0 (fun _ => true) true t v d ps) : ∀ x ∈ ps, x.block < W.heap.size := by
  obtain ⟨m, hm⟩ := h
  exact DataW.trod_lt m _ _ _ hm

set_option maxRecDepth 100000 in
theorem open_i64 {H : Type} {enc : TypeId × Value → H} {W : World} {t : TypeId} {v : Value} {d : DataW H} {ps : List MemPlace} {r : Reach} {b0 : Nat} (ht : Try.prog.underlying t = some (.int .i64))
    (hv : Value.okWide Try.prog W r b0 t v) (h : DataW.Trod enc Try.prog W 0 (fun _ => true) true t v d ps) : ∃ z : Int, v = .int .i64 z ∧ -9223372036854775808 ≤ z ∧ z ≤ 9223372036854775807 := by
  obtain ⟨n, rfl, _, _, hw⟩ := open_int ht hv h
  simp only [Lit.wf, Bool.and_eq_true, decide_eq_true_eq] at hw
  have e1 : IntKind.i64.min = -9223372036854775808 := by kernel_rfl
  have e2 : IntKind.i64.max = 9223372036854775807 := by kernel_rfl
  rw [e1, e2] at hw
  exact ⟨n, rfl, hw.1, hw.2⟩
/-- the number of a cell -/
def numOf : Value → Int
  | .int _ z => z
  | _ => 0
set_option maxRecDepth 100000 in
theorem open_hash {H : Type} {enc : TypeId × Value → H} {W : World} {v : Value} {d : DataW H} {ps : List MemPlace} {r : Reach} {b0 : Nat}
    (hv : Value.okWide Try.prog W r b0 25 v) (h : DataW.Trod enc Try.prog W 0 (fun _ => true) true 25 v d ps) :
    ∃ hs : List UInt8, v = .agg (bcells hs) ∧ hs.length = 32 := by
  have e32 : Try.prog.cellsOf 25 = 32 := by kernel_rfl
  have e1 : Try.prog.cellsOf 5 = 1 := by kernel_rfl
  simp only [Value.okWide, Try.underlying25] at hv
  obtain ⟨cs, rfl, hcs, _⟩ := hv
  rw [e32] at hcs
  obtain ⟨fuel, hf⟩ := h
  obtain ⟨xs, m, rfl, _, hlen, hxl, hall⟩ := DataW.trod_array Try.underlying25 hf
  rw [e1] at hall
  refine ⟨cs.toList.map fun c => byteOf (numOf c), ?_, by simp [hcs]⟩
  congr 1
  unfold bcells
  apply Array.ext'
  simp only [List.map_map]
  refine (List.ext_getElem (by simp) fun i h1 h2 => ?_)
  have hi : i < 32 := by rw [← hcs]; simpa using h1
  have hx := hall i hi
  rw [List.getElem?_eq_getElem (by omega)] at hx
  obtain ⟨n, hc, _, hw⟩ := DataW.trod_int Try.underlying5 hx
  have hci : cs.toList[i] = .int .u8 n := by
    have : ((Value.agg cs).cells.toList.drop (i * 1)).take 1 = [cs.toList[i]] := by
      rw [Nat.mul_one]
      show (cs.toList.drop i).take 1 = _
      rw [List.drop_eq_getElem_cons (by simpa using h1)]
      rfl
    rw [this] at hc
    simpa using hc
  simp only [List.getElem_map, Function.comp, BV]
  rw [hci]
  simp only [numOf, U8_byteOf hw]
end Go.Proofs.Ytfjcflmhboepmaa
