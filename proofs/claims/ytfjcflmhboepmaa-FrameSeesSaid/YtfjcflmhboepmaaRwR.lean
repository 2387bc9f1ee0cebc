/- From the logic to the rows of the laws: lists of rows of bytes, numbers. -/
import Derived.Test.YtfjcflmhboepmaaRwH
import Derived.Test.YtfjcflmhboepmaaAwR
import Derived.Deep.Matrix
open Go Go.RowKit Go.ChangeShapes Go.WideShapes
namespace Go.Proofs.Ytfjcflmhboepmaa

theorem rel_row {M : Addr → Option Value} {A : Option Addr} {L C : Nat} {zs : List Int} (h1 : L ≤ C) (h2 : C ≤ maxLen) (h3 : zs.length = C) (h4 : ∀ n ∈ zs, (Lit.int .u8 n).wf = true) (h5 : A = none → C = 0)
    (h6 : ∀ a', A = some a' → ∀ c, c < C → M (a'.add c) = some (.int .u8 (zs.getD c 0))) : RelD M (fB ((zs.take L).map byteOf)) (.slice A L C) := by
  have hlen : ((zs.take L).map byteOf).length = L := by simp; omega
  cases A with
  | none =>
    have hC := h5 rfl
    subst hC
    have hL : L = 0 := by omega
    subst hL
    exact RelD.nil (by simp) (by decide)
  | some a =>
    refine RelD.mk (by simp) (by decide) (by rw [byt_len]; omega) h1 h2 ?_
    intro i dd hi
    simp only [byt, List.map_map, List.getElem?_map, Option.map_eq_some_iff] at hi
    obtain ⟨z, hzz, rfl⟩ := hi
    rw [List.getElem?_take] at hzz
    split at hzz
    · have hi : i < zs.length := by omega
      rw [List.getElem?_eq_getElem hi, Option.some.injEq] at hzz
      subst hzz
      refine ⟨.int .u8 zs[i], ?_, ?_⟩
      · rw [h6 a rfl i (by omega)]
        simp [List.getD, hi]
      · simp only [Function.comp]
        rw [byteOf_eq (h4 _ (List.getElem_mem hi))]
        exact .val rfl
    · cases hzz
set_option maxRecDepth 100000 in
theorem open_rws {H : Type} {enc : TypeId × Value → H} {W : World} {v : Value} {d : DataW H} {ps : List MemPlace} {r : Reach} {b0 : Nat}
    (hv : Value.okWide Try.prog W r b0 45 v) (h : DataW.Trod enc Try.prog W 0 (fun _ => true) true 45 v d ps) :
    ∃ p : List (List UInt8), RelW (ghOf W) (.rws p) v ∧ p.length ≤ maxLen ∧ ∀ q ∈ p, q.length ≤ maxLen := by
  obtain ⟨a, len, cap, rfl⟩ := okWide_slice Try.underlying45 hv
  obtain ⟨fuel, hf⟩ := h
  rcases Go.Deep.open_int_rows Try.underlying45 Try.underlying22 Try.underlying5 (by kernel_rfl) (by kernel_rfl) hf with ⟨hcs, _⟩ | ⟨x, l, c, A, L, C, Z, hcs, _, hl, hm, _, hr⟩
  · simp [Value.cells] at hcs
    obtain ⟨rfl, rfl, rfl⟩ := hcs
    exact ⟨[], ⟨RelD.nil (by simp) (by decide), trivial⟩, Nat.zero_le _, by simp⟩
  · simp [Value.cells] at hcs
    obtain ⟨rfl, rfl, rfl⟩ := hcs
    refine ⟨(List.range len).map fun i => ((Z i).take (L i)).map byteOf, ⟨RelD.mk (by simp) (by decide) (by simp [ls]) hl hm ?_, trivial⟩, by simp; omega, ?_⟩
    · intro i dd hi
      simp only [ls, List.map_map, List.getElem?_map, Option.map_eq_some_iff] at hi
      obtain ⟨j, hj, rfl⟩ := hi
      have hij : i < len ∧ j = i := by
        rw [List.getElem?_eq_some_iff] at hj
        obtain ⟨h1, h2⟩ := hj
        simp at h1 h2
        exact ⟨h1, h2.symm⟩
      obtain ⟨hi, rfl⟩ := hij
      obtain ⟨e1, r1, r2, r3, r4, r5, r6⟩ := hr j (by omega)
      exact ⟨_, e1, rel_row r1 r2 r3 r4 r5 (fun a' ha c hc => (r6 a' ha).2 c hc)⟩
    · intro q hq
      simp only [List.mem_map, List.mem_range] at hq
      obtain ⟨i, hi, rfl⟩ := hq
      obtain ⟨e1, r1, r2, r3, r4, r5, r6⟩ := hr i (by omega)
      simp; omega
set_option maxRecDepth 100000 in
theorem open_i64n {H : Type} {enc : TypeId × Value → H} {W : World} {t : TypeId} {v : Value} {d : DataW H} {ps : List MemPlace} {r : Reach} {b0 : Nat} (ht : Try.prog.underlying t = some (.int .i64))
    (hv : Value.okWide Try.prog W r b0 t v) (h : DataW.Trod enc Try.prog W 0 (fun _ => true) true t v d ps) : ∃ z : Int, RelW (ghOf W) (.int .i64 z) v ∧ -9223372036854775808 ≤ z ∧ z ≤ 9223372036854775807 := by
  obtain ⟨n, rfl, _, _, hw⟩ := open_int ht hv h
  simp only [Lit.wf, Bool.and_eq_true, decide_eq_true_eq] at hw
  have e1 : IntKind.i64.min = -9223372036854775808 := by kernel_rfl
  have e2 : IntKind.i64.max = 9223372036854775807 := by kernel_rfl
  rw [e1, e2] at hw
  exact ⟨n, ⟨rfl, rfl⟩, hw.1, hw.2⟩
set_option maxRecDepth 100000 in
theorem open_intn {H : Type} {enc : TypeId × Value → H} {W : World} {t : TypeId} {k : IntKind} {v : Value} {d : DataW H} {ps : List MemPlace} {r : Reach} {b0 : Nat} (ht : Try.prog.underlying t = some (.int k))
    (hv : Value.okWide Try.prog W r b0 t v) (h : DataW.Trod enc Try.prog W 0 (fun _ => true) true t v d ps) : ∃ z : Int, RelW (ghOf W) (.int k z) v ∧ k.min ≤ z ∧ z ≤ k.max := by
  obtain ⟨n, rfl, _, _, hw⟩ := open_int ht hv h
  simp only [Lit.wf, Bool.and_eq_true, decide_eq_true_eq] at hw
  exact ⟨n, ⟨rfl, rfl⟩, hw.1, hw.2⟩
set_option maxRecDepth 100000 in
theorem open_u8n {H : Type} {enc : TypeId × Value → H} {W : World} {t : TypeId} {v : Value} {d : DataW H} {ps : List MemPlace} {r : Reach} {b0 : Nat} (ht : Try.prog.underlying t = some (.int .u8))
    (hv : Value.okWide Try.prog W r b0 t v) (h : DataW.Trod enc Try.prog W 0 (fun _ => true) true t v d ps) : ∃ z : UInt8, RelW (ghOf W) (.int .u8 (U8 z)) v := by
  obtain ⟨n, hr, h1, h2⟩ := open_intn ht hv h
  have e1 : IntKind.u8.min = 0 := by kernel_rfl
  have e2 : IntKind.u8.max = 255 := by kernel_rfl
  rw [e1] at h1
  rw [e2] at h2
  refine ⟨UInt8.ofNat n.toNat, ?_⟩
  have : U8 (UInt8.ofNat n.toNat) = n := by unfold U8; rw [UInt8.toNat_ofNat']; omega
  rw [this]; exact hr
end Go.Proofs.Ytfjcflmhboepmaa
