/- == of arrays of whole numbers. -/
import Derived.Test.YtfjcflmhboepmaaProg
import Derived.Test.YtfjcflmhboepmaaApp
import Derived.Test.YtfjcflmhboepmaaSha
import Derived.ChangeKeysEq
import Derived.Laws.StructEq
open Go Go.RowKit
namespace Go.Proofs.Ytfjcflmhboepmaa

def intCells (k : IntKind) (va : List Int) : Array Value := (va.map (Value.int k)).toArray
section
variable {P : Program}
theorem run_eqItems_ints (w : World) (d : Nat) {e : TypeId} {k k' : IntKind} (he : P.underlying e = some (.int k')) (va vb : List Int) : ∀ (is : List Nat), (∀ j, j ∈ is → j < va.length ∧ j < vb.length) →
    (Op.eqItems (d + 1) e 1 (intCells k va) (intCells k vb) is).run P w = .ok (decide (∀ j, j ∈ is → va[j]? = vb[j]?)) w
  | [], _ => by simp [Op.eqItems]
  | j :: is, h => by
    have hagg : (isAgg e).run P w = .ok false w := by
      unfold isAgg
      rw [Sem.run_bind, run_underlying he w]
      simp
    have hj := h j (by simp)
    have h1 : (part e (intCells k va) (j * 1)).run P w = .ok (.int k va[j]) w := by
      simp [part, hagg, intCells, hj.1]
    have h2 : (part e (intCells k vb) (j * 1)).run P w = .ok (.int k vb[j]) w := by
      simp [part, hagg, intCells, hj.2]
    have ih := run_eqItems_ints (k := k) w d he va vb is (fun i hi => h i (by simp [hi]))
    simp only [Op.eqItems, Sem.run_bind, h1, h2, Result.andThen_ok, run_equalIn_int w d e k k' _ _ he]
    by_cases hab : va[j] = vb[j]
    · have : (va[j] == vb[j]) = true := by simp [hab]
      rw [this]
      simp only [Bool.not_true, Bool.false_eq_true, if_false, ih]
      congr 1
      rw [decide_eq_decide]
      constructor
      · intro h3 i hi
        rcases List.mem_cons.1 hi with rfl | hi
        · rw [List.getElem?_eq_getElem hj.1, List.getElem?_eq_getElem hj.2, hab]
        · exact h3 i hi
      · intro h3 i hi
        exact h3 i (by simp [hi])
    · have : (va[j] == vb[j]) = false := by simp [hab]
      rw [this]
      simp only [Bool.not_false, if_true, Sem.run_pure]
      congr 1
      symm
      rw [decide_eq_false_iff_not]
      intro h3
      have := h3 j (by simp)
      rw [List.getElem?_eq_getElem hj.1, List.getElem?_eq_getElem hj.2] at this
      exact hab (by injection this)
theorem run_eqArr (w : World) (d : Nat) {t e : TypeId} {n : Nat} {i : TypeInfo} {k k' : IntKind} (hu : P.underlying t = some (.array n e)) (he : P.underlying e = some (.int k')) (hi : P.info? e = some i) (hc : P.cellsOf e = 1)
    (va vb : List Int) (ha : va.length = n) (hb : vb.length = n) : (Op.equalIn (d + 2) t (.agg (intCells k va)) (.agg (intCells k vb))).run P w = .ok (decide (va = vb)) w := by
  rw [run_equalIn_array w (d + 1) _ _ hu hi, hc, run_eqItems_ints w d he va vb (List.range n) (fun j hj => by have := List.mem_range.1 hj; omega)]
  congr 1
  rw [decide_eq_decide]
  constructor
  · intro h
    apply List.ext_getElem?
    intro j
    rcases Nat.lt_or_ge j n with hj | hj
    · exact h j (List.mem_range.2 hj)
    · rw [List.getElem?_eq_none (by omega), List.getElem?_eq_none (by omega)]
  · rintro rfl j _
    rfl
end
theorem bcells_int (xs : List UInt8) : bcells xs = intCells .u8 (xs.map U8) := by
  unfold bcells intCells BV; rw [List.map_map]; rfl
theorem map_U8_inj {xs ys : List UInt8} : xs.map U8 = ys.map U8 ↔ xs = ys := by
  constructor
  · intro h
    exact (List.map_inj_right (fun _ _ => U8_inj.1)).1 h
  · rintro rfl; rfl
theorem eqHash (w : World) (xs ys : List UInt8) (hx : xs.length = 32) (hy : ys.length = 32) :
    (binOp .eql 25 (.agg (bcells xs)) (.agg (bcells ys))).run Try.prog w = .ok (.bool (decide (xs = ys))) w := by
  obtain ⟨i, hi, _⟩ := byteT.info
  rw [run_eql_struct, bcells_int, bcells_int, run_eqArr w 9998 (n := 32) Try.underlying25 Try.underlying5 hi (by kernel_rfl) _ _ (by simp [hx]) (by simp [hy])]
  simp [map_U8_inj]
end Go.Proofs.Ytfjcflmhboepmaa
