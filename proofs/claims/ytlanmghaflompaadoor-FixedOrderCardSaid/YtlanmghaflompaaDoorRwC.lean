/- From the logic to the rows of chapter 8: the tables that the rows list. -/
import Derived.Test.YtlanmghaflompaaDoorRwH
import Derived.Test.YtlanmghaflompaaDoorAwJ
import Derived.Test.YtlanmghaflompaaDoorCards
import Derived.Test.YtlanmghaflompaaDoorTie
import Derived.Deep.DeepHandedRow
import Derived.Lib.LaidTab
import Derived.JoinedCond
open Go Go.RowKit Go.ChangeShapes Go.WideShapes Go.ChangeAt
namespace Go.Proofs.YtlanmghaflompaaDoor
def tab64 : List Nat := [0, 1, 56, 2, 57, 49, 28, 3, 61, 58, 42, 50, 38, 29, 17, 4, 62, 47, 59, 36, 45, 43, 51, 22, 53, 39, 33, 30, 24, 18, 12, 5, 63, 55, 48, 27, 60, 41, 37, 16, 46, 35, 44, 21, 52, 32, 23, 11, 54, 26, 40, 15, 34, 20, 31, 10, 25, 14, 19, 9, 13, 8, 7, 6]
theorem gTab : Tryd.prog.globalNamed "math/bits.deBruijn64tab" = some 5 := by kernel_rfl
theorem gTabType : (Tryd.prog.globals[5]?).map (·.type) = some 103 := by kernel_rfl
theorem cells64 : Tryd.prog.cellsOf 103 = 64 := by kernel_rfl
theorem cells8 : Tryd.prog.cellsOf 5 = 1 := by kernel_rfl
theorem globD5 : globD 5 = tab64.map fun n : Nat => .val (.int .u8 n) := rfl
theorem globD_none {k : Nat} (h : k ≠ 5) : globD k = [] := by
  unfold globD
  split
  · exact absurd rfl h
  · rfl
theorem tabIs {W : World} {x : String × DataW Unit} {rest : List (String × DataW Unit)} (h : laidMet Tryd.prog (x :: ("math/bits.deBruijn64tab", Rows.laid_math_bits_deBruijn64tab) :: rest) W) : Lib.TabIs Tryd.prog W "math/bits.deBruijn64tab" .u8 (tab64.map fun n : Nat => (n : Int)) := by
  obtain ⟨ps, hl, _⟩ := h
  obtain ⟨_, _, _, _, _, _, _, _, _, _, hl2, _⟩ := hl
  obtain ⟨g', t', cs, fuel, p, q, hg', ht', hvar, hd, _⟩ := hl2
  obtain rfl := Option.some.inj (gTab.symm.trans hg')
  obtain rfl := Option.some.inj (gTabType.symm.trans ht')
  unfold Lib.TabIs
  have hd' : DataW.trod (fun _ => ()) Tryd.prog W 0 (fun _ => true) false fuel 103 cs.toList = some (Lib.tabData .u8 (tab64.map fun n : Nat => (n : Int)), p) := hd
  rw [hvar, ← Lib.cells_of_tab Tryd.underlying103 Tryd.underlying5 cells8 cells64 hd']
theorem globOK {W : World} {x : String × DataW Unit} {rest : List (String × DataW Unit)} (h : laidMet Tryd.prog (x :: ("math/bits.deBruijn64tab", Rows.laid_math_bits_deBruijn64tab) :: rest) W) : GlobOK (ghOf W).M := by
  intro k i d hd
  by_cases hk : k = 5
  · subst hk
    rw [globD5] at hd
    simp only [List.getElem?_map, Option.map_eq_some_iff] at hd
    obtain ⟨n, hn, rfl⟩ := hd
    have hi : i < tab64.length := (List.getElem?_eq_some_iff.1 hn).1
    have hc := (tabIs h).cell gTab i (by simpa using hi)
    refine ⟨_, ?_, .val rfl⟩
    show W.cell? _ = _
    rw [add_mk, Nat.zero_add, hc]
    simp [List.getD, hn]
  · rw [globD_none hk] at hd
    cases hd
def lay (k : IntKind) (l : List Nat) : Obj → Obj
  | .cells _ t fr => .cells (l.map fun n : Nat => Value.int k n).toArray t fr
  | o => o
/-- a world that holds the tables, for the witness -/
noncomputable def laidWorld (os : Os) : World :=
  let w := World.holding Tryd.prog os ⟨#[], #[], []⟩
  { w with heap := ((w.heap.modify 5 (lay .u8 tab64)).modify 4 (lay .u8 [0, 1, 28, 2, 29, 14, 24, 3, 30, 22, 20, 15, 25, 17, 4, 8, 31, 27, 13, 23, 21, 19, 16, 7, 26, 12, 18, 6, 11, 5, 10, 9])).modify 0 (lay .u64 [1, 10, 100, 1000, 10000, 100000, 1000000, 10000000, 100000000, 1000000000, 10000000000, 100000000000, 1000000000000, 10000000000000, 100000000000000, 1000000000000000, 10000000000000000, 100000000000000000, 1000000000000000000, 10000000000000000000]) }
set_option maxRecDepth 100000 in
theorem open_b32 {H : Type} {enc : TypeId × Value → H} {W : World} {t : TypeId} {v : Value} {d : DataW H} {ps : List MemPlace} {r : Reach} {b0 : Nat} (ht : Tryd.prog.underlying t = some (.int .i32))
    (hv : Value.okWide Tryd.prog W r b0 t v) (h : DataW.Trod enc Tryd.prog W 0 (fun _ => true) true t v d ps) : ∃ z : Int, RelW (ghOf W) (.int .i32 z) v ∧ B32 z := by
  obtain ⟨n, hr, h1, h2⟩ := open_intn ht hv h
  have e1 : IntKind.i32.min = -2147483648 := by kernel_rfl
  have e2 : IntKind.i32.max = 2147483647 := by kernel_rfl
  rw [e1] at h1
  rw [e2] at h2
  exact ⟨n, hr, h1, h2⟩
set_option maxRecDepth 100000 in
theorem open_b64 {H : Type} {enc : TypeId × Value → H} {W : World} {t : TypeId} {v : Value} {d : DataW H} {ps : List MemPlace} {r : Reach} {b0 : Nat} (ht : Tryd.prog.underlying t = some (.int .i64))
    (hv : Value.okWide Tryd.prog W r b0 t v) (h : DataW.Trod enc Tryd.prog W 0 (fun _ => true) true t v d ps) : ∃ z : Int, RelW (ghOf W) (.int .i64 z) v ∧ -9223372036854775808 ≤ z ∧ z ≤ 9223372036854775807 := open_i64n ht hv h
end Go.Proofs.YtlanmghaflompaaDoor
