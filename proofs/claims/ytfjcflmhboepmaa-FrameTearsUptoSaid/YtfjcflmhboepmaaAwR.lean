/- The logic: lists of rows of bytes, lists of numbers. -/
import Derived.Test.YtfjcflmhboepmaaAwI
open Go Go.RowKit
namespace Go.Proofs.Ytfjcflmhboepmaa
set_option linter.unusedSimpArgs false

def ls {α : Type} (f : α → D) (xs : List α) : List D := xs.map f
def fB (bs : List UInt8) : D := .lst none 1 (byt bs)
def fI (n : Int) : D := .val (.int .i64 n)
abbrev W.rws (xs : List (List UInt8)) : W := .c (.lst .no none 1 (ls fB xs))
abbrev W.nums (xs : List Int) : W := .c (.lst .no none 1 (ls fI xs))
section
variable {α : Type} {f : α → D} {xs ys : List α}
@[go_sem] theorem ls_nil : ls f [] = [] := nr rfl
@[go_sem] theorem ls_len : (ls f xs).length = xs.length := by simp [ls]
@[go_sem] theorem ls_app : ls f xs ++ ls f ys = ls f (xs ++ ys) := by simp [ls]
@[go_sem] theorem ls_take {n : Nat} : (ls f xs).take n = ls f (xs.take n) := by simp [ls]
@[go_sem] theorem ls_drop {n : Nat} : (ls f xs).drop n = ls f (xs.drop n) := by simp [ls]
theorem ls_get {i : Nat} {d : α} (h : i < xs.length) {V' : C → Prop} : (∃ c, ((ls f (xs.drop i)).map D.toC)[0]? = some c ∧ V' c) = V' (f (xs.getD i d)).toC := by
  rw [List.drop_eq_getElem_cons h]
  simp [ls, h]
@[go_sem] theorem ls_app1B {l : List (List UInt8)} {b : List UInt8} : ls fB l ++ [D.lst none 1 (byt b)] = ls fB (l ++ [b]) := by simp [ls, fB]
@[go_sem] theorem ls_app1I {l : List Int} {n : Int} : ls fI l ++ [D.val (.int .i64 n)] = ls fI (l ++ [n]) := by simp [ls, fI]
@[go_sem ↓ 1200] theorem e_lsB {l : List (List UInt8)} {i : Nat} {V' : C → Prop} (h : i < l.length) : (∃ c, ((ls fB (l.drop i)).map D.toC)[0]? = some c ∧ V' c) = V' (.lst .no none 1 (byt (l.getD i []))) := ls_get h
@[go_sem ↓ 1200] theorem e_lsB2 {l : List (List UInt8)} {i : Nat} {V' : C → Prop} (h : i < l.length) : (∃ c, (((ls fB l).drop i).map D.toC)[0]? = some c ∧ V' c) = V' (.lst .no none 1 (byt (l.getD i []))) := by rw [ls_drop]; exact ls_get h
@[go_sem ↓ 1200] theorem e_lsI {l : List Int} {i : Nat} {V' : C → Prop} (h : i < l.length) : (∃ c, ((ls fI (l.drop i)).map D.toC)[0]? = some c ∧ V' c) = V' (.val (.int .i64 (l.getD i 0))) := ls_get h
@[go_sem ↓ 1200] theorem e_lsI2 {l : List Int} {i : Nat} {V' : C → Prop} (h : i < l.length) : (∃ c, (((ls fI l).drop i).map D.toC)[0]? = some c ∧ V' c) = V' (.val (.int .i64 (l.getD i 0))) := by rw [ls_drop]; exact ls_get h
variable {P : Program} {V' : V → Prop} {o : Own} {nl : Option Bool} {k : IntKind} {a b : Int} {t : TypeId}
@[go_sem ↓ 1200] theorem e_IA1l {i : Int} (h0 : 0 ≤ i) (h1 : i < xs.length) : aIA (some (none, t, 1)) (.cell (.lst o nl 1 (ls f xs))) i V' = V' (.cell (.mem ((ls f xs).drop i.toNat))) := by
  simp [aIA, h0, h1, ls_len]
@[go_sem ↓] theorem e_slHl (h0 : 0 ≤ b) (h1 : b ≤ xs.length) : aSlice P t (.cell (.lst o nl 1 (ls f xs))) none (some (V.int k b)) V' = (slB (idxT P t) ∧ V' (.cell (.lst .no nl 1 (ls f (xs.take b.toNat))))) := by
  rw [slB_eq]
  refine propext ⟨fun ⟨e, he, l, h, hl, hh, _, _, _, hk⟩ => ⟨⟨e, he⟩, ?_⟩, fun ⟨⟨e, he⟩, hk⟩ => ⟨e, he, 0, b, rfl, rfl, by omega, h0, by simp [ls]; omega, ?_⟩⟩
  · cases hl; cases hh; simpa [ls_take] using hk
  · simpa [ls_take] using hk
@[go_sem ↓] theorem e_slLl (h0 : 0 ≤ a) (h1 : a ≤ xs.length) : aSlice P t (.cell (.lst o nl 1 (ls f xs))) (some (V.int k a)) none V' = (slB (idxT P t) ∧ V' (.cell (.lst (cutO o) nl 1 (ls f (xs.drop a.toNat))))) := by
  rw [slB_eq]
  cases o <;> (refine propext ⟨fun ⟨e, he, l, h, hl, hh, _, _, _, hk⟩ => ⟨⟨e, he⟩, ?_⟩, fun ⟨⟨e, he⟩, hk⟩ => ⟨e, he, a, xs.length, rfl, by simp [bnd, ls], by omega, h1, by simp [ls], ?_⟩⟩) <;> first | (cases hl; cases hh; simpa [ls_len, ls_take, ls_drop, cutO] using hk) | (simpa [ls_len, ls_take, ls_drop, cutO] using hk)
@[go_sem ↓] theorem e_slNl : aSlice P t (.cell (.lst o nl 1 (ls f xs))) none none V' = (slB (idxT P t) ∧ V' (.cell (.lst (cutO o) nl 1 (ls f xs)))) := by
  rw [slB_eq]
  cases o <;> (refine propext ⟨fun ⟨e, he, l, h, hl, hh, _, _, _, hk⟩ => ⟨⟨e, he⟩, ?_⟩, fun ⟨⟨e, he⟩, hk⟩ => ⟨e, he, 0, xs.length, rfl, by simp [bnd, ls], by omega, by omega, by simp [ls], ?_⟩⟩) <;> first | (cases hl; cases hh; simpa [ls_len, ls_take, ls_drop, cutO] using hk) | (simpa [ls_len, ls_take, ls_drop, cutO] using hk)
@[go_sem ↓] theorem e_slLHl {k' : IntKind} (h0 : 0 ≤ a) (h1 : a ≤ b) (h2 : b ≤ xs.length) : aSlice P t (.cell (.lst o nl 1 (ls f xs))) (some (V.int k a)) (some (V.int k' b)) V' = (slB (idxT P t) ∧ V' (.cell (.lst .no nl 1 (ls f ((xs.take b.toNat).drop a.toNat))))) := by
  rw [slB_eq]
  refine propext ⟨fun ⟨e, he, l, h, hl, hh, _, _, _, hk⟩ => ⟨⟨e, he⟩, ?_⟩, fun ⟨⟨e, he⟩, hk⟩ => ⟨e, he, a, b, rfl, rfl, h0, h1, by simp [ls]; omega, ?_⟩⟩
  · cases hl; cases hh; simpa [ls] using hk
  · simpa [ls] using hk
end
/-! ### bits of an int -/
def andi (a b : Int) : Int := IntKind.i64.wrap (BitVec.ofInt IntKind.i64.bits a &&& BitVec.ofInt IntKind.i64.bits b).toNat
@[go_sem ↓ 1150] theorem e_andi {a b : Int} {V' : V → Prop} : aInt .and .i64 a .i64 b V' = V' (.int .i64 (andi a b)) := by rw [e_and]; rfl
theorem andi_mask {a b : Int} (h0 : 0 ≤ b) (h1 : b ≤ 9223372036854775807) : 0 ≤ andi a b ∧ andi a b ≤ b := by
  have e : (BitVec.ofInt IntKind.i64.bits b).toNat = b.toNat := by
    show (BitVec.ofInt 64 b).toNat = _
    rw [BitVec.toNat_ofInt]
    omega
  have h2 : (BitVec.ofInt IntKind.i64.bits a &&& BitVec.ofInt IntKind.i64.bits b).toNat ≤ b.toNat := by
    rw [BitVec.toNat_and, e]; exact Nat.and_le_right
  unfold andi
  rw [wrap_i64 (by omega) (by omega)]
  omega
theorem tmod_nat {a : Int} {n : Nat} (h0 : 0 ≤ a) (hn : 0 < n) : ∃ j : Nat, j < n ∧ a.tmod (n : Int) = j := by
  obtain ⟨m, rfl⟩ := Int.eq_ofNat_of_zero_le h0
  exact ⟨m % n, Nat.mod_lt _ hn, by simp [Int.tmod]⟩
end Go.Proofs.Ytfjcflmhboepmaa
