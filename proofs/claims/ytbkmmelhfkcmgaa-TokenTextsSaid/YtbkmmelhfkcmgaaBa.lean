/- The logic: arrays of bytes in boxes and as values. -/
import Derived.Test.YtbkmmelhfkcmgaaAwJ
open Go Go.RowKit
namespace Go.Proofs.Ytbkmmelhfkcmgaa
set_option linter.unusedSimpArgs false
set_option linter.unusedVariables false
section
variable {bs l : List UInt8} {k n o : Nat} {K : C → Prop}
@[go_sem] theorem ba_len {xs : List D} : (xs.map D.toC).length = xs.length := by simp
@[go_sem ↓ 1200] theorem ba_get (h : k < bs.length) : (∃ c, ((byt bs).map D.toC)[k]? = some c ∧ K c) = K (.val (.int .u8 (U8 (bs.getD k 0)))) := by
  have : ((byt bs).map D.toC)[k]? = some (.val (.int .u8 (U8 (bs.getD k 0)))) := by simp [byt, h, D.toC, U8]
  rw [this]; simp
@[go_sem] theorem ba_part : (((byt bs).map D.toC).drop o).take n = (byt ((bs.drop o).take n)).map D.toC := by
  rw [← List.map_drop, ← List.map_take, byt_drop, byt_take]
@[go_sem] theorem ba_set {v : UInt8} : ((byt bs).map D.toC).set k (.val (.int .u8 (U8 v))) = (byt (bs.set k v)).map D.toC := by
  simp [byt, U8, D.toC, List.map_set]
theorem ba_over (h : l.length = bs.length) : spl ((byt bs).map D.toC) 0 ((byt l).map D.toC) = (byt l).map D.toC := by
  rw [spl_eq (by simp [byt]; omega), List.take_zero, List.nil_append, List.drop_eq_nil_of_le (by simp [byt]; omega), List.append_nil]
@[go_sem ↓ 1200] theorem ba_over' (h : l.length = bs.length) : spl ((byt bs).map D.toC) 0 ((byt l).map D.toC) = (byt l).map D.toC := ba_over h
theorem ba_all {xs : List D} : allD (xs.map D.toC) = some xs := by
  induction xs with
  | nil => rfl
  | cons x xs ih => rw [List.map_cons, e_aD, ih]; cases x <;> rfl
attribute [go_sem] ba_all
end
@[congr] theorem cg_aEqA3 {q q' : Option (List (Option IntKind))} {cs ds cs' ds' : List C} {J : Bool → Prop} (h0 : q = q') (h1 : cs = cs') (h2 : ds = ds') : aEqA q cs ds J = aEqA q' cs' ds' J := by subst h0; subst h1; subst h2; rfl
theorem byt_inj' {a b : List UInt8} : a = b ↔ (a.map fun b => Value.int .u8 (b.toNat : Int)) = (b.map fun b => Value.int .u8 (b.toNat : Int)) := by
  constructor
  · rintro rfl; rfl
  · intro h
    refine byt_inj ?_
    have := congrArg (List.map D.val) h
    rw [List.map_map, List.map_map] at this
    exact this
theorem val_inj' : ∀ {us vs : List Value}, us.map C.val = vs.map C.val → us = vs
  | [], [], _ => rfl
  | [], _ :: _, h => by simp at h
  | _ :: _, [], h => by simp at h
  | u :: us, v :: vs, h => by
    simp only [List.map_cons, List.cons.injEq, C.val.injEq] at h
    rw [h.1, val_inj' h.2]
theorem e_eqBa {a b : List UInt8} {n : Nat} {J : Bool → Prop} (ha : a.length = n) (hb : b.length = n) : aEqA (some (List.replicate n (some .u8))) ((byt a).map D.toC) ((byt b).map D.toC) J = J (decide (a = b)) := by
  refine propext ⟨?_, a_eqByt ha hb⟩
  rintro ⟨ks, us, vs, hq, hu, hv, _, _, h⟩
  refine h _ ?_
  have e : ∀ l : List UInt8, (byt l).map D.toC = (l.map fun b => Value.int .u8 (b.toNat : Int)).map C.val := by intro l; simp [byt, D.toC]
  rw [e] at hu hv
  rw [decide_eq_true_iff, byt_inj', val_inj' hu, val_inj' hv]
/-! ### of 16 -/
@[go_sem] theorem b_z16 {i : Id} : ((i, [.val (.int .u8 0), .val (.int .u8 0), .val (.int .u8 0), .val (.int .u8 0), .val (.int .u8 0), .val (.int .u8 0), .val (.int .u8 0), .val (.int .u8 0), .val (.int .u8 0), .val (.int .u8 0), .val (.int .u8 0), .val (.int .u8 0), .val (.int .u8 0), .val (.int .u8 0), .val (.int .u8 0), .val (.int .u8 0)]) : Id × List C) = (i, (byt (zb 16)).map D.toC) := nr rfl
@[go_sem] theorem t_z16 : List.take 16 (List.drop 0 ([.val (.int .u8 0), .val (.int .u8 0), .val (.int .u8 0), .val (.int .u8 0), .val (.int .u8 0), .val (.int .u8 0), .val (.int .u8 0), .val (.int .u8 0), .val (.int .u8 0), .val (.int .u8 0), .val (.int .u8 0), .val (.int .u8 0), .val (.int .u8 0), .val (.int .u8 0), .val (.int .u8 0), .val (.int .u8 0)] : List C)) = (byt (zb 16)).map D.toC := nr rfl
@[go_sem 1200] theorem s_z16 {l : List UInt8} (h : l.length = 16) : spl ([.val (.int .u8 0), .val (.int .u8 0), .val (.int .u8 0), .val (.int .u8 0), .val (.int .u8 0), .val (.int .u8 0), .val (.int .u8 0), .val (.int .u8 0), .val (.int .u8 0), .val (.int .u8 0), .val (.int .u8 0), .val (.int .u8 0), .val (.int .u8 0), .val (.int .u8 0), .val (.int .u8 0), .val (.int .u8 0)] : List C) 0 ((byt l).map D.toC) = (byt l).map D.toC := ba_over (bs := zb 16) h
@[go_sem] theorem w_z16 : W.agg [.val (.int .u8 0), .val (.int .u8 0), .val (.int .u8 0), .val (.int .u8 0), .val (.int .u8 0), .val (.int .u8 0), .val (.int .u8 0), .val (.int .u8 0), .val (.int .u8 0), .val (.int .u8 0), .val (.int .u8 0), .val (.int .u8 0), .val (.int .u8 0), .val (.int .u8 0), .val (.int .u8 0), .val (.int .u8 0)] = W.agg ((byt (zb 16)).map D.toC) := nr rfl
@[go_sem] theorem e_eq16 {a b : List UInt8} {J : Bool → Prop} (ha : a.length = 16) (hb : b.length = 16) : aEqA (some [some .u8, some .u8, some .u8, some .u8, some .u8, some .u8, some .u8, some .u8, some .u8, some .u8, some .u8, some .u8, some .u8, some .u8, some .u8, some .u8]) ((byt a).map D.toC) ((byt b).map D.toC) J = J (decide (a = b)) := e_eqBa ha hb
@[go_sem] theorem e_eqz16 {a : List UInt8} {J : Bool → Prop} (ha : a.length = 16) : aEqA (some [some .u8, some .u8, some .u8, some .u8, some .u8, some .u8, some .u8, some .u8, some .u8, some .u8, some .u8, some .u8, some .u8, some .u8, some .u8, some .u8]) ((byt a).map D.toC) [.val (.int .u8 0), .val (.int .u8 0), .val (.int .u8 0), .val (.int .u8 0), .val (.int .u8 0), .val (.int .u8 0), .val (.int .u8 0), .val (.int .u8 0), .val (.int .u8 0), .val (.int .u8 0), .val (.int .u8 0), .val (.int .u8 0), .val (.int .u8 0), .val (.int .u8 0), .val (.int .u8 0), .val (.int .u8 0)] J = J (decide (a = zb 16)) := e_eqBa (b := zb 16) ha rfl
/-! ### of 32 -/
@[go_sem] theorem b_z32 {i : Id} : ((i, [.val (.int .u8 0), .val (.int .u8 0), .val (.int .u8 0), .val (.int .u8 0), .val (.int .u8 0), .val (.int .u8 0), .val (.int .u8 0), .val (.int .u8 0), .val (.int .u8 0), .val (.int .u8 0), .val (.int .u8 0), .val (.int .u8 0), .val (.int .u8 0), .val (.int .u8 0), .val (.int .u8 0), .val (.int .u8 0), .val (.int .u8 0), .val (.int .u8 0), .val (.int .u8 0), .val (.int .u8 0), .val (.int .u8 0), .val (.int .u8 0), .val (.int .u8 0), .val (.int .u8 0), .val (.int .u8 0), .val (.int .u8 0), .val (.int .u8 0), .val (.int .u8 0), .val (.int .u8 0), .val (.int .u8 0), .val (.int .u8 0), .val (.int .u8 0)]) : Id × List C) = (i, (byt (zb 32)).map D.toC) := nr rfl
@[go_sem] theorem t_z32 : List.take 32 (List.drop 0 ([.val (.int .u8 0), .val (.int .u8 0), .val (.int .u8 0), .val (.int .u8 0), .val (.int .u8 0), .val (.int .u8 0), .val (.int .u8 0), .val (.int .u8 0), .val (.int .u8 0), .val (.int .u8 0), .val (.int .u8 0), .val (.int .u8 0), .val (.int .u8 0), .val (.int .u8 0), .val (.int .u8 0), .val (.int .u8 0), .val (.int .u8 0), .val (.int .u8 0), .val (.int .u8 0), .val (.int .u8 0), .val (.int .u8 0), .val (.int .u8 0), .val (.int .u8 0), .val (.int .u8 0), .val (.int .u8 0), .val (.int .u8 0), .val (.int .u8 0), .val (.int .u8 0), .val (.int .u8 0), .val (.int .u8 0), .val (.int .u8 0), .val (.int .u8 0)] : List C)) = (byt (zb 32)).map D.toC := nr rfl
@[go_sem 1200] theorem s_z32 {l : List UInt8} (h : l.length = 32) : spl ([.val (.int .u8 0), .val (.int .u8 0), .val (.int .u8 0), .val (.int .u8 0), .val (.int .u8 0), .val (.int .u8 0), .val (.int .u8 0), .val (.int .u8 0), .val (.int .u8 0), .val (.int .u8 0), .val (.int .u8 0), .val (.int .u8 0), .val (.int .u8 0), .val (.int .u8 0), .val (.int .u8 0), .val (.int .u8 0), .val (.int .u8 0), .val (.int .u8 0), .val (.int .u8 0), .val (.int .u8 0), .val (.int .u8 0), .val (.int .u8 0), .val (.int .u8 0), .val (.int .u8 0), .val (.int .u8 0), .val (.int .u8 0), .val (.int .u8 0), .val (.int .u8 0), .val (.int .u8 0), .val (.int .u8 0), .val (.int .u8 0), .val (.int .u8 0)] : List C) 0 ((byt l).map D.toC) = (byt l).map D.toC := ba_over (bs := zb 32) h
@[go_sem] theorem w_z32 : W.agg [.val (.int .u8 0), .val (.int .u8 0), .val (.int .u8 0), .val (.int .u8 0), .val (.int .u8 0), .val (.int .u8 0), .val (.int .u8 0), .val (.int .u8 0), .val (.int .u8 0), .val (.int .u8 0), .val (.int .u8 0), .val (.int .u8 0), .val (.int .u8 0), .val (.int .u8 0), .val (.int .u8 0), .val (.int .u8 0), .val (.int .u8 0), .val (.int .u8 0), .val (.int .u8 0), .val (.int .u8 0), .val (.int .u8 0), .val (.int .u8 0), .val (.int .u8 0), .val (.int .u8 0), .val (.int .u8 0), .val (.int .u8 0), .val (.int .u8 0), .val (.int .u8 0), .val (.int .u8 0), .val (.int .u8 0), .val (.int .u8 0), .val (.int .u8 0)] = W.agg ((byt (zb 32)).map D.toC) := nr rfl
@[go_sem] theorem e_eq32 {a b : List UInt8} {J : Bool → Prop} (ha : a.length = 32) (hb : b.length = 32) : aEqA (some [some .u8, some .u8, some .u8, some .u8, some .u8, some .u8, some .u8, some .u8, some .u8, some .u8, some .u8, some .u8, some .u8, some .u8, some .u8, some .u8, some .u8, some .u8, some .u8, some .u8, some .u8, some .u8, some .u8, some .u8, some .u8, some .u8, some .u8, some .u8, some .u8, some .u8, some .u8, some .u8]) ((byt a).map D.toC) ((byt b).map D.toC) J = J (decide (a = b)) := e_eqBa ha hb
@[go_sem] theorem e_eqz32 {a : List UInt8} {J : Bool → Prop} (ha : a.length = 32) : aEqA (some [some .u8, some .u8, some .u8, some .u8, some .u8, some .u8, some .u8, some .u8, some .u8, some .u8, some .u8, some .u8, some .u8, some .u8, some .u8, some .u8, some .u8, some .u8, some .u8, some .u8, some .u8, some .u8, some .u8, some .u8, some .u8, some .u8, some .u8, some .u8, some .u8, some .u8, some .u8, some .u8]) ((byt a).map D.toC) [.val (.int .u8 0), .val (.int .u8 0), .val (.int .u8 0), .val (.int .u8 0), .val (.int .u8 0), .val (.int .u8 0), .val (.int .u8 0), .val (.int .u8 0), .val (.int .u8 0), .val (.int .u8 0), .val (.int .u8 0), .val (.int .u8 0), .val (.int .u8 0), .val (.int .u8 0), .val (.int .u8 0), .val (.int .u8 0), .val (.int .u8 0), .val (.int .u8 0), .val (.int .u8 0), .val (.int .u8 0), .val (.int .u8 0), .val (.int .u8 0), .val (.int .u8 0), .val (.int .u8 0), .val (.int .u8 0), .val (.int .u8 0), .val (.int .u8 0), .val (.int .u8 0), .val (.int .u8 0), .val (.int .u8 0), .val (.int .u8 0), .val (.int .u8 0)] J = J (decide (a = zb 32)) := e_eqBa (b := zb 32) ha rfl
end Go.Proofs.Ytbkmmelhfkcmgaa
