/- The logic: rows of instructions (two numbers each). -/
import Derived.Test.YtamcjecgkfmjkaaOc
import Derived.Test.YtamcjecgkfmjkaaTy
open Go Go.RowKit
namespace Go.Proofs.Ytamcjecgkfmjkaa
set_option linter.unusedSimpArgs false
set_option linter.unusedVariables false
def xd (x : Int × Int) : List D := [.val (.int .i64 x.1), .val (.int .i64 x.2)]
def ins (l : List (Int × Int)) : List D := (l.map xd).flatten
def gi (l : List (Int × Int)) (i : Nat) : Int × Int := l.getD i (0, 0)
@[go_sem] theorem xd_len {x : Int × Int} : (xd x).length = 2 := nr rfl
@[go_sem] theorem ins_nil : ins [] = [] := nr rfl
theorem ins_cons {x : Int × Int} {l : List (Int × Int)} : ins (x :: l) = xd x ++ ins l := by simp [ins]
@[go_sem] theorem ins_len {l : List (Int × Int)} : (ins l).length = l.length * 2 := by
  induction l with
  | nil => rfl
  | cons s l ih => rw [ins_cons, List.length_append, xd_len, ih, List.length_cons]; omega
theorem ins_drop (l : List (Int × Int)) (k : Nat) : (ins l).drop (k * 2) = ins (l.drop k) := by
  induction l generalizing k with
  | nil => simp [ins]
  | cons s l ih =>
    cases k with
    | zero => simp [ins]
    | succ k => rw [ins_cons, List.drop_succ_cons, List.drop_append, xd_len, List.drop_eq_nil_of_le (by rw [xd_len]; omega), show (k + 1) * 2 - 2 = k * 2 by omega, ih]; rfl
theorem ins_at {l : List (Int × Int)} {k : Nat} (h : k < l.length) : (ins l).drop (k * 2) = xd (gi l k) ++ ins (l.drop (k + 1)) := by
  rw [ins_drop, List.drop_eq_getElem_cons h, ins_cons]
  simp [gi, List.getD, h]
section
variable {P : Program} {V' : V → Prop} {K : C → Prop} {l : List (Int × Int)} {r : List D} {x y : Value} {o : Own} {nl : Option Bool} {k : IntKind} {a b : Int} {t : TypeId} {i j : Nat}
@[go_sem ↓ 1200] theorem e_IAi (h0 : 0 ≤ a) (h1 : a < l.length) : aIA (some (none, t, 2)) (.cell (.lst o nl 2 (ins l))) a V' = V' (.cell (.mem (.val (.int .i64 (gi l a.toNat).1) :: .val (.int .i64 (gi l a.toNat).2) :: ins (l.drop (a.toNat + 1))))) := by
  have h2 : a.toNat < l.length := by omega
  have e : (.val (.int .i64 (gi l a.toNat).1) :: .val (.int .i64 (gi l a.toNat).2) :: ins (l.drop (a.toNat + 1)) : List D) = xd (gi l a.toNat) ++ ins (l.drop (a.toNat + 1)) := rfl
  rw [e, ← ins_at h2]
  simp only [aIA, ins_len, h0, true_and]
  have : a * ((2 : Nat) : Int) < ((l.length * 2 : Nat) : Int) := by omega
  simp only [this, true_and]
@[go_sem ↓ 1200] theorem e_leni : aLen P t (.cell (.lst o nl 2 (ins l))) V' = (isSlcT P t = true ∧ V' (.int .i64 l.length)) := by
  simp only [aLen, ins_len, Nat.mul_div_cancel _ (show 0 < 2 by omega)]
@[go_sem ↓ 1200] theorem p_xd : aPt (some true) 2 ((D.val x :: D.val y :: r).map D.toC) 0 V' = V' (.w (.agg [.val x, .val y])) := by
  simp [aPt, D.toC]
@[go_sem] theorem t_xd {x y : C} {r : List C} : List.take 2 (List.drop 0 (x :: y :: r)) = [x, y] := nr rfl
end
end Go.Proofs.Ytamcjecgkfmjkaa
