/- Parts of a proof: The logic: states, events, numbers in a row compared, Chapter 18: how each kind of event is done. (written by gen18g.py), Chapter 18: an event is taken. (written by gen18h.py), Chapter 18: who is waited for, Chapter 18: how a match goes on, input by input, The law ContestFold: the plain part, Chapter 11, the other one: the states behind so many pairs of inputs, and the last of them, Chapter 18: what holds of a match all the while, Chapter 18: the cells of the other Contest (written by genbox.py), Chapter 18, the other one: a new match, what both did, the state, seats, Chapter 18, the other one: may an event be? (written by gen18t.py). -/
import Derived.Test.YtamcjecgkfmjkaaGreatMPl3
import Derived.Test.YtamcjecgkfmjkaaGreatMPl5
set_option linter.unusedSimpArgs false
set_option linter.unusedVariables false
open Go Go.RowKit
namespace Go.Proofs.YtamcjecgkfmjkaaGreat
section
def eqS (s t : Sta) : Bool := decide (s.frame = t.frame) && decide (s.cells = t.cells) && decide (s.seed = t.seed) && (s.over == t.over) && decide (s.win = t.win)
theorem eqS_iff {s t : Sta} : eqS s t = true ↔ s = t := by
  unfold eqS
  simp only [Bool.and_eq_true, decide_eq_true_eq, beq_iff_eq]
  constructor
  · rintro ⟨⟨⟨⟨a, b⟩, c⟩, d⟩, e⟩; exact Sta.ext' a b c d e
  rintro rfl; exact ⟨⟨⟨⟨rfl, rfl⟩, rfl⟩, rfl⟩, rfl⟩
@[go_sem] theorem eqS_refl {s : Sta} : eqS s s = true := eqS_iff.2 rfl
def uvS (s : Sta) : List Value := .int .i64 s.frame :: (s.cells.map (fun n => Value.int .i32 n) ++ [.int .u32 (U32 s.seed), .bool s.over, .int .i64 s.win])
theorem uvS_sd (s : Sta) : (sd s).map D.toC = (uvS s).map C.val := by
  simp [sd, uvS, c32, D.toC]
theorem val_inj : ∀ {us vs : List Value}, us.map C.val = vs.map C.val → us = vs
  | [], [], _ => rfl
  | [], _ :: _, h => by simp at h
  | _ :: _, [], h => by simp at h
  | u :: us, v :: vs, h => by
    simp only [List.map_cons, List.cons.injEq, C.val.injEq] at h
    rw [h.1, val_inj h.2]
theorem uvS_inj {s t : Sta} : uvS s = uvS t ↔ s = t := by
  constructor
  · intro h
    unfold uvS at h
    simp only [List.cons.injEq, Value.int.injEq, true_and] at h
    obtain ⟨h1, h2⟩ := h
    obtain ⟨h3, h4⟩ := List.append_inj h2 (by simp [s.len, t.len])
    simp only [List.cons.injEq, Value.int.injEq, Value.bool.injEq, true_and, and_true] at h4
    refine Sta.ext' h1 ?_ (U32_inj.1 h4.1) h4.2.1 h4.2.2
    exact List.map_inj_right (fun a b h => by simpa using h) |>.1 h3
  rintro rfl; rfl
theorem All2.app {α β : Type} {R : α → β → Prop} {a c : List α} {b d : List β} (h1 : All2 R a b) (h2 : All2 R c d) : All2 R (a ++ c) (b ++ d) := by
  induction h1 with
  | nil => exact h2
  | cons h _ ih => exact .cons h ih
theorem ok_i32 : ∀ (l : List Int), All2 okK (List.replicate l.length (some .i32)) (l.map (fun n => Value.int .i32 n))
  | [] => .nil
  | x :: l => .cons ⟨_, rfl⟩ (ok_i32 l)
theorem uvS_ok (s : Sta) : All2 okK ([some .i64, some .i32, some .i32, some .i32, some .i32, some .i32, some .i32, some .i32, some .i32, some .i32, some .i32, some .i32, some .i32, some .i32, some .i32, some .i32, some .i32, some .u32, none, some .i64] : List (Option IntKind)) (uvS s) := by
  have h := ok_i32 s.cells
  rw [s.len] at h
  show All2 okK (some .i64 :: (List.replicate 16 (some .i32) ++ [some .u32, none, some .i64])) _
  exact .cons ⟨_, rfl⟩ (h.app (c := [some .u32, none, some .i64]) (.cons ⟨_, rfl⟩ (.cons ⟨_, rfl⟩ (.cons ⟨_, rfl⟩ .nil))))
@[congr] theorem cg_aEqA2 {q q' : Option (List (Option IntKind))} {cs ds cs' ds' : List C} {J : Bool → Prop} (h0 : q = q') (h1 : cs = cs') (h2 : ds = ds') : aEqA q cs ds J = aEqA q' cs' ds' J := by subst h0; subst h1; subst h2; rfl
@[go_sem] theorem e_eqS {s t : Sta} {K : Bool → Prop} : aEqA (some [some .i64, some .i32, some .i32, some .i32, some .i32, some .i32, some .i32, some .i32, some .i32, some .i32, some .i32, some .i32, some .i32, some .i32, some .i32, some .i32, some .i32, some .u32, none, some .i64]) ((sd s).map D.toC) ((sd t).map D.toC) K = K (eqS s t) := by
  refine propext ⟨?_, fun h => ?_⟩
  · rintro ⟨ks, us, vs, hq, hu, hv, _, _, h⟩
    refine h _ ?_
    rw [eqS_iff, ← uvS_inj]
    rw [uvS_sd] at hu hv
    rw [val_inj hu, val_inj hv]
  refine ⟨_, _, _, rfl, uvS_sd s, uvS_sd t, uvS_ok s, uvS_ok t, fun b hb => ?_⟩
  rw [uvS_inj, ← eqS_iff] at hb
  rw [Bool.eq_iff_iff.2 hb]; exact h
@[go_sem] theorem e_eqSl {s : Sta} {f : Int} {K : Bool → Prop} : aEqA (some [some .i64, some .i32, some .i32, some .i32, some .i32, some .i32, some .i32, some .i32, some .i32, some .i32, some .i32, some .i32, some .i32, some .i32, some .i32, some .i32, some .i32, some .u32, none, some .i64]) ((sd s).map D.toC) [.val (.int .i64 f), .val (.int .i32 0), .val (.int .i32 0), .val (.int .i32 0), .val (.int .i32 0), .val (.int .i32 0), .val (.int .i32 0), .val (.int .i32 0), .val (.int .i32 0), .val (.int .i32 0), .val (.int .i32 0), .val (.int .i32 0), .val (.int .i32 0), .val (.int .i32 0), .val (.int .i32 0), .val (.int .i32 0), .val (.int .i32 0), .val (.int .u32 0), .val (.bool false), .val (.int .i64 0)] K = K (eqS s (stz f 0)) := e_eqS (t := stz f 0)
@[go_sem 1100] theorem e_eqEv {x0 y0 : Int} {x1 y1 : Int} {x2 y2 : Int} {x3 y3 : Int} {x4 y4 : Int} {x5 y5 : Int} {K : Bool → Prop} : aEqA (some [some .i64, some .i64, some .i64, some .i64, some .u16, some .i64]) [.val (.int .i64 x0), .val (.int .i64 x1), .val (.int .i64 x2), .val (.int .i64 x3), .val (.int .u16 x4), .val (.int .i64 x5)] [.val (.int .i64 y0), .val (.int .i64 y1), .val (.int .i64 y2), .val (.int .i64 y3), .val (.int .u16 y4), .val (.int .i64 y5)] K = K (decide (x0 = y0 ∧ x1 = y1 ∧ x2 = y2 ∧ x3 = y3 ∧ x4 = y4 ∧ x5 = y5)) := by
  have key : ([.int .i64 x0, .int .i64 x1, .int .i64 x2, .int .i64 x3, .int .u16 x4, .int .i64 x5] : List Value) = [.int .i64 y0, .int .i64 y1, .int .i64 y2, .int .i64 y3, .int .u16 y4, .int .i64 y5] ↔ (x0 = y0 ∧ x1 = y1 ∧ x2 = y2 ∧ x3 = y3 ∧ x4 = y4 ∧ x5 = y5) := by simp
  refine propext ⟨?_, fun h => ?_⟩
  · rintro ⟨ks, us, vs, hq, hu, hv, _, _, h⟩
    refine h _ ?_
    have hu' : us = [.int .i64 x0, .int .i64 x1, .int .i64 x2, .int .i64 x3, .int .u16 x4, .int .i64 x5] := val_inj (us := us) (vs := [.int .i64 x0, .int .i64 x1, .int .i64 x2, .int .i64 x3, .int .u16 x4, .int .i64 x5]) hu.symm
    have hv' : vs = [.int .i64 y0, .int .i64 y1, .int .i64 y2, .int .i64 y3, .int .u16 y4, .int .i64 y5] := val_inj (us := vs) (vs := [.int .i64 y0, .int .i64 y1, .int .i64 y2, .int .i64 y3, .int .u16 y4, .int .i64 y5]) hv.symm
    rw [hu', hv', decide_eq_true_eq, key]
  refine ⟨_, [.int .i64 x0, .int .i64 x1, .int .i64 x2, .int .i64 x3, .int .u16 x4, .int .i64 x5], [.int .i64 y0, .int .i64 y1, .int .i64 y2, .int .i64 y3, .int .u16 y4, .int .i64 y5], rfl, rfl, rfl, (.cons ⟨_, rfl⟩ (.cons ⟨_, rfl⟩ (.cons ⟨_, rfl⟩ (.cons ⟨_, rfl⟩ (.cons ⟨_, rfl⟩ (.cons ⟨_, rfl⟩ .nil)))))), (.cons ⟨_, rfl⟩ (.cons ⟨_, rfl⟩ (.cons ⟨_, rfl⟩ (.cons ⟨_, rfl⟩ (.cons ⟨_, rfl⟩ (.cons ⟨_, rfl⟩ .nil)))))), fun b hb => ?_⟩
  rw [key] at hb
  have : b = decide (x0 = y0 ∧ x1 = y1 ∧ x2 = y2 ∧ x3 = y3 ∧ x4 = y4 ∧ x5 = y5) := by rw [Bool.eq_iff_iff, hb, decide_eq_true_eq]
  rw [this]; exact h
@[go_sem 1100] theorem e_eqSt {x0 y0 : Int} {x1 y1 : Int} {x2 y2 : Int} {x3 y3 : Int} {x4 y4 : Int} {x5 y5 : Int} {x6 y6 : Int} {x7 y7 : Bool} {x8 y8 : Int} {x9 y9 : Int} {x10 y10 : Bool} {K : Bool → Prop} : aEqA (some [some .i64, some .i64, some .u32, some .i64, some .i64, some .i64, some .i64, none, some .i64, some .i64, none]) [.val (.int .i64 x0), .val (.int .i64 x1), .val (.int .u32 x2), .val (.int .i64 x3), .val (.int .i64 x4), .val (.int .i64 x5), .val (.int .i64 x6), .val (.bool x7), .val (.int .i64 x8), .val (.int .i64 x9), .val (.bool x10)] [.val (.int .i64 y0), .val (.int .i64 y1), .val (.int .u32 y2), .val (.int .i64 y3), .val (.int .i64 y4), .val (.int .i64 y5), .val (.int .i64 y6), .val (.bool y7), .val (.int .i64 y8), .val (.int .i64 y9), .val (.bool y10)] K = K (decide (x0 = y0 ∧ x1 = y1 ∧ x2 = y2 ∧ x3 = y3 ∧ x4 = y4 ∧ x5 = y5 ∧ x6 = y6 ∧ x7 = y7 ∧ x8 = y8 ∧ x9 = y9 ∧ x10 = y10)) := by
  have key : ([.int .i64 x0, .int .i64 x1, .int .u32 x2, .int .i64 x3, .int .i64 x4, .int .i64 x5, .int .i64 x6, .bool x7, .int .i64 x8, .int .i64 x9, .bool x10] : List Value) = [.int .i64 y0, .int .i64 y1, .int .u32 y2, .int .i64 y3, .int .i64 y4, .int .i64 y5, .int .i64 y6, .bool y7, .int .i64 y8, .int .i64 y9, .bool y10] ↔ (x0 = y0 ∧ x1 = y1 ∧ x2 = y2 ∧ x3 = y3 ∧ x4 = y4 ∧ x5 = y5 ∧ x6 = y6 ∧ x7 = y7 ∧ x8 = y8 ∧ x9 = y9 ∧ x10 = y10) := by simp
  refine propext ⟨?_, fun h => ?_⟩
  · rintro ⟨ks, us, vs, hq, hu, hv, _, _, h⟩
    refine h _ ?_
    have hu' : us = [.int .i64 x0, .int .i64 x1, .int .u32 x2, .int .i64 x3, .int .i64 x4, .int .i64 x5, .int .i64 x6, .bool x7, .int .i64 x8, .int .i64 x9, .bool x10] := val_inj (us := us) (vs := [.int .i64 x0, .int .i64 x1, .int .u32 x2, .int .i64 x3, .int .i64 x4, .int .i64 x5, .int .i64 x6, .bool x7, .int .i64 x8, .int .i64 x9, .bool x10]) hu.symm
    have hv' : vs = [.int .i64 y0, .int .i64 y1, .int .u32 y2, .int .i64 y3, .int .i64 y4, .int .i64 y5, .int .i64 y6, .bool y7, .int .i64 y8, .int .i64 y9, .bool y10] := val_inj (us := vs) (vs := [.int .i64 y0, .int .i64 y1, .int .u32 y2, .int .i64 y3, .int .i64 y4, .int .i64 y5, .int .i64 y6, .bool y7, .int .i64 y8, .int .i64 y9, .bool y10]) hv.symm
    rw [hu', hv', decide_eq_true_eq, key]
  refine ⟨_, [.int .i64 x0, .int .i64 x1, .int .u32 x2, .int .i64 x3, .int .i64 x4, .int .i64 x5, .int .i64 x6, .bool x7, .int .i64 x8, .int .i64 x9, .bool x10], [.int .i64 y0, .int .i64 y1, .int .u32 y2, .int .i64 y3, .int .i64 y4, .int .i64 y5, .int .i64 y6, .bool y7, .int .i64 y8, .int .i64 y9, .bool y10], rfl, rfl, rfl, (.cons ⟨_, rfl⟩ (.cons ⟨_, rfl⟩ (.cons ⟨_, rfl⟩ (.cons ⟨_, rfl⟩ (.cons ⟨_, rfl⟩ (.cons ⟨_, rfl⟩ (.cons ⟨_, rfl⟩ (.cons ⟨_, rfl⟩ (.cons ⟨_, rfl⟩ (.cons ⟨_, rfl⟩ (.cons ⟨_, rfl⟩ .nil))))))))))), (.cons ⟨_, rfl⟩ (.cons ⟨_, rfl⟩ (.cons ⟨_, rfl⟩ (.cons ⟨_, rfl⟩ (.cons ⟨_, rfl⟩ (.cons ⟨_, rfl⟩ (.cons ⟨_, rfl⟩ (.cons ⟨_, rfl⟩ (.cons ⟨_, rfl⟩ (.cons ⟨_, rfl⟩ (.cons ⟨_, rfl⟩ .nil))))))))))), fun b hb => ?_⟩
  rw [key] at hb
  have : b = decide (x0 = y0 ∧ x1 = y1 ∧ x2 = y2 ∧ x3 = y3 ∧ x4 = y4 ∧ x5 = y5 ∧ x6 = y6 ∧ x7 = y7 ∧ x8 = y8 ∧ x9 = y9 ∧ x10 = y10) := by rw [Bool.eq_iff_iff, hb, decide_eq_true_eq]
  rw [this]; exact h
@[go_sem 1100] theorem e_eqP2 {x0 y0 : Int} {x1 y1 : Int} {K : Bool → Prop} : aEqA (some [some .i64, some .i64]) [.val (.int .i64 x0), .val (.int .i64 x1)] [.val (.int .i64 y0), .val (.int .i64 y1)] K = K (decide (x0 = y0 ∧ x1 = y1)) := by
  have key : ([.int .i64 x0, .int .i64 x1] : List Value) = [.int .i64 y0, .int .i64 y1] ↔ (x0 = y0 ∧ x1 = y1) := by simp
  refine propext ⟨?_, fun h => ?_⟩
  · rintro ⟨ks, us, vs, hq, hu, hv, _, _, h⟩
    refine h _ ?_
    have hu' : us = [.int .i64 x0, .int .i64 x1] := val_inj (us := us) (vs := [.int .i64 x0, .int .i64 x1]) hu.symm
    have hv' : vs = [.int .i64 y0, .int .i64 y1] := val_inj (us := vs) (vs := [.int .i64 y0, .int .i64 y1]) hv.symm
    rw [hu', hv', decide_eq_true_eq, key]
  refine ⟨_, [.int .i64 x0, .int .i64 x1], [.int .i64 y0, .int .i64 y1], rfl, rfl, rfl, (.cons ⟨_, rfl⟩ (.cons ⟨_, rfl⟩ .nil)), (.cons ⟨_, rfl⟩ (.cons ⟨_, rfl⟩ .nil)), fun b hb => ?_⟩
  rw [key] at hb
  have : b = decide (x0 = y0 ∧ x1 = y1) := by rw [Bool.eq_iff_iff, hb, decide_eq_true_eq]
  rw [this]; exact h
@[go_sem 1100] theorem e_eqU2 {x0 y0 : Int} {x1 y1 : Int} {K : Bool → Prop} : aEqA (some [some .u16, some .u16]) [.val (.int .u16 x0), .val (.int .u16 x1)] [.val (.int .u16 y0), .val (.int .u16 y1)] K = K (decide (x0 = y0 ∧ x1 = y1)) := by
  have key : ([.int .u16 x0, .int .u16 x1] : List Value) = [.int .u16 y0, .int .u16 y1] ↔ (x0 = y0 ∧ x1 = y1) := by simp
  refine propext ⟨?_, fun h => ?_⟩
  · rintro ⟨ks, us, vs, hq, hu, hv, _, _, h⟩
    refine h _ ?_
    have hu' : us = [.int .u16 x0, .int .u16 x1] := val_inj (us := us) (vs := [.int .u16 x0, .int .u16 x1]) hu.symm
    have hv' : vs = [.int .u16 y0, .int .u16 y1] := val_inj (us := vs) (vs := [.int .u16 y0, .int .u16 y1]) hv.symm
    rw [hu', hv', decide_eq_true_eq, key]
  refine ⟨_, [.int .u16 x0, .int .u16 x1], [.int .u16 y0, .int .u16 y1], rfl, rfl, rfl, (.cons ⟨_, rfl⟩ (.cons ⟨_, rfl⟩ .nil)), (.cons ⟨_, rfl⟩ (.cons ⟨_, rfl⟩ .nil)), fun b hb => ?_⟩
  rw [key] at hb
  have : b = decide (x0 = y0 ∧ x1 = y1) := by rw [Bool.eq_iff_iff, hb, decide_eq_true_eq]
  rw [this]; exact h
end
section
def howsC : List C := [.val .nilFunc, .val .nilFunc, .val .nilFunc,
  .fn (.func 41) [] [], .fn (.func 42) [] [], .fn (.func 43) [] [],
  .fn (.func 44) [] [], .fn (.func 45) [] [], .fn (.func 46) [] [],
  .fn (.func 47) [] [], .fn (.func 48) [] [], .fn (.func 49) [] [],
  .fn (.func 50) [] [], .fn (.func 51) [] [], .fn (.func 52) [] [],
  .fn (.func 53) [] [], .fn (.func 54) [] [], .fn (.func 55) [] []]
@[go_sem] theorem u16_0 : U16 0 = 0 := nr rfl
@[go_sem] theorem u32_0 : U32 0 = 0 := nr rfl
theorem not_t {b : Bool} (d : (!b) = true) : ¬ b = true := by cases b <;> simp_all
theorem not_f {b : Bool} (d : (!b) = false) : b = true := by cases b <;> simp_all
@[go_sem] theorem hw_k {bi : Id → Bool} {bt : Tag → Bool} : howsC.map (C.clean bi bt) = howsC := nr rfl
@[go_sem] theorem hw_r {ks : List Id} {d : Nat} : howsC.map (C.ren ks d) = howsC := nr rfl
@[go_sem] theorem hw_t {ta tb : Tag} : howsC.map (C.retag ta tb) = howsC := nr rfl
@[go_sem] theorem hw_n : howsC.all known = true := nr rfl
@[go_sem] theorem hw_l : howsC.length = 18 := nr rfl
@[go_sem 1300] theorem hw_1 : List.take 3 (List.drop 3 howsC) = [.fn (.func 41) [] [], .fn (.func 42) [] [], .fn (.func 43) [] []] := nr rfl
@[go_sem 1300] theorem hw_2 : List.take 3 (List.drop 6 howsC) = [.fn (.func 44) [] [], .fn (.func 45) [] [], .fn (.func 46) [] []] := nr rfl
@[go_sem 1300] theorem hw_3 : List.take 3 (List.drop 9 howsC) = [.fn (.func 47) [] [], .fn (.func 48) [] [], .fn (.func 49) [] []] := nr rfl
@[go_sem 1300] theorem hw_4 : List.take 3 (List.drop 12 howsC) = [.fn (.func 50) [] [], .fn (.func 51) [] [], .fn (.func 52) [] []] := nr rfl
@[go_sem 1300] theorem hw_5 : List.take 3 (List.drop 15 howsC) = [.fn (.func 53) [] [], .fn (.func 54) [] [], .fn (.func 55) [] []] := nr rfl
@[go_sem 1300] theorem hw_td : List.take 18 (List.drop 0 howsC) = howsC := nr rfl
@[go_sem ↓ 1300] theorem hw_le : leCs howsC howsC = True := eq_true (leCs_refl _)
theorem hows_h : Holds Tryz.prog 28 [] [] (fun r h' => r = .w (.agg howsC) ∧ h' = []) := by
  refine holds_of_awp Tryz.func28 rfl (by decide +kernel) mixed Tryz.ntmps28 Tryz.results28 ?_
  refine zE ?_
  unfold howsC
  refine zs ?_;try exact trivial
  exact leCs_refl _
/-- has an event nothing but what its kind names? -/
def bareB (e : Ev) : Bool :=
  if e.kind = 1 then decide (e.frame = 0 ∧ U16 e.inp = 0)
  else if e.kind = 3 then decide (e.other = 0 ∧ e.n = 0)
  else if e.kind = 5 then decide (e.other = 0 ∧ e.frame = 0 ∧ U16 e.inp = 0)
  else decide (e.other = 0 ∧ e.frame = 0 ∧ U16 e.inp = 0 ∧ e.n = 0)
def may1P (c : Ct) (e : Ev) : Int :=
  if e.kind = 1 then mayOpenP c e else if e.kind = 2 then mayJoinP c e else if e.kind = 3 then mayInputP c e else if e.kind = 4 then actP c e.player else mayResultP c e
def mayP18 (c : Ct) (e : Ev) : Int := if e.kind < 1 ∨ 6 ≤ e.kind then 3 else if bareB e = true then may1P c e else 3
abbrev fnR1 : List C := [.fn (.func 41) [] [], .fn (.func 42) [] [], .fn (.func 43) [] []]
abbrev fnR2 : List C := [.fn (.func 44) [] [], .fn (.func 45) [] [], .fn (.func 46) [] []]
abbrev fnR3 : List C := [.fn (.func 47) [] [], .fn (.func 48) [] [], .fn (.func 49) [] []]
abbrev fnR4 : List C := [.fn (.func 50) [] [], .fn (.func 51) [] [], .fn (.func 52) [] []]
abbrev fnR5 : List C := [.fn (.func 53) [] [], .fn (.func 54) [] [], .fn (.func 55) [] []]
set_option maxHeartbeats 4000000 in
theorem may1_h (c : Ct) (player other frame n : Int) (inp : UInt16) : Holds Tryz.prog 11 [.ptr (.arg 0) 0, .ev ⟨1, player, other, frame, inp, n⟩] [(.arg 0, ctB (.arg 0) c)] (fun r h' => r = .int .i64 (mayP18 c ⟨1, player, other, frame, inp, n⟩) ∧ h' = [(.arg 0, ctB (.arg 0) c)]) := by
  have eb : bareB ⟨1, player, other, frame, inp, n⟩ = decide (frame = 0 ∧ U16 inp = 0) := rfl
  have em : mayP18 c ⟨1, player, other, frame, inp, n⟩ = if decide (frame = 0 ∧ U16 inp = 0) = true then mayOpenP c ⟨1, player, other, frame, inp, n⟩ else 3 := by
    unfold mayP18
    rw [if_neg (by simp only; omega), eb]
    rfl
  rw [em]
  refine holds_of_awp Tryz.func11 rfl (by decide +kernel) mixed Tryz.ntmps11 Tryz.results11 ?_
  refine zE ?_
  refine zc ?_;try exact trivial
  refine a_drawC (⟨[V.cell (.ptr (.arg 0) 0), .undef, .undef, V.cell (.ptr (.loc [3]) 0), .undef, V.cell (.ptr (.loc [5]) 0), U, U, U, U, U, U, U, U, U, U, U, U, U, U, U, U, U, U, U, U, U, U, U, U, U, U, .undef], [(.loc [5], fnR1), (.loc [3], evC ⟨1, player, other, frame, inp, n⟩), (.arg 0, ctB (.arg 0) c)]⟩) (.take 1 (.both [(0, .both [(2, .take 3 (.both [(4, .both [(5, .done)])])), (4, .both [(2, .take 3 (.both [(5, .done)]))])]), (2, .both [(0, .take 3 (.both [(4, .both [(5, .done)])])), (4, .both [(0, .take 3 (.both [(5, .done)]))])]), (4, .both [(0, .both [(2, .take 3 (.both [(5, .done)]))]), (2, .both [(0, .take 3 (.both [(5, .done)]))])])])) (by kernel_rfl) (by kernel_rfl) ?_ ?_
  · refine zc ?_;try exact trivial
    repeat' (with_reducible apply And.intro)
    all_goals (
      refine a_call [] (hows_h) ok0 ?_ ?_ ?_
      · refine zs ?_;try exact trivial
      · refine zs ?_;try exact trivial
      rintro _ _ ⟨rfl, rfl⟩
      (refine zc ?_; try exact trivial))
  refine zc ?_;try exact trivial
  refine a_drawC (⟨[V.cell (.ptr (.arg 0) 0), .undef, .undef, V.cell (.ptr (.loc [3]) 0), .undef, V.cell (.ptr (.loc [5]) 0), U, U, U, U, U, U, U, U, U, U, U, U, U, U, U, U, U, U, U, U, U, V.bool (!decide (frame = 0 ∧ U16 inp = 0)), U, U, U, U, .undef], [(.loc [5], fnR1), (.loc [3], evC ⟨1, player, other, frame, inp, n⟩), (.arg 0, ctB (.arg 0) c)]⟩) (.take 0 (.take 4 (.both [(1, .both [(2, .both [(3, .both [(5, .both [(6, .take 7 (.done))])]), (5, .both [(3, .both [(6, .take 7 (.done))]), (6, .both [(3, .take 7 (.done))])])]), (5, .both [(2, .both [(3, .both [(6, .take 7 (.done))]), (6, .both [(3, .take 7 (.done))])]), (6, .both [(2, .both [(3, .take 7 (.done))])])])]), (2, .both [(1, .both [(3, .both [(5, .both [(6, .take 7 (.done))])]), (5, .both [(3, .both [(6, .take 7 (.done))]), (6, .both [(3, .take 7 (.done))])])]), (5, .both [(1, .both [(3, .both [(6, .take 7 (.done))]), (6, .both [(3, .take 7 (.done))])]), (6, .both [(1, .both [(3, .take 7 (.done))])])])]), (5, .both [(1, .both [(2, .both [(3, .both [(6, .take 7 (.done))]), (6, .both [(3, .take 7 (.done))])]), (6, .both [(2, .both [(3, .take 7 (.done))])])]), (2, .both [(1, .both [(3, .both [(6, .take 7 (.done))]), (6, .both [(3, .take 7 (.done))])]), (6, .both [(1, .both [(3, .take 7 (.done))])])]), (6, .both [(1, .both [(2, .both [(3, .take 7 (.done))])]), (2, .both [(1, .both [(3, .take 7 (.done))])])])])]))) (by kernel_rfl) (by kernel_rfl) ?_ ?_
  · refine zc ?_;try exact trivial
    repeat' (with_reducible apply And.intro)
    all_goals (
      refine a_call [] (bare1_h ⟨1, player, other, frame, inp, n⟩) ok0 ?_ ?_ ?_
      · refine zs ?_;try exact trivial
      · refine zs ?_;try exact trivial
      rintro _ _ ⟨rfl, rfl⟩
      (refine zc ?_; try exact trivial))
  refine zs ?_;try exact trivial
  refine c_b (fun d => ?_) (fun d => ?_)
  · have d' : ¬ decide (frame = 0 ∧ U16 inp = 0) = true := not_t d
    rw [if_neg d']
    refine zs ?_;try exact trivial
  have d' : decide (frame = 0 ∧ U16 inp = 0) = true := not_f d
  rw [if_pos d']
  refine zs ?_;try exact trivial
  refine a_call [.arg 0] (mayOpen_h c ⟨1, player, other, frame, inp, n⟩) (ok1 rfl) ?_ ?_ ?_
  · refine zs ?_;try exact trivial
  · refine zs ?_;try exact trivial
  rintro _ _ ⟨rfl, rfl⟩
  refine zs ?_;try exact trivial
set_option maxHeartbeats 4000000 in
theorem may2_h (c : Ct) (player other frame n : Int) (inp : UInt16) : Holds Tryz.prog 11 [.ptr (.arg 0) 0, .ev ⟨2, player, other, frame, inp, n⟩] [(.arg 0, ctB (.arg 0) c)] (fun r h' => r = .int .i64 (mayP18 c ⟨2, player, other, frame, inp, n⟩) ∧ h' = [(.arg 0, ctB (.arg 0) c)]) := by
  have eb : bareB ⟨2, player, other, frame, inp, n⟩ = decide (other = 0 ∧ frame = 0 ∧ U16 inp = 0 ∧ n = 0) := rfl
  have em : mayP18 c ⟨2, player, other, frame, inp, n⟩ = if decide (other = 0 ∧ frame = 0 ∧ U16 inp = 0 ∧ n = 0) = true then mayJoinP c ⟨2, player, other, frame, inp, n⟩ else 3 := by
    unfold mayP18
    rw [if_neg (by simp only; omega), eb]
    rfl
  rw [em]
  refine holds_of_awp Tryz.func11 rfl (by decide +kernel) mixed Tryz.ntmps11 Tryz.results11 ?_
  refine zE ?_
  refine zc ?_;try exact trivial
  refine a_drawC (⟨[V.cell (.ptr (.arg 0) 0), .undef, .undef, V.cell (.ptr (.loc [3]) 0), .undef, V.cell (.ptr (.loc [5]) 0), U, U, U, U, U, U, U, U, U, U, U, U, U, U, U, U, U, U, U, U, U, U, U, U, U, U, .undef], [(.loc [5], fnR2), (.loc [3], evC ⟨2, player, other, frame, inp, n⟩), (.arg 0, ctB (.arg 0) c)]⟩) (.take 1 (.both [(0, .both [(2, .take 3 (.both [(4, .both [(5, .done)])])), (4, .both [(2, .take 3 (.both [(5, .done)]))])]), (2, .both [(0, .take 3 (.both [(4, .both [(5, .done)])])), (4, .both [(0, .take 3 (.both [(5, .done)]))])]), (4, .both [(0, .both [(2, .take 3 (.both [(5, .done)]))]), (2, .both [(0, .take 3 (.both [(5, .done)]))])])])) (by kernel_rfl) (by kernel_rfl) ?_ ?_
  · refine zc ?_;try exact trivial
    repeat' (with_reducible apply And.intro)
    all_goals (
      refine a_call [] (hows_h) ok0 ?_ ?_ ?_
      · refine zs ?_;try exact trivial
      · refine zs ?_;try exact trivial
      rintro _ _ ⟨rfl, rfl⟩
      (refine zc ?_; try exact trivial))
  refine zc ?_;try exact trivial
  refine a_drawC (⟨[V.cell (.ptr (.arg 0) 0), .undef, .undef, V.cell (.ptr (.loc [3]) 0), .undef, V.cell (.ptr (.loc [5]) 0), U, U, U, U, U, U, U, U, U, U, U, U, U, U, U, U, U, U, U, U, U, V.bool (!decide (other = 0 ∧ frame = 0 ∧ U16 inp = 0 ∧ n = 0)), U, U, U, U, .undef], [(.loc [5], fnR2), (.loc [3], evC ⟨2, player, other, frame, inp, n⟩), (.arg 0, ctB (.arg 0) c)]⟩) (.take 0 (.take 4 (.both [(1, .both [(2, .both [(3, .both [(5, .both [(6, .take 7 (.done))])]), (5, .both [(3, .both [(6, .take 7 (.done))]), (6, .both [(3, .take 7 (.done))])])]), (5, .both [(2, .both [(3, .both [(6, .take 7 (.done))]), (6, .both [(3, .take 7 (.done))])]), (6, .both [(2, .both [(3, .take 7 (.done))])])])]), (2, .both [(1, .both [(3, .both [(5, .both [(6, .take 7 (.done))])]), (5, .both [(3, .both [(6, .take 7 (.done))]), (6, .both [(3, .take 7 (.done))])])]), (5, .both [(1, .both [(3, .both [(6, .take 7 (.done))]), (6, .both [(3, .take 7 (.done))])]), (6, .both [(1, .both [(3, .take 7 (.done))])])])]), (5, .both [(1, .both [(2, .both [(3, .both [(6, .take 7 (.done))]), (6, .both [(3, .take 7 (.done))])]), (6, .both [(2, .both [(3, .take 7 (.done))])])]), (2, .both [(1, .both [(3, .both [(6, .take 7 (.done))]), (6, .both [(3, .take 7 (.done))])]), (6, .both [(1, .both [(3, .take 7 (.done))])])]), (6, .both [(1, .both [(2, .both [(3, .take 7 (.done))])]), (2, .both [(1, .both [(3, .take 7 (.done))])])])])]))) (by kernel_rfl) (by kernel_rfl) ?_ ?_
  · refine zc ?_;try exact trivial
    repeat' (with_reducible apply And.intro)
    all_goals (
      refine a_call [] (bare2_h ⟨2, player, other, frame, inp, n⟩) ok0 ?_ ?_ ?_
      · refine zs ?_;try exact trivial
      · refine zs ?_;try exact trivial
      rintro _ _ ⟨rfl, rfl⟩
      (refine zc ?_; try exact trivial))
  refine zs ?_;try exact trivial
  refine c_b (fun d => ?_) (fun d => ?_)
  · have d' : ¬ decide (other = 0 ∧ frame = 0 ∧ U16 inp = 0 ∧ n = 0) = true := not_t d
    rw [if_neg d']
    refine zs ?_;try exact trivial
  have d' : decide (other = 0 ∧ frame = 0 ∧ U16 inp = 0 ∧ n = 0) = true := not_f d
  rw [if_pos d']
  refine zs ?_;try exact trivial
  refine a_call [.arg 0] (mayJoin_h c ⟨2, player, other, frame, inp, n⟩) (ok1 rfl) ?_ ?_ ?_
  · refine zs ?_;try exact trivial
  · refine zs ?_;try exact trivial
  rintro _ _ ⟨rfl, rfl⟩
  refine zs ?_;try exact trivial
set_option maxHeartbeats 4000000 in
theorem may3_h (c : Ct) (player other frame n : Int) (inp : UInt16) (h0 : c.in0.length ≤ 1000000) (h1 : c.in1.length ≤ 1000000) : Holds Tryz.prog 11 [.ptr (.arg 0) 0, .ev ⟨3, player, other, frame, inp, n⟩] [(.arg 0, ctB (.arg 0) c)] (fun r h' => r = .int .i64 (mayP18 c ⟨3, player, other, frame, inp, n⟩) ∧ h' = [(.arg 0, ctB (.arg 0) c)]) := by
  have eb : bareB ⟨3, player, other, frame, inp, n⟩ = decide (other = 0 ∧ n = 0) := rfl
  have em : mayP18 c ⟨3, player, other, frame, inp, n⟩ = if decide (other = 0 ∧ n = 0) = true then mayInputP c ⟨3, player, other, frame, inp, n⟩ else 3 := by
    unfold mayP18
    rw [if_neg (by simp only; omega), eb]
    rfl
  rw [em]
  refine holds_of_awp Tryz.func11 rfl (by decide +kernel) mixed Tryz.ntmps11 Tryz.results11 ?_
  refine zE ?_
  refine zc ?_;try exact trivial
  refine a_drawC (⟨[V.cell (.ptr (.arg 0) 0), .undef, .undef, V.cell (.ptr (.loc [3]) 0), .undef, V.cell (.ptr (.loc [5]) 0), U, U, U, U, U, U, U, U, U, U, U, U, U, U, U, U, U, U, U, U, U, U, U, U, U, U, .undef], [(.loc [5], fnR3), (.loc [3], evC ⟨3, player, other, frame, inp, n⟩), (.arg 0, ctB (.arg 0) c)]⟩) (.take 1 (.both [(0, .both [(2, .take 3 (.both [(4, .both [(5, .done)])])), (4, .both [(2, .take 3 (.both [(5, .done)]))])]), (2, .both [(0, .take 3 (.both [(4, .both [(5, .done)])])), (4, .both [(0, .take 3 (.both [(5, .done)]))])]), (4, .both [(0, .both [(2, .take 3 (.both [(5, .done)]))]), (2, .both [(0, .take 3 (.both [(5, .done)]))])])])) (by kernel_rfl) (by kernel_rfl) ?_ ?_
  · refine zc ?_;try exact trivial
    repeat' (with_reducible apply And.intro)
    all_goals (
      refine a_call [] (hows_h) ok0 ?_ ?_ ?_
      · refine zs ?_;try exact trivial
      · refine zs ?_;try exact trivial
      rintro _ _ ⟨rfl, rfl⟩
      (refine zc ?_; try exact trivial))
  refine zc ?_;try exact trivial
  refine a_drawC (⟨[V.cell (.ptr (.arg 0) 0), .undef, .undef, V.cell (.ptr (.loc [3]) 0), .undef, V.cell (.ptr (.loc [5]) 0), U, U, U, U, U, U, U, U, U, U, U, U, U, U, U, U, U, U, U, U, U, V.bool (!decide (other = 0 ∧ n = 0)), U, U, U, U, .undef], [(.loc [5], fnR3), (.loc [3], evC ⟨3, player, other, frame, inp, n⟩), (.arg 0, ctB (.arg 0) c)]⟩) (.take 0 (.take 4 (.both [(1, .both [(2, .both [(3, .both [(5, .both [(6, .take 7 (.done))])]), (5, .both [(3, .both [(6, .take 7 (.done))]), (6, .both [(3, .take 7 (.done))])])]), (5, .both [(2, .both [(3, .both [(6, .take 7 (.done))]), (6, .both [(3, .take 7 (.done))])]), (6, .both [(2, .both [(3, .take 7 (.done))])])])]), (2, .both [(1, .both [(3, .both [(5, .both [(6, .take 7 (.done))])]), (5, .both [(3, .both [(6, .take 7 (.done))]), (6, .both [(3, .take 7 (.done))])])]), (5, .both [(1, .both [(3, .both [(6, .take 7 (.done))]), (6, .both [(3, .take 7 (.done))])]), (6, .both [(1, .both [(3, .take 7 (.done))])])])]), (5, .both [(1, .both [(2, .both [(3, .both [(6, .take 7 (.done))]), (6, .both [(3, .take 7 (.done))])]), (6, .both [(2, .both [(3, .take 7 (.done))])])]), (2, .both [(1, .both [(3, .both [(6, .take 7 (.done))]), (6, .both [(3, .take 7 (.done))])]), (6, .both [(1, .both [(3, .take 7 (.done))])])]), (6, .both [(1, .both [(2, .both [(3, .take 7 (.done))])]), (2, .both [(1, .both [(3, .take 7 (.done))])])])])]))) (by kernel_rfl) (by kernel_rfl) ?_ ?_
  · refine zc ?_;try exact trivial
    repeat' (with_reducible apply And.intro)
    all_goals (
      refine a_call [] (bare3_h ⟨3, player, other, frame, inp, n⟩) ok0 ?_ ?_ ?_
      · refine zs ?_;try exact trivial
      · refine zs ?_;try exact trivial
      rintro _ _ ⟨rfl, rfl⟩
      (refine zc ?_; try exact trivial))
  refine zs ?_;try exact trivial
  refine c_b (fun d => ?_) (fun d => ?_)
  · have d' : ¬ decide (other = 0 ∧ n = 0) = true := not_t d
    rw [if_neg d']
    refine zs ?_;try exact trivial
  have d' : decide (other = 0 ∧ n = 0) = true := not_f d
  rw [if_pos d']
  refine zs ?_;try exact trivial
  refine a_call [.arg 0] (mayInput_h c ⟨3, player, other, frame, inp, n⟩ h0 h1) (ok1 rfl) ?_ ?_ ?_
  · refine zs ?_;try exact trivial
  · refine zs ?_;try exact trivial
  rintro _ _ ⟨rfl, rfl⟩
  refine zs ?_;try exact trivial
set_option maxHeartbeats 4000000 in
theorem may4_h (c : Ct) (player other frame n : Int) (inp : UInt16) : Holds Tryz.prog 11 [.ptr (.arg 0) 0, .ev ⟨4, player, other, frame, inp, n⟩] [(.arg 0, ctB (.arg 0) c)] (fun r h' => r = .int .i64 (mayP18 c ⟨4, player, other, frame, inp, n⟩) ∧ h' = [(.arg 0, ctB (.arg 0) c)]) := by
  have eb : bareB ⟨4, player, other, frame, inp, n⟩ = decide (other = 0 ∧ frame = 0 ∧ U16 inp = 0 ∧ n = 0) := rfl
  have em : mayP18 c ⟨4, player, other, frame, inp, n⟩ = if decide (other = 0 ∧ frame = 0 ∧ U16 inp = 0 ∧ n = 0) = true then actP c player else 3 := by
    unfold mayP18
    rw [if_neg (by simp only; omega), eb]
    rfl
  rw [em]
  refine holds_of_awp Tryz.func11 rfl (by decide +kernel) mixed Tryz.ntmps11 Tryz.results11 ?_
  refine zE ?_
  refine zc ?_;try exact trivial
  refine a_drawC (⟨[V.cell (.ptr (.arg 0) 0), .undef, .undef, V.cell (.ptr (.loc [3]) 0), .undef, V.cell (.ptr (.loc [5]) 0), U, U, U, U, U, U, U, U, U, U, U, U, U, U, U, U, U, U, U, U, U, U, U, U, U, U, .undef], [(.loc [5], fnR4), (.loc [3], evC ⟨4, player, other, frame, inp, n⟩), (.arg 0, ctB (.arg 0) c)]⟩) (.take 1 (.both [(0, .both [(2, .take 3 (.both [(4, .both [(5, .done)])])), (4, .both [(2, .take 3 (.both [(5, .done)]))])]), (2, .both [(0, .take 3 (.both [(4, .both [(5, .done)])])), (4, .both [(0, .take 3 (.both [(5, .done)]))])]), (4, .both [(0, .both [(2, .take 3 (.both [(5, .done)]))]), (2, .both [(0, .take 3 (.both [(5, .done)]))])])])) (by kernel_rfl) (by kernel_rfl) ?_ ?_
  · refine zc ?_;try exact trivial
    repeat' (with_reducible apply And.intro)
    all_goals (
      refine a_call [] (hows_h) ok0 ?_ ?_ ?_
      · refine zs ?_;try exact trivial
      · refine zs ?_;try exact trivial
      rintro _ _ ⟨rfl, rfl⟩
      (refine zc ?_; try exact trivial))
  refine zc ?_;try exact trivial
  refine a_drawC (⟨[V.cell (.ptr (.arg 0) 0), .undef, .undef, V.cell (.ptr (.loc [3]) 0), .undef, V.cell (.ptr (.loc [5]) 0), U, U, U, U, U, U, U, U, U, U, U, U, U, U, U, U, U, U, U, U, U, V.bool (!decide (other = 0 ∧ frame = 0 ∧ U16 inp = 0 ∧ n = 0)), U, U, U, U, .undef], [(.loc [5], fnR4), (.loc [3], evC ⟨4, player, other, frame, inp, n⟩), (.arg 0, ctB (.arg 0) c)]⟩) (.take 0 (.take 4 (.both [(1, .both [(2, .both [(3, .both [(5, .both [(6, .take 7 (.done))])]), (5, .both [(3, .both [(6, .take 7 (.done))]), (6, .both [(3, .take 7 (.done))])])]), (5, .both [(2, .both [(3, .both [(6, .take 7 (.done))]), (6, .both [(3, .take 7 (.done))])]), (6, .both [(2, .both [(3, .take 7 (.done))])])])]), (2, .both [(1, .both [(3, .both [(5, .both [(6, .take 7 (.done))])]), (5, .both [(3, .both [(6, .take 7 (.done))]), (6, .both [(3, .take 7 (.done))])])]), (5, .both [(1, .both [(3, .both [(6, .take 7 (.done))]), (6, .both [(3, .take 7 (.done))])]), (6, .both [(1, .both [(3, .take 7 (.done))])])])]), (5, .both [(1, .both [(2, .both [(3, .both [(6, .take 7 (.done))]), (6, .both [(3, .take 7 (.done))])]), (6, .both [(2, .both [(3, .take 7 (.done))])])]), (2, .both [(1, .both [(3, .both [(6, .take 7 (.done))]), (6, .both [(3, .take 7 (.done))])]), (6, .both [(1, .both [(3, .take 7 (.done))])])]), (6, .both [(1, .both [(2, .both [(3, .take 7 (.done))])]), (2, .both [(1, .both [(3, .take 7 (.done))])])])])]))) (by kernel_rfl) (by kernel_rfl) ?_ ?_
  · refine zc ?_;try exact trivial
    repeat' (with_reducible apply And.intro)
    all_goals (
      refine a_call [] (bare4_h ⟨4, player, other, frame, inp, n⟩) ok0 ?_ ?_ ?_
      · refine zs ?_;try exact trivial
      · refine zs ?_;try exact trivial
      rintro _ _ ⟨rfl, rfl⟩
      (refine zc ?_; try exact trivial))
  refine zs ?_;try exact trivial
  refine c_b (fun d => ?_) (fun d => ?_)
  · have d' : ¬ decide (other = 0 ∧ frame = 0 ∧ U16 inp = 0 ∧ n = 0) = true := not_t d
    rw [if_neg d']
    refine zs ?_;try exact trivial
  have d' : decide (other = 0 ∧ frame = 0 ∧ U16 inp = 0 ∧ n = 0) = true := not_f d
  rw [if_pos d']
  refine zs ?_;try exact trivial
  refine a_call [.arg 0] (mayForfeit_h c ⟨4, player, other, frame, inp, n⟩) (ok1 rfl) ?_ ?_ ?_
  · refine zs ?_;try exact trivial
  · refine zs ?_;try exact trivial
  rintro _ _ ⟨rfl, rfl⟩
  refine zs ?_;try exact trivial
set_option maxHeartbeats 4000000 in
theorem may5_h (c : Ct) (player other frame n : Int) (inp : UInt16) (hw : 0 ≤ c.st.win ∧ c.st.win ≤ 2) : Holds Tryz.prog 11 [.ptr (.arg 0) 0, .ev ⟨5, player, other, frame, inp, n⟩] [(.arg 0, ctB (.arg 0) c)] (fun r h' => r = .int .i64 (mayP18 c ⟨5, player, other, frame, inp, n⟩) ∧ h' = [(.arg 0, ctB (.arg 0) c)]) := by
  have eb : bareB ⟨5, player, other, frame, inp, n⟩ = decide (other = 0 ∧ frame = 0 ∧ U16 inp = 0) := rfl
  have em : mayP18 c ⟨5, player, other, frame, inp, n⟩ = if decide (other = 0 ∧ frame = 0 ∧ U16 inp = 0) = true then mayResultP c ⟨5, player, other, frame, inp, n⟩ else 3 := by
    unfold mayP18
    rw [if_neg (by simp only; omega), eb]
    rfl
  rw [em]
  refine holds_of_awp Tryz.func11 rfl (by decide +kernel) mixed Tryz.ntmps11 Tryz.results11 ?_
  refine zE ?_
  refine zc ?_;try exact trivial
  refine a_drawC (⟨[V.cell (.ptr (.arg 0) 0), .undef, .undef, V.cell (.ptr (.loc [3]) 0), .undef, V.cell (.ptr (.loc [5]) 0), U, U, U, U, U, U, U, U, U, U, U, U, U, U, U, U, U, U, U, U, U, U, U, U, U, U, .undef], [(.loc [5], fnR5), (.loc [3], evC ⟨5, player, other, frame, inp, n⟩), (.arg 0, ctB (.arg 0) c)]⟩) (.take 1 (.both [(0, .both [(2, .take 3 (.both [(4, .both [(5, .done)])])), (4, .both [(2, .take 3 (.both [(5, .done)]))])]), (2, .both [(0, .take 3 (.both [(4, .both [(5, .done)])])), (4, .both [(0, .take 3 (.both [(5, .done)]))])]), (4, .both [(0, .both [(2, .take 3 (.both [(5, .done)]))]), (2, .both [(0, .take 3 (.both [(5, .done)]))])])])) (by kernel_rfl) (by kernel_rfl) ?_ ?_
  · refine zc ?_;try exact trivial
    repeat' (with_reducible apply And.intro)
    all_goals (
      refine a_call [] (hows_h) ok0 ?_ ?_ ?_
      · refine zs ?_;try exact trivial
      · refine zs ?_;try exact trivial
      rintro _ _ ⟨rfl, rfl⟩
      (refine zc ?_; try exact trivial))
  refine zc ?_;try exact trivial
  refine a_drawC (⟨[V.cell (.ptr (.arg 0) 0), .undef, .undef, V.cell (.ptr (.loc [3]) 0), .undef, V.cell (.ptr (.loc [5]) 0), U, U, U, U, U, U, U, U, U, U, U, U, U, U, U, U, U, U, U, U, U, V.bool (!decide (other = 0 ∧ frame = 0 ∧ U16 inp = 0)), U, U, U, U, .undef], [(.loc [5], fnR5), (.loc [3], evC ⟨5, player, other, frame, inp, n⟩), (.arg 0, ctB (.arg 0) c)]⟩) (.take 0 (.take 4 (.both [(1, .both [(2, .both [(3, .both [(5, .both [(6, .take 7 (.done))])]), (5, .both [(3, .both [(6, .take 7 (.done))]), (6, .both [(3, .take 7 (.done))])])]), (5, .both [(2, .both [(3, .both [(6, .take 7 (.done))]), (6, .both [(3, .take 7 (.done))])]), (6, .both [(2, .both [(3, .take 7 (.done))])])])]), (2, .both [(1, .both [(3, .both [(5, .both [(6, .take 7 (.done))])]), (5, .both [(3, .both [(6, .take 7 (.done))]), (6, .both [(3, .take 7 (.done))])])]), (5, .both [(1, .both [(3, .both [(6, .take 7 (.done))]), (6, .both [(3, .take 7 (.done))])]), (6, .both [(1, .both [(3, .take 7 (.done))])])])]), (5, .both [(1, .both [(2, .both [(3, .both [(6, .take 7 (.done))]), (6, .both [(3, .take 7 (.done))])]), (6, .both [(2, .both [(3, .take 7 (.done))])])]), (2, .both [(1, .both [(3, .both [(6, .take 7 (.done))]), (6, .both [(3, .take 7 (.done))])]), (6, .both [(1, .both [(3, .take 7 (.done))])])]), (6, .both [(1, .both [(2, .both [(3, .take 7 (.done))])]), (2, .both [(1, .both [(3, .take 7 (.done))])])])])]))) (by kernel_rfl) (by kernel_rfl) ?_ ?_
  · refine zc ?_;try exact trivial
    repeat' (with_reducible apply And.intro)
    all_goals (
      refine a_call [] (bare5_h ⟨5, player, other, frame, inp, n⟩) ok0 ?_ ?_ ?_
      · refine zs ?_;try exact trivial
      · refine zs ?_;try exact trivial
      rintro _ _ ⟨rfl, rfl⟩
      (refine zc ?_; try exact trivial))
  refine zs ?_;try exact trivial
  refine c_b (fun d => ?_) (fun d => ?_)
  · have d' : ¬ decide (other = 0 ∧ frame = 0 ∧ U16 inp = 0) = true := not_t d
    rw [if_neg d']
    refine zs ?_;try exact trivial
  have d' : decide (other = 0 ∧ frame = 0 ∧ U16 inp = 0) = true := not_f d
  rw [if_pos d']
  refine zs ?_;try exact trivial
  refine a_call [.arg 0] (mayResult_h c ⟨5, player, other, frame, inp, n⟩ hw) (ok1 rfl) ?_ ?_ ?_
  · refine zs ?_;try exact trivial
  · refine zs ?_;try exact trivial
  rintro _ _ ⟨rfl, rfl⟩
  refine zs ?_;try exact trivial
end
section
@[go_sem 1200] theorem evs_app {l : List Ev} {a b c d f : Int} {x : UInt16} : evs l ++ [.val (.int .i64 a), .val (.int .i64 b), .val (.int .i64 c), .val (.int .i64 d), .val (.int .u16 (U16 x)), .val (.int .i64 f)] = evs (l ++ [⟨a, b, c, d, x, f⟩]) := by
  simp [evs, evD]
def Ct.add (c : Ct) (e : Ev) : Ct := { c with events := c.events ++ [e] }
theorem applyN1_h (c : Ct) (player other frame n : Int) (inp : UInt16) (hm : mayP18 c ⟨1, player, other, frame, inp, n⟩ ≠ 0) : Holds Tryz.prog 12 [.ptr (.arg 0) 0, .ev ⟨1, player, other, frame, inp, n⟩] [(.arg 0, ctB (.arg 0) c)] (fun r h' => r = .int .i64 (mayP18 c ⟨1, player, other, frame, inp, n⟩) ∧ h' = [(.arg 0, ctB (.arg 0) c)]) := by
  refine holds_of_awp Tryz.func12 rfl (by decide +kernel) mixed Tryz.ntmps12 Tryz.results12 ?_
  refine zE ?_
  refine zs ?_;try exact trivial
  refine a_call [.arg 0] (may1_h c player other frame n inp) (ok1 rfl) ?_ ?_ ?_
  · refine zs ?_;try exact trivial
  · refine zs ?_;try exact trivial
  rintro _ _ ⟨rfl, rfl⟩
  refine zs ?_;try exact trivial
  refine c_dec (fun h => ?_) (fun h => ?_)
  · refine zs ?_;try exact trivial
  exact (h hm).elim
set_option maxHeartbeats 4000000 in
theorem applyY1_h (c c' : Ct) (player other frame n : Int) (inp : UInt16) (hm : mayP18 c ⟨1, player, other, frame, inp, n⟩ = 0) (hl : c'.events.length ≤ 1000000)
    (hd : Holds Tryz.prog 42 [.ptr (.arg 0) 0, .ev ⟨1, player, other, frame, inp, n⟩] [(.arg 0, ctB (.arg 0) c)] (fun r h' => r = .tup [] ∧ h' = [(.arg 0, ctB (.arg 0) c')])) :
    Holds Tryz.prog 12 [.ptr (.arg 0) 0, .ev ⟨1, player, other, frame, inp, n⟩] [(.arg 0, ctB (.arg 0) c)] (fun r h' => r = .int .i64 0 ∧ h' = [(.arg 0, ctB (.arg 0) (c'.add ⟨1, player, other, frame, inp, n⟩))]) := by
  refine holds_of_awp Tryz.func12 rfl (by decide +kernel) mixed Tryz.ntmps12 Tryz.results12 ?_
  refine zE ?_
  refine zs ?_;try exact trivial
  refine a_call [.arg 0] (may1_h c player other frame n inp) (ok1 rfl) ?_ ?_ ?_
  · refine zs ?_;try exact trivial
  · refine zs ?_;try exact trivial
  rintro _ _ ⟨rfl, rfl⟩
  rw [hm]
  refine zc ?_;try exact trivial
  refine a_drawC (⟨[V.cell (.ptr (.arg 0) 0), .undef, .undef, V.cell (.ptr (.loc [3]) 0), U, U, U, U, U, U, U, U, U, U, U, U, U, U, U, U, U, U, U, U, U, U, U, U, U, .undef], [(.loc [3], evC ⟨1, player, other, frame, inp, n⟩), (.arg 0, ctB (.arg 0) c')]⟩) (.take 1 (.take 5 (.both [(0, .both [(2, .take 3 (.take 4 (.both [(6, .both [(7, .done)])]))), (6, .both [(2, .take 3 (.take 4 (.both [(7, .done)])))])]), (2, .both [(0, .take 3 (.take 4 (.both [(6, .both [(7, .done)])]))), (6, .both [(0, .take 3 (.take 4 (.both [(7, .done)])))])]), (6, .both [(0, .both [(2, .take 3 (.take 4 (.both [(7, .done)])))]), (2, .both [(0, .take 3 (.take 4 (.both [(7, .done)])))])])]))) (by kernel_rfl) (by kernel_rfl) ?_ ?_
  · refine zc ?_;try exact trivial
    repeat' (with_reducible apply And.intro)
    all_goals (
      refine a_call [] (hows_h) ok0 ?_ ?_ ?_
      · refine zs ?_;try exact trivial
      · refine zs ?_;try exact trivial
      rintro _ _ ⟨rfl, rfl⟩
      refine zc ?_;try exact trivial
      refine a_call [.arg 0] (hd) (ok1 rfl) ?_ ?_ ?_
      · refine zs ?_;try exact trivial
      · refine zs ?_;try exact trivial
      rintro _ _ ⟨rfl, rfl⟩
      (refine zc ?_; try exact trivial))
  refine zc ?_;try exact trivial
  refine a_drawC (⟨[U, U, U, U, U, U, U, U, U, U, U, U, U, U, U, U, U, U, U, U, U, U, U, U, U, U, U, U, U, .undef], [(.arg 0, ctB (.arg 0) (c'.add ⟨1, player, other, frame, inp, n⟩))]⟩) (.take 0 (.take 1 (.take 2 (.take 3 (.both [(4, .both [(5, .both [(6, .both [(7, .take 8 (.take 9 (.both [(10, .done)])))])])]), (5, .both [(4, .both [(6, .both [(7, .take 8 (.take 9 (.both [(10, .done)])))])]), (6, .both [(4, .both [(7, .take 8 (.take 9 (.both [(10, .done)])))])])])]))))) (by kernel_rfl) (by kernel_rfl) ?_ ?_
  · refine zc ?_;try exact trivial
    repeat' (with_reducible apply And.intro)
    all_goals first | omega | exact leCs_refl _
  refine zc ?_;try exact trivial
theorem applyN2_h (c : Ct) (player other frame n : Int) (inp : UInt16) (hm : mayP18 c ⟨2, player, other, frame, inp, n⟩ ≠ 0) : Holds Tryz.prog 12 [.ptr (.arg 0) 0, .ev ⟨2, player, other, frame, inp, n⟩] [(.arg 0, ctB (.arg 0) c)] (fun r h' => r = .int .i64 (mayP18 c ⟨2, player, other, frame, inp, n⟩) ∧ h' = [(.arg 0, ctB (.arg 0) c)]) := by
  refine holds_of_awp Tryz.func12 rfl (by decide +kernel) mixed Tryz.ntmps12 Tryz.results12 ?_
  refine zE ?_
  refine zs ?_;try exact trivial
  refine a_call [.arg 0] (may2_h c player other frame n inp) (ok1 rfl) ?_ ?_ ?_
  · refine zs ?_;try exact trivial
  · refine zs ?_;try exact trivial
  rintro _ _ ⟨rfl, rfl⟩
  refine zs ?_;try exact trivial
  refine c_dec (fun h => ?_) (fun h => ?_)
  · refine zs ?_;try exact trivial
  exact (h hm).elim
set_option maxHeartbeats 4000000 in
theorem applyY2_h (c c' : Ct) (player other frame n : Int) (inp : UInt16) (hm : mayP18 c ⟨2, player, other, frame, inp, n⟩ = 0) (hl : c'.events.length ≤ 1000000)
    (hd : Holds Tryz.prog 45 [.ptr (.arg 0) 0, .ev ⟨2, player, other, frame, inp, n⟩] [(.arg 0, ctB (.arg 0) c)] (fun r h' => r = .tup [] ∧ h' = [(.arg 0, ctB (.arg 0) c')])) :
    Holds Tryz.prog 12 [.ptr (.arg 0) 0, .ev ⟨2, player, other, frame, inp, n⟩] [(.arg 0, ctB (.arg 0) c)] (fun r h' => r = .int .i64 0 ∧ h' = [(.arg 0, ctB (.arg 0) (c'.add ⟨2, player, other, frame, inp, n⟩))]) := by
  refine holds_of_awp Tryz.func12 rfl (by decide +kernel) mixed Tryz.ntmps12 Tryz.results12 ?_
  refine zE ?_
  refine zs ?_;try exact trivial
  refine a_call [.arg 0] (may2_h c player other frame n inp) (ok1 rfl) ?_ ?_ ?_
  · refine zs ?_;try exact trivial
  · refine zs ?_;try exact trivial
  rintro _ _ ⟨rfl, rfl⟩
  rw [hm]
  refine zc ?_;try exact trivial
  refine a_drawC (⟨[V.cell (.ptr (.arg 0) 0), .undef, .undef, V.cell (.ptr (.loc [3]) 0), U, U, U, U, U, U, U, U, U, U, U, U, U, U, U, U, U, U, U, U, U, U, U, U, U, .undef], [(.loc [3], evC ⟨2, player, other, frame, inp, n⟩), (.arg 0, ctB (.arg 0) c')]⟩) (.take 1 (.take 5 (.both [(0, .both [(2, .take 3 (.take 4 (.both [(6, .both [(7, .done)])]))), (6, .both [(2, .take 3 (.take 4 (.both [(7, .done)])))])]), (2, .both [(0, .take 3 (.take 4 (.both [(6, .both [(7, .done)])]))), (6, .both [(0, .take 3 (.take 4 (.both [(7, .done)])))])]), (6, .both [(0, .both [(2, .take 3 (.take 4 (.both [(7, .done)])))]), (2, .both [(0, .take 3 (.take 4 (.both [(7, .done)])))])])]))) (by kernel_rfl) (by kernel_rfl) ?_ ?_
  · refine zc ?_;try exact trivial
    repeat' (with_reducible apply And.intro)
    all_goals (
      refine a_call [] (hows_h) ok0 ?_ ?_ ?_
      · refine zs ?_;try exact trivial
      · refine zs ?_;try exact trivial
      rintro _ _ ⟨rfl, rfl⟩
      refine zc ?_;try exact trivial
      refine a_call [.arg 0] (hd) (ok1 rfl) ?_ ?_ ?_
      · refine zs ?_;try exact trivial
      · refine zs ?_;try exact trivial
      rintro _ _ ⟨rfl, rfl⟩
      (refine zc ?_; try exact trivial))
  refine zc ?_;try exact trivial
  refine a_drawC (⟨[U, U, U, U, U, U, U, U, U, U, U, U, U, U, U, U, U, U, U, U, U, U, U, U, U, U, U, U, U, .undef], [(.arg 0, ctB (.arg 0) (c'.add ⟨2, player, other, frame, inp, n⟩))]⟩) (.take 0 (.take 1 (.take 2 (.take 3 (.both [(4, .both [(5, .both [(6, .both [(7, .take 8 (.take 9 (.both [(10, .done)])))])])]), (5, .both [(4, .both [(6, .both [(7, .take 8 (.take 9 (.both [(10, .done)])))])]), (6, .both [(4, .both [(7, .take 8 (.take 9 (.both [(10, .done)])))])])])]))))) (by kernel_rfl) (by kernel_rfl) ?_ ?_
  · refine zc ?_;try exact trivial
    repeat' (with_reducible apply And.intro)
    all_goals first | omega | exact leCs_refl _
  refine zc ?_;try exact trivial
theorem applyN3_h (c : Ct) (player other frame n : Int) (inp : UInt16) (h0 : c.in0.length ≤ 1000000) (h1 : c.in1.length ≤ 1000000) (hm : mayP18 c ⟨3, player, other, frame, inp, n⟩ ≠ 0) : Holds Tryz.prog 12 [.ptr (.arg 0) 0, .ev ⟨3, player, other, frame, inp, n⟩] [(.arg 0, ctB (.arg 0) c)] (fun r h' => r = .int .i64 (mayP18 c ⟨3, player, other, frame, inp, n⟩) ∧ h' = [(.arg 0, ctB (.arg 0) c)]) := by
  refine holds_of_awp Tryz.func12 rfl (by decide +kernel) mixed Tryz.ntmps12 Tryz.results12 ?_
  refine zE ?_
  refine zs ?_;try exact trivial
  refine a_call [.arg 0] (may3_h c player other frame n inp h0 h1) (ok1 rfl) ?_ ?_ ?_
  · refine zs ?_;try exact trivial
  · refine zs ?_;try exact trivial
  rintro _ _ ⟨rfl, rfl⟩
  refine zs ?_;try exact trivial
  refine c_dec (fun h => ?_) (fun h => ?_)
  · refine zs ?_;try exact trivial
  exact (h hm).elim
set_option maxHeartbeats 4000000 in
theorem applyY3_h (c c' : Ct) (player other frame n : Int) (inp : UInt16) (h0 : c.in0.length ≤ 1000000) (h1 : c.in1.length ≤ 1000000) (hm : mayP18 c ⟨3, player, other, frame, inp, n⟩ = 0) (hl : c'.events.length ≤ 1000000)
    (hd : Holds Tryz.prog 48 [.ptr (.arg 0) 0, .ev ⟨3, player, other, frame, inp, n⟩] [(.arg 0, ctB (.arg 0) c)] (fun r h' => r = .tup [] ∧ h' = [(.arg 0, ctB (.arg 0) c')])) :
    Holds Tryz.prog 12 [.ptr (.arg 0) 0, .ev ⟨3, player, other, frame, inp, n⟩] [(.arg 0, ctB (.arg 0) c)] (fun r h' => r = .int .i64 0 ∧ h' = [(.arg 0, ctB (.arg 0) (c'.add ⟨3, player, other, frame, inp, n⟩))]) := by
  refine holds_of_awp Tryz.func12 rfl (by decide +kernel) mixed Tryz.ntmps12 Tryz.results12 ?_
  refine zE ?_
  refine zs ?_;try exact trivial
  refine a_call [.arg 0] (may3_h c player other frame n inp h0 h1) (ok1 rfl) ?_ ?_ ?_
  · refine zs ?_;try exact trivial
  · refine zs ?_;try exact trivial
  rintro _ _ ⟨rfl, rfl⟩
  rw [hm]
  refine zc ?_;try exact trivial
  refine a_drawC (⟨[V.cell (.ptr (.arg 0) 0), .undef, .undef, V.cell (.ptr (.loc [3]) 0), U, U, U, U, U, U, U, U, U, U, U, U, U, U, U, U, U, U, U, U, U, U, U, U, U, .undef], [(.loc [3], evC ⟨3, player, other, frame, inp, n⟩), (.arg 0, ctB (.arg 0) c')]⟩) (.take 1 (.take 5 (.both [(0, .both [(2, .take 3 (.take 4 (.both [(6, .both [(7, .done)])]))), (6, .both [(2, .take 3 (.take 4 (.both [(7, .done)])))])]), (2, .both [(0, .take 3 (.take 4 (.both [(6, .both [(7, .done)])]))), (6, .both [(0, .take 3 (.take 4 (.both [(7, .done)])))])]), (6, .both [(0, .both [(2, .take 3 (.take 4 (.both [(7, .done)])))]), (2, .both [(0, .take 3 (.take 4 (.both [(7, .done)])))])])]))) (by kernel_rfl) (by kernel_rfl) ?_ ?_
  · refine zc ?_;try exact trivial
    repeat' (with_reducible apply And.intro)
    all_goals (
      refine a_call [] (hows_h) ok0 ?_ ?_ ?_
      · refine zs ?_;try exact trivial
      · refine zs ?_;try exact trivial
      rintro _ _ ⟨rfl, rfl⟩
      refine zc ?_;try exact trivial
      refine a_call [.arg 0] (hd) (ok1 rfl) ?_ ?_ ?_
      · refine zs ?_;try exact trivial
      · refine zs ?_;try exact trivial
      rintro _ _ ⟨rfl, rfl⟩
      (refine zc ?_; try exact trivial))
  refine zc ?_;try exact trivial
  refine a_drawC (⟨[U, U, U, U, U, U, U, U, U, U, U, U, U, U, U, U, U, U, U, U, U, U, U, U, U, U, U, U, U, .undef], [(.arg 0, ctB (.arg 0) (c'.add ⟨3, player, other, frame, inp, n⟩))]⟩) (.take 0 (.take 1 (.take 2 (.take 3 (.both [(4, .both [(5, .both [(6, .both [(7, .take 8 (.take 9 (.both [(10, .done)])))])])]), (5, .both [(4, .both [(6, .both [(7, .take 8 (.take 9 (.both [(10, .done)])))])]), (6, .both [(4, .both [(7, .take 8 (.take 9 (.both [(10, .done)])))])])])]))))) (by kernel_rfl) (by kernel_rfl) ?_ ?_
  · refine zc ?_;try exact trivial
    repeat' (with_reducible apply And.intro)
    all_goals first | omega | exact leCs_refl _
  refine zc ?_;try exact trivial
theorem applyN4_h (c : Ct) (player other frame n : Int) (inp : UInt16) (hm : mayP18 c ⟨4, player, other, frame, inp, n⟩ ≠ 0) : Holds Tryz.prog 12 [.ptr (.arg 0) 0, .ev ⟨4, player, other, frame, inp, n⟩] [(.arg 0, ctB (.arg 0) c)] (fun r h' => r = .int .i64 (mayP18 c ⟨4, player, other, frame, inp, n⟩) ∧ h' = [(.arg 0, ctB (.arg 0) c)]) := by
  refine holds_of_awp Tryz.func12 rfl (by decide +kernel) mixed Tryz.ntmps12 Tryz.results12 ?_
  refine zE ?_
  refine zs ?_;try exact trivial
  refine a_call [.arg 0] (may4_h c player other frame n inp) (ok1 rfl) ?_ ?_ ?_
  · refine zs ?_;try exact trivial
  · refine zs ?_;try exact trivial
  rintro _ _ ⟨rfl, rfl⟩
  refine zs ?_;try exact trivial
  refine c_dec (fun h => ?_) (fun h => ?_)
  · refine zs ?_;try exact trivial
  exact (h hm).elim
set_option maxHeartbeats 4000000 in
theorem applyY4_h (c c' : Ct) (player other frame n : Int) (inp : UInt16) (hm : mayP18 c ⟨4, player, other, frame, inp, n⟩ = 0) (hl : c'.events.length ≤ 1000000)
    (hd : Holds Tryz.prog 51 [.ptr (.arg 0) 0, .ev ⟨4, player, other, frame, inp, n⟩] [(.arg 0, ctB (.arg 0) c)] (fun r h' => r = .tup [] ∧ h' = [(.arg 0, ctB (.arg 0) c')])) :
    Holds Tryz.prog 12 [.ptr (.arg 0) 0, .ev ⟨4, player, other, frame, inp, n⟩] [(.arg 0, ctB (.arg 0) c)] (fun r h' => r = .int .i64 0 ∧ h' = [(.arg 0, ctB (.arg 0) (c'.add ⟨4, player, other, frame, inp, n⟩))]) := by
  refine holds_of_awp Tryz.func12 rfl (by decide +kernel) mixed Tryz.ntmps12 Tryz.results12 ?_
  refine zE ?_
  refine zs ?_;try exact trivial
  refine a_call [.arg 0] (may4_h c player other frame n inp) (ok1 rfl) ?_ ?_ ?_
  · refine zs ?_;try exact trivial
  · refine zs ?_;try exact trivial
  rintro _ _ ⟨rfl, rfl⟩
  rw [hm]
  refine zc ?_;try exact trivial
  refine a_drawC (⟨[V.cell (.ptr (.arg 0) 0), .undef, .undef, V.cell (.ptr (.loc [3]) 0), U, U, U, U, U, U, U, U, U, U, U, U, U, U, U, U, U, U, U, U, U, U, U, U, U, .undef], [(.loc [3], evC ⟨4, player, other, frame, inp, n⟩), (.arg 0, ctB (.arg 0) c')]⟩) (.take 1 (.take 5 (.both [(0, .both [(2, .take 3 (.take 4 (.both [(6, .both [(7, .done)])]))), (6, .both [(2, .take 3 (.take 4 (.both [(7, .done)])))])]), (2, .both [(0, .take 3 (.take 4 (.both [(6, .both [(7, .done)])]))), (6, .both [(0, .take 3 (.take 4 (.both [(7, .done)])))])]), (6, .both [(0, .both [(2, .take 3 (.take 4 (.both [(7, .done)])))]), (2, .both [(0, .take 3 (.take 4 (.both [(7, .done)])))])])]))) (by kernel_rfl) (by kernel_rfl) ?_ ?_
  · refine zc ?_;try exact trivial
    repeat' (with_reducible apply And.intro)
    all_goals (
      refine a_call [] (hows_h) ok0 ?_ ?_ ?_
      · refine zs ?_;try exact trivial
      · refine zs ?_;try exact trivial
      rintro _ _ ⟨rfl, rfl⟩
      refine zc ?_;try exact trivial
      refine a_call [.arg 0] (hd) (ok1 rfl) ?_ ?_ ?_
      · refine zs ?_;try exact trivial
      · refine zs ?_;try exact trivial
      rintro _ _ ⟨rfl, rfl⟩
      (refine zc ?_; try exact trivial))
  refine zc ?_;try exact trivial
  refine a_drawC (⟨[U, U, U, U, U, U, U, U, U, U, U, U, U, U, U, U, U, U, U, U, U, U, U, U, U, U, U, U, U, .undef], [(.arg 0, ctB (.arg 0) (c'.add ⟨4, player, other, frame, inp, n⟩))]⟩) (.take 0 (.take 1 (.take 2 (.take 3 (.both [(4, .both [(5, .both [(6, .both [(7, .take 8 (.take 9 (.both [(10, .done)])))])])]), (5, .both [(4, .both [(6, .both [(7, .take 8 (.take 9 (.both [(10, .done)])))])]), (6, .both [(4, .both [(7, .take 8 (.take 9 (.both [(10, .done)])))])])])]))))) (by kernel_rfl) (by kernel_rfl) ?_ ?_
  · refine zc ?_;try exact trivial
    repeat' (with_reducible apply And.intro)
    all_goals first | omega | exact leCs_refl _
  refine zc ?_;try exact trivial
theorem applyN5_h (c : Ct) (player other frame n : Int) (inp : UInt16) (hw : 0 ≤ c.st.win ∧ c.st.win ≤ 2) (hm : mayP18 c ⟨5, player, other, frame, inp, n⟩ ≠ 0) : Holds Tryz.prog 12 [.ptr (.arg 0) 0, .ev ⟨5, player, other, frame, inp, n⟩] [(.arg 0, ctB (.arg 0) c)] (fun r h' => r = .int .i64 (mayP18 c ⟨5, player, other, frame, inp, n⟩) ∧ h' = [(.arg 0, ctB (.arg 0) c)]) := by
  refine holds_of_awp Tryz.func12 rfl (by decide +kernel) mixed Tryz.ntmps12 Tryz.results12 ?_
  refine zE ?_
  refine zs ?_;try exact trivial
  refine a_call [.arg 0] (may5_h c player other frame n inp hw) (ok1 rfl) ?_ ?_ ?_
  · refine zs ?_;try exact trivial
  · refine zs ?_;try exact trivial
  rintro _ _ ⟨rfl, rfl⟩
  refine zs ?_;try exact trivial
  refine c_dec (fun h => ?_) (fun h => ?_)
  · refine zs ?_;try exact trivial
  exact (h hm).elim
set_option maxHeartbeats 4000000 in
theorem applyY5_h (c c' : Ct) (player other frame n : Int) (inp : UInt16) (hw : 0 ≤ c.st.win ∧ c.st.win ≤ 2) (hm : mayP18 c ⟨5, player, other, frame, inp, n⟩ = 0) (hl : c'.events.length ≤ 1000000)
    (hd : Holds Tryz.prog 54 [.ptr (.arg 0) 0, .ev ⟨5, player, other, frame, inp, n⟩] [(.arg 0, ctB (.arg 0) c)] (fun r h' => r = .tup [] ∧ h' = [(.arg 0, ctB (.arg 0) c')])) :
    Holds Tryz.prog 12 [.ptr (.arg 0) 0, .ev ⟨5, player, other, frame, inp, n⟩] [(.arg 0, ctB (.arg 0) c)] (fun r h' => r = .int .i64 0 ∧ h' = [(.arg 0, ctB (.arg 0) (c'.add ⟨5, player, other, frame, inp, n⟩))]) := by
  refine holds_of_awp Tryz.func12 rfl (by decide +kernel) mixed Tryz.ntmps12 Tryz.results12 ?_
  refine zE ?_
  refine zs ?_;try exact trivial
  refine a_call [.arg 0] (may5_h c player other frame n inp hw) (ok1 rfl) ?_ ?_ ?_
  · refine zs ?_;try exact trivial
  · refine zs ?_;try exact trivial
  rintro _ _ ⟨rfl, rfl⟩
  rw [hm]
  refine zc ?_;try exact trivial
  refine a_drawC (⟨[V.cell (.ptr (.arg 0) 0), .undef, .undef, V.cell (.ptr (.loc [3]) 0), U, U, U, U, U, U, U, U, U, U, U, U, U, U, U, U, U, U, U, U, U, U, U, U, U, .undef], [(.loc [3], evC ⟨5, player, other, frame, inp, n⟩), (.arg 0, ctB (.arg 0) c')]⟩) (.take 1 (.take 5 (.both [(0, .both [(2, .take 3 (.take 4 (.both [(6, .both [(7, .done)])]))), (6, .both [(2, .take 3 (.take 4 (.both [(7, .done)])))])]), (2, .both [(0, .take 3 (.take 4 (.both [(6, .both [(7, .done)])]))), (6, .both [(0, .take 3 (.take 4 (.both [(7, .done)])))])]), (6, .both [(0, .both [(2, .take 3 (.take 4 (.both [(7, .done)])))]), (2, .both [(0, .take 3 (.take 4 (.both [(7, .done)])))])])]))) (by kernel_rfl) (by kernel_rfl) ?_ ?_
  · refine zc ?_;try exact trivial
    repeat' (with_reducible apply And.intro)
    all_goals (
      refine a_call [] (hows_h) ok0 ?_ ?_ ?_
      · refine zs ?_;try exact trivial
      · refine zs ?_;try exact trivial
      rintro _ _ ⟨rfl, rfl⟩
      refine zc ?_;try exact trivial
      refine a_call [.arg 0] (hd) (ok1 rfl) ?_ ?_ ?_
      · refine zs ?_;try exact trivial
      · refine zs ?_;try exact trivial
      rintro _ _ ⟨rfl, rfl⟩
      (refine zc ?_; try exact trivial))
  refine zc ?_;try exact trivial
  refine a_drawC (⟨[U, U, U, U, U, U, U, U, U, U, U, U, U, U, U, U, U, U, U, U, U, U, U, U, U, U, U, U, U, .undef], [(.arg 0, ctB (.arg 0) (c'.add ⟨5, player, other, frame, inp, n⟩))]⟩) (.take 0 (.take 1 (.take 2 (.take 3 (.both [(4, .both [(5, .both [(6, .both [(7, .take 8 (.take 9 (.both [(10, .done)])))])])]), (5, .both [(4, .both [(6, .both [(7, .take 8 (.take 9 (.both [(10, .done)])))])]), (6, .both [(4, .both [(7, .take 8 (.take 9 (.both [(10, .done)])))])])])]))))) (by kernel_rfl) (by kernel_rfl) ?_ ?_
  · refine zc ?_;try exact trivial
    repeat' (with_reducible apply And.intro)
    all_goals first | omega | exact leCs_refl _
  refine zc ?_;try exact trivial
end
section
@[go_sem] theorem l_no1 {sz : Nat} (h : 0 < sz) : leC (.lst .no none sz []) (.lst .full (some true) 1 []) = True := eq_true (by simp [leC, h])
def k18e1 : Ev := ⟨1, 7, 9, 0, 0, 0⟩
def k18e2 : Ev := ⟨3, 7, 0, 0, 0, 0⟩
def k18a : Ct := (openP (ctNew [] 5 5) k18e1).add k18e1
def k18b : Ct := (inputP0 k18a k18e2).add k18e2
theorem k18_g : gameP [] 5 5 = 0 := by decide
theorem k18_1 : mayP18 (ctNew [] 5 5) ⟨1, 7, 9, 0, 0, 0⟩ = 0 := by decide
theorem k18_2 : mayP18 k18a ⟨3, 7, 0, 0, 0, 0⟩ = 0 := by decide
theorem k18_3 : owesP k18b 7 = false := by decide
theorem k18_4 : owesP k18b 9 = true := by decide
theorem k18_5 : k18b.events.length = 2 := rfl
set_option maxRecDepth 20000 in
set_option maxHeartbeats 4000000 in
theorem known_h18 : Holds Tryz.prog 8 [] [] (fun r h' => r = V.bool true ∧ h' = []) := by
  have hA := applyY1_h (ctNew [] 5 5) (openP (ctNew [] 5 5) k18e1) 7 9 0 0 0 k18_1 (by decide) (open_h (ctNew [] 5 5) k18e1 (by decide))
  have hB := applyY3_h k18a (inputP0 k18a k18e2) 7 0 0 0 0 (by decide) (by decide) k18_2 (by decide) (input0_h k18a k18e2 (by decide) (by decide) (by decide) rfl rfl)
  have e1 : (openP (ctNew [] 5 5) k18e1).add ⟨1, 7, 9, 0, 0, 0⟩ = k18a := rfl
  have e2 : (inputP0 k18a k18e2).add ⟨3, 7, 0, 0, 0, 0⟩ = k18b := rfl
  have eO7 := k18_3
  have eO9 := k18_4
  have eL := k18_5
  rw [e1] at hA
  rw [e2] at hB
  have hn := new_ok18 [] 5 5 (by decide) k18_g
  generalize ctNew [] 5 5 = c0 at hA hn
  generalize k18a = c1 at hA hB
  generalize k18b = c2 at hB eO7 eO9 eL
  refine holds_of_awp Tryz.func8 rfl (by decide +kernel) mixed Tryz.ntmps8 Tryz.results8 ?_
  refine zE ?_
  refine zs ?_;try exact trivial
  refine a_call [] (hn) ok0 ?_ ?_ ?_
  · refine zs ?_;try exact trivial
  · refine zs ?_;try exact trivial
  rintro _ _ ⟨rfl, rfl⟩
  refine zc ?_;try exact trivial
  refine a_call [.loc [5, 0, 14]] (hA) (ok1 rfl) ?_ ?_ ?_
  · refine zs ?_;try exact trivial
  · refine zs ?_;try exact trivial
  rintro _ _ ⟨rfl, rfl⟩
  refine zc ?_;try exact trivial
  refine a_call [.loc [5, 0, 14]] (hB) (ok1 rfl) ?_ ?_ ?_
  · refine zs ?_;try exact trivial
  · refine zs ?_;try exact trivial
  rintro _ _ ⟨rfl, rfl⟩
  refine zc ?_;try exact trivial
  refine a_call [.loc [5, 0, 14]] (owes_h c2 7) (ok1 rfl) ?_ ?_ ?_
  · refine zs ?_;try exact trivial
  · refine zs ?_;try exact trivial
  rintro _ _ ⟨rfl, rfl⟩
  simp (maxSteps:=2000000) (disch:=omega) only [go_sem,Nat.reduceAdd,Nat.reduceSub,Nat.reduceMul,Nat.reduceBEq,Nat.reduceEqDiff,Nat.reduceLT,Nat.reduceLeDiff,Nat.reduceDiv,reduceIte,reduceCtorEq, eO7]
  refine a_call [.loc [5, 0, 14]] (owes_h c2 9) (ok1 rfl) ?_ ?_ ?_
  · refine zs ?_;try exact trivial
  · refine zs ?_;try exact trivial
  rintro _ _ ⟨rfl, rfl⟩
  simp (maxSteps:=2000000) (disch:=omega) only [go_sem,Nat.reduceAdd,Nat.reduceSub,Nat.reduceMul,Nat.reduceBEq,Nat.reduceEqDiff,Nat.reduceLT,Nat.reduceLeDiff,Nat.reduceDiv,reduceIte,reduceCtorEq, eO9]
  refine a_call [.loc [5, 0, 14]] (events_h c2 (by omega)) (ok1 rfl) ?_ ?_ ?_
  · refine zs ?_;try exact trivial
  · refine zs ?_;try exact trivial
  rintro _ _ ⟨rfl, rfl⟩
  simp (maxSteps:=2000000) (disch:=omega) only [go_sem,Nat.reduceAdd,Nat.reduceSub,Nat.reduceMul,Nat.reduceBEq,Nat.reduceEqDiff,Nat.reduceLT,Nat.reduceLeDiff,Nat.reduceDiv,reduceIte,reduceCtorEq, eL]
end
section
section
variable {code : List (Int × Int)} {cap fuel p0 p1 : Int} {i0 i1 : List UInt16} {ps : List (UInt16 × UInt16)} {st : Sta} {k : Nat} {c : Ct}
end
end
section
/-- the plain fold of the game over pairs of inputs -/
def foS (code : List (Int × Int)) (cap fuel : Int) (s : Sta) (f : Nat → UInt16 × UInt16) : Nat → Sta
  | 0 => s
  | n + 1 => (stepP code cap fuel (foS code cap fuel s f n) (f n).1 (f n).2).1
section
variable {code : List (Int × Int)} {cap fuel : Int} {s : Sta} {f g : Nat → UInt16 × UInt16}
theorem foS_congr : ∀ {n : Nat}, (∀ j, j < n → f j = g j) → foS code cap fuel s f n = foS code cap fuel s g n
  | 0, _ => rfl
  | n + 1, h => by
    show (stepP code cap fuel (foS code cap fuel s f n) (f n).1 (f n).2).1 = _
    rw [foS_congr fun j hj => h j (by omega), h n (by omega)]; rfl
theorem foS_B (hB : ∀ x ∈ s.cells, B32 x) : ∀ n, ∀ x ∈ (foS code cap fuel s f n).cells, B32 x
  | 0 => hB
  | n + 1 => step_B32 _ _ _ _ _ _ (foS_B hB n)
end
theorem start_B (seed : UInt32) : ∀ x ∈ (startS seed).cells, B32 x := fun x hx => by
  have : x = 0 := List.eq_of_mem_replicate hx
  rw [this]; exact B32_0
def pz (a b : List UInt16) (j : Nat) : UInt16 × UInt16 := (a.getD j 0, b.getD j 0)
def pzs (a b : List UInt16) (m : Nat) : List (UInt16 × UInt16) := (List.range m).map (pz a b)
theorem pzs_len {a b : List UInt16} {m : Nat} : (pzs a b m).length = m := by simp [pzs]
theorem pzs_succ {a b : List UInt16} {m : Nat} : pzs a b (m + 1) = pzs a b m ++ [pz a b m] := by simp [pzs, List.range_succ]
section
variable {code : List (Int × Int)} {cap fuel : Int} {seed : UInt32} {a b : List UInt16} {i k : Nat} {c : Ct}
end
end
section
def gp (ps : List (UInt16 × UInt16)) (j : Nat) : UInt16 × UInt16 := ps.getD j (0, 0)
def foL (code : List (Int × Int)) (cap fuel : Int) (s : Sta) (f : Nat → UInt16 × UInt16) (n : Nat) : List Sta := (List.range (n + 1)).map (foS code cap fuel s f)
theorem foL_succ {code : List (Int × Int)} {cap fuel : Int} {s : Sta} {f : Nat → UInt16 × UInt16} {n : Nat} : foL code cap fuel s f (n + 1) = foL code cap fuel s f n ++ [foS code cap fuel s f (n + 1)] := by
  unfold foL; rw [List.range_succ (n := n + 1), List.map_append]; rfl
theorem foL_len {code : List (Int × Int)} {cap fuel : Int} {s : Sta} {f : Nat → UInt16 × UInt16} {n : Nat} : (foL code cap fuel s f n).length = n + 1 := by simp [foL]
theorem foL_last {code : List (Int × Int)} {cap fuel : Int} {s : Sta} {f : Nat → UInt16 × UInt16} {n : Nat} {d : Sta} : (foL code cap fuel s f n).getD n d = foS code cap fuel s f n := by
  unfold foL; rw [List.getD_eq_getElem?_getD]; simp
theorem prs_drop (l : List (UInt16 × UInt16)) (k : Nat) : (prs l).drop (k * 2) = prs (l.drop k) := by
  induction l generalizing k with
  | nil => simp [prs]
  | cons s l ih =>
    cases k with
    | zero => simp [prs]
    | succ k =>
      have e : prs (s :: l) = prD s ++ prs l := by simp [prs]
      have e2 : (prD s).length = 2 := rfl
      rw [e, List.drop_succ_cons, List.drop_append, e2, List.drop_eq_nil_of_le (by rw [e2]; omega), show (k + 1) * 2 - 2 = k * 2 by omega, ih]; rfl
theorem prs_at {l : List (UInt16 × UInt16)} {k : Nat} (h : k < l.length) : (prs l).drop (k * 2) = prD (gp l k) ++ prs (l.drop (k + 1)) := by
  have e : gp l k = l[k] := by simp [gp, List.getD, h]
  rw [prs_drop, List.drop_eq_getElem_cons h, e]
  rfl
@[go_sem ↓ 1200] theorem e_IAs2 {V' : V → Prop} {l : List Sta} {o : Own} {nl : Option Bool} {a : Int} {t : TypeId} (h0 : 0 ≤ a) (h1 : a < l.length) : aIA (some (none, t, 20)) (.cell (.lst o nl 20 (sds l))) a V' = V' (.cell (.mem (sd (l.getD a.toNat (stz 0 0)) ++ sds (l.drop (a.toNat + 1))))) := e_IAs (d := stz 0 0) h0 h1
/-- who owns the row of states -/
def tgS : Nat → Tag
  | 0 => .made [20]
  | _ + 1 => .slot [45]
@[go_sem ↓ 1200] theorem e_IApr {V' : V → Prop} {l : List (UInt16 × UInt16)} {o : Own} {nl : Option Bool} {a : Int} {t : TypeId} (h0 : 0 ≤ a) (h1 : a < l.length) : aIA (some (none, t, 2)) (.cell (.lst o nl 2 (prs l))) a V' = V' (.cell (.mem (.val (.int .u16 (U16 (gp l a.toNat).1)) :: .val (.int .u16 (U16 (gp l a.toNat).2)) :: prs (l.drop (a.toNat + 1))))) := by
  have h2 : a.toNat < l.length := by omega
  have e : (.val (.int .u16 (U16 (gp l a.toNat).1)) :: .val (.int .u16 (U16 (gp l a.toNat).2)) :: prs (l.drop (a.toNat + 1)) : List D) = prD (gp l a.toNat) ++ prs (l.drop (a.toNat + 1)) := rfl
  rw [e, ← prs_at h2]
  simp only [aIA, prs_len, h0, true_and]
  have : a * ((2 : Nat) : Int) < ((l.length * 2 : Nat) : Int) := by omega
  simp only [this, true_and]
set_option maxRecDepth 20000 in
set_option maxHeartbeats 16000000 in
theorem rstates_h (code : List (Int × Int)) (cap fuel : Int) (seed : UInt32) (ps : List (UInt16 × UInt16)) (hcl : code.length ≤ 9223372036854775807) (hg : gameP code cap fuel = 0) (hl : ps.length ≤ 1000000)
    (no : ∀ j, j < ps.length → (foS code cap fuel (startS seed) (gp ps) j).over = false) :
    Holds Tryz.prog 64 [.game code cap fuel, .c (.val (.int .u32 (U32 seed))), .c (.lst .no none 2 (prs ps))] [] (fun r h' => r = .tup [.c (.lst .no none 20 (sds (foL code cap fuel (startS seed) (gp ps) ps.length))), .int .i64 0] ∧ h' = []) := by
  have hgc := rcheck10_h code cap fuel hcl
  rw [hg] at hgc
  have hst := rstart_h seed
  refine holds_of_awp Tryz.func64 rfl (by decide +kernel) mixed Tryz.ntmps64 Tryz.results64 ?_
  refine zE ?_
  refine zc ?_;try exact trivial
  refine a_call [] (hgc) ok0 ?_ ?_ ?_
  · refine zs ?_;try exact trivial
  · refine zs ?_;try exact trivial
  rintro _ _ ⟨rfl, rfl⟩
  refine zc ?_;try exact trivial
  refine a_call [] (hst) ok0 ?_ ?_ ?_
  · refine zs ?_;try exact trivial
  · refine zs ?_;try exact trivial
  rintro _ _ ⟨rfl, rfl⟩
  refine zc ?_;try exact trivial
  refine a_loopk (fun i : Nat => ⟨[.undef, .w (.c (.val (.int .u32 (U32 seed)))), V.cell (.lst .no none 2 (prs ps)), V.cell (.ptr (.loc [3]) 0), .undef, .undef, V.cell (.lst .full (some true) 1 []), V.int .i64 0, .undef, V.cell (.ptr (.loc [9]) 0), V.cell (.lst (.tag (tgS i)) none 20 (sds (foL code cap fuel (startS seed) (gp ps) i))), V.int .i64 (i : Int), U, U, U, U, U, U, U, U, U, U, U, U, U, U, U, U, U, U, U, U, U, U, U, U, U, U, U, U, U, U, U, U, U, U, .undef], [(.loc [9], (sd (foS code cap fuel (startS seed) (gp ps) i)).map D.toC), (.loc [3], [.lst .no none 2 (ins code), .val (.int .i64 cap), .val (.int .i64 fuel)])]⟩) (fun i => i ≤ ps.length) (fun i => ps.length - i) 0 (by omega) ?_ ?_
  · have e : sds (foL code cap fuel (startS seed) (gp ps) 0) = sd (startS seed) := by simp [foL, sds, foS]
    have e2 : foS code cap fuel (startS seed) (gp ps) 0 = startS seed := rfl
    rw [e, e2]
    simp only [tgS]
    refine zs ?_;try exact trivial
  intro i hi
  cases i with
  | zero =>
    rw [show tgS (0) = .made [20] from rfl]
    refine zs ?_;try exact trivial
    cases g : decide ((0 : Int) < (ps.length : Int))
    · have e : ps.length = 0 := by have := of_decide_eq_false g; omega
      rw [e]
      simp (maxSteps:=2000000) (disch:=omega) only [go_sem,Nat.reduceAdd,Nat.reduceSub,Nat.reduceMul,Nat.reduceBEq,Nat.reduceEqDiff,Nat.reduceLT,Nat.reduceLeDiff,Nat.reduceDiv,reduceIte,reduceCtorEq, g]
    have g' := of_decide_eq_true g
    have ho := no (0) (by omega)
    have hlt : 0 < ps.length := by omega
    have hB : ∀ x ∈ (foS code cap fuel (startS seed) (gp ps) (0)).cells, B32 x := foS_B (start_B seed) _
    simp (maxSteps:=2000000) (disch:=omega) only [go_sem,Nat.reduceAdd,Nat.reduceSub,Nat.reduceMul,Nat.reduceBEq,Nat.reduceEqDiff,Nat.reduceLT,Nat.reduceLeDiff,Nat.reduceDiv,reduceIte,reduceCtorEq, g, ho, Bool.not_false]
    refine a_drawC (⟨[.undef, .w (.c (.val (.int .u32 (U32 seed)))), V.cell (.lst .no none 2 (prs ps)), V.cell (.ptr (.loc [3]) 0), .undef, .undef, V.cell (.lst .full (some true) 1 []), V.int .i64 0, .undef, V.cell (.ptr (.loc [9]) 0), V.cell (.lst (.tag (.made [20])) none 20 (sds (foL code cap fuel (startS seed) (gp ps) (0)))), V.int .i64 ((0 : Int)), U, U, U, U, U, U, U, U, U, U, U, U, U, U, U, U, U, U, U, U, U, U, U, U, U, U, U, U, U, U, U, U, U, U, .undef], [(.loc [9], (sd ((stepP code cap fuel (foS code cap fuel (startS seed) (gp ps) (0)) (gp ps (0)).1 (gp ps (0)).2).1)).map D.toC), (.loc [3], [.lst .no none 2 (ins code), .val (.int .i64 cap), .val (.int .i64 fuel)])]⟩) (.take 2 (.take 3 (.take 4 (.both [(0, .both [(1, .both [(5, .both [(6, .take 7 (.take 8 (.take 9 (.both [(10, .done)]))))])]), (5, .both [(1, .both [(6, .take 7 (.take 8 (.take 9 (.both [(10, .done)]))))])])]), (1, .both [(0, .both [(5, .both [(6, .take 7 (.take 8 (.take 9 (.both [(10, .done)]))))])]), (5, .both [(0, .both [(6, .take 7 (.take 8 (.take 9 (.both [(10, .done)]))))])])]), (5, .both [(0, .both [(1, .both [(6, .take 7 (.take 8 (.take 9 (.both [(10, .done)]))))])]), (1, .both [(0, .both [(6, .take 7 (.take 8 (.take 9 (.both [(10, .done)]))))])])])])))) (by kernel_rfl) (by kernel_rfl) ?_ ?_
    · refine zc ?_;try exact trivial
      have hstep := rstep_h code cap fuel (foS code cap fuel (startS seed) (gp ps) (0)) (gp ps (0)).1 (gp ps (0)).2 hcl hB
      refine a_call [] hstep ok0 ?_ ?_ ?_
      · refine zs ?_;try exact trivial
        all_goals (rw [show ((0 : Int)).toNat = 0 by omega]; exact ⟨rfl, rfl⟩)
      · refine zs ?_;try exact trivial
      rintro _ _ ⟨rfl, rfl⟩
      refine zc ?_;try exact trivial
      all_goals exact leCs_refl _
    refine zc ?_;try exact trivial
    refine ⟨by rw [foL_len]; omega, 0 + 1, by omega, by omega, ?_⟩
    rw [show tgS (0 + 1) = .slot [45] from rfl]
    rw [foL_succ]
    try (refine zc ?_; try exact trivial)
    all_goals exact ⟨rfl, leCs_refl _⟩
  | succ i =>
    rw [show tgS (i + 1) = .slot [45] from rfl]
    refine zs ?_;try exact trivial
    cases g : decide ((i : Int) + 1 < (ps.length : Int))
    · have e : ps.length = i + 1 := by have := of_decide_eq_false g; omega
      rw [e]
      simp (maxSteps:=2000000) (disch:=omega) only [go_sem,Nat.reduceAdd,Nat.reduceSub,Nat.reduceMul,Nat.reduceBEq,Nat.reduceEqDiff,Nat.reduceLT,Nat.reduceLeDiff,Nat.reduceDiv,reduceIte,reduceCtorEq, g]
    have g' := of_decide_eq_true g
    have ho := no (i + 1) (by omega)
    have hlt : i + 1 < ps.length := by omega
    have hB : ∀ x ∈ (foS code cap fuel (startS seed) (gp ps) (i + 1)).cells, B32 x := foS_B (start_B seed) _
    simp (maxSteps:=2000000) (disch:=omega) only [go_sem,Nat.reduceAdd,Nat.reduceSub,Nat.reduceMul,Nat.reduceBEq,Nat.reduceEqDiff,Nat.reduceLT,Nat.reduceLeDiff,Nat.reduceDiv,reduceIte,reduceCtorEq, g, ho, Bool.not_false]
    refine a_drawC (⟨[.undef, .w (.c (.val (.int .u32 (U32 seed)))), V.cell (.lst .no none 2 (prs ps)), V.cell (.ptr (.loc [3]) 0), .undef, .undef, V.cell (.lst .full (some true) 1 []), V.int .i64 0, .undef, V.cell (.ptr (.loc [9]) 0), V.cell (.lst (.tag (.slot [45])) none 20 (sds (foL code cap fuel (startS seed) (gp ps) (i + 1)))), V.int .i64 ((i : Int) + 1), U, U, U, U, U, U, U, U, U, U, U, U, U, U, U, U, U, U, U, U, U, U, U, U, U, U, U, U, U, U, U, U, U, U, .undef], [(.loc [9], (sd ((stepP code cap fuel (foS code cap fuel (startS seed) (gp ps) (i + 1)) (gp ps (i + 1)).1 (gp ps (i + 1)).2).1)).map D.toC), (.loc [3], [.lst .no none 2 (ins code), .val (.int .i64 cap), .val (.int .i64 fuel)])]⟩) (.take 2 (.take 3 (.take 4 (.both [(0, .both [(1, .both [(5, .both [(6, .take 7 (.take 8 (.take 9 (.both [(10, .done)]))))])]), (5, .both [(1, .both [(6, .take 7 (.take 8 (.take 9 (.both [(10, .done)]))))])])]), (1, .both [(0, .both [(5, .both [(6, .take 7 (.take 8 (.take 9 (.both [(10, .done)]))))])]), (5, .both [(0, .both [(6, .take 7 (.take 8 (.take 9 (.both [(10, .done)]))))])])]), (5, .both [(0, .both [(1, .both [(6, .take 7 (.take 8 (.take 9 (.both [(10, .done)]))))])]), (1, .both [(0, .both [(6, .take 7 (.take 8 (.take 9 (.both [(10, .done)]))))])])])])))) (by kernel_rfl) (by kernel_rfl) ?_ ?_
    · refine zc ?_;try exact trivial
      have hstep := rstep_h code cap fuel (foS code cap fuel (startS seed) (gp ps) (i + 1)) (gp ps (i + 1)).1 (gp ps (i + 1)).2 hcl hB
      refine a_call [] hstep ok0 ?_ ?_ ?_
      · refine zs ?_;try exact trivial
        all_goals (rw [show ((i : Int) + 1).toNat = i + 1 by omega]; exact ⟨rfl, rfl⟩)
      · refine zs ?_;try exact trivial
      rintro _ _ ⟨rfl, rfl⟩
      refine zc ?_;try exact trivial
      all_goals exact leCs_refl _
    refine zc ?_;try exact trivial
    refine ⟨by rw [foL_len]; omega, i + 1 + 1, by omega, by omega, ?_⟩
    rw [show tgS (i + 1 + 1) = .slot [45] from rfl]
    rw [foL_succ]
    try (refine zc ?_; try exact trivial)
    all_goals exact ⟨rfl, leCs_refl _⟩
-- END ROUND
set_option maxRecDepth 20000 in
set_option maxHeartbeats 16000000 in
theorem rplay_h (code : List (Int × Int)) (cap fuel : Int) (seed : UInt32) (ps : List (UInt16 × UInt16)) (hcl : code.length ≤ 9223372036854775807) (hg : gameP code cap fuel = 0) (hl : ps.length ≤ 1000000)
    (no : ∀ j, j < ps.length → (foS code cap fuel (startS seed) (gp ps) j).over = false) :
    Holds Tryz.prog 40 [.game code cap fuel, .c (.val (.int .u32 (U32 seed))), .c (.lst .no none 2 (prs ps))] [] (fun r h' => r = .tup [.agg ((sd (foS code cap fuel (startS seed) (gp ps) ps.length)).map D.toC), .int .i64 0] ∧ h' = []) := by
  have hs := rstates_h code cap fuel seed ps hcl hg hl no
  have hL : (foL code cap fuel (startS seed) (gp ps) ps.length).length = ps.length + 1 := foL_len
  have hx : (foL code cap fuel (startS seed) (gp ps) ps.length).getD ps.length (stz 0 0) = foS code cap fuel (startS seed) (gp ps) ps.length := foL_last
  refine holds_of_awp Tryz.func40 rfl (by decide +kernel) mixed Tryz.ntmps40 Tryz.results40 ?_
  refine zE ?_
  generalize foL code cap fuel (startS seed) (gp ps) ps.length = L at hs hL hx
  refine zc ?_;try exact trivial
  refine a_call [] (hs) ok0 ?_ ?_ ?_
  · refine zs ?_;try exact trivial
  · refine zs ?_;try exact trivial
  rintro _ _ ⟨rfl, rfl⟩
  have hz : ((L.length : Int) - 1).toNat = ps.length := by omega
  simp (maxSteps:=2000000) (disch:=omega) only [go_sem,Nat.reduceAdd,Nat.reduceSub,Nat.reduceMul,Nat.reduceBEq,Nat.reduceEqDiff,Nat.reduceLT,Nat.reduceLeDiff,Nat.reduceDiv,reduceIte,reduceCtorEq, hz, hx]
  all_goals omega
end
section
/-- the winner is a seat, or none -/
structure okW (r : Rac) : Prop where
  won : r.won ≤ 2
  win : r.st.win = 0
theorem okW.push {r : Rac} (h : okW r) {x : Int} : okW (rpushM r x) := by
  unfold rpushM
  split <;> exact ⟨h.won, h.win⟩
theorem okW.pop {r : Rac} (h : okW r) : okW (rpopM r) := ⟨h.won, h.win⟩
theorem okW.do {n op arg : Int} {r : Rac} (h : okW r) (hm : mayP op arg n = true) : okW (rdoM op arg r) := by
  obtain ⟨ho, h1, h2, h16, h18, h20⟩ := mayP_arg hm
  have i : okW (incR r) := ⟨h.won, h.win⟩
  unfold rdoM
  split
  · exact ⟨h.won, h.win⟩
  rcases op_cases ho with rfl | rfl | rfl | rfl | rfl | rfl | rfl | rfl | rfl | rfl | rfl | rfl | rfl | rfl | rfl | rfl | rfl | rfl | rfl | rfl | rfl | rfl
  · exact i.push
  · exact i.push
  · exact ⟨h.won, h.win⟩
  · exact i.pop.pop.push
  · exact i.pop.pop.push
  · exact i.pop.pop.push
  · exact i.pop.pop.push
  · exact i.pop.pop.push
  · exact i.pop.pop.push
  · exact i.pop.pop.push
  · exact i.pop.pop.push
  · exact i.pop.push
  · exact i.pop.push.push
  · exact i.pop.pop.push.push
  · exact i.pop
  · exact i.push
  · exact i.push
  · exact ⟨h.won, h.win⟩
  · show okW (rzero (incR r) arg)
    unfold rzero
    split <;> exact ⟨h.won, h.win⟩
  · exact ⟨(h20 rfl).2, h.win⟩
  · exact okW.push (r := ⟨r.st.wSeed (mixS r.st.seed), r.i0, r.i1, r.sk, r.pc + 1, r.won, r.bad⟩) ⟨h.won, h.win⟩
  exact i
theorem okW.run {code : List (Int × Int)} (hc : (chkP code).2 = 0) : ∀ (f : Nat) (r : Rac), 0 ≤ r.pc → okR code.length r → okW r → okW (rrunM code f r)
  | 0, r, _, _, h => by
    unfold rrunM
    split <;> exact ⟨h.won, h.win⟩
  | f + 1, r, h0, ho, h => by
    unfold rrunM
    split
    · rename_i hp
      have hmay := chk_all hc (i := r.pc.toNat) (by omega)
      have hd := h.do hmay
      have hd2 := ho.do hp hmay
      split
      · exact okW.run hc f _ hd2.pc0 hd2 hd
      exact hd
    exact h
theorem step_win (code : List (Int × Int)) (cap fuel : Int) (s : Sta) (i0 i1 : UInt16) (hB : ∀ x ∈ s.cells, B32 x) : 0 ≤ (stepP code cap fuel s i0 i1).1.win ∧ (stepP code cap fuel s i0 i1).1.win ≤ 2 := by
  unfold stepP
  split
  · exact ⟨Int.le_refl _, by show (0 : Int) ≤ 2; omega⟩
  split
  · exact ⟨Int.le_refl _, by show (0 : Int) ≤ 2; omega⟩
  split
  · exact ⟨Int.le_refl _, by show (0 : Int) ≤ 2; omega⟩
  rename_i hg hi ho
  have hg' : gameP code cap fuel = 0 := Decidable.byContradiction hg
  obtain ⟨g1, g2, g3, g4, g5⟩ := gameP_spec hg'
  have hi' : isP s = true := by cases q : isP s; exact absurd (.inl q) hi; rfl
  have ho' : s.over = false := by cases q : s.over; rfl; exact absurd (.inl q) ho
  obtain ⟨s1, s2, s3, s4, s5⟩ := isP_spec hi'
  have hw : s.win = 0 := by rcases s5 with h | h; rw [ho'] at h; cases h; exact h
  show 0 ≤ (stepM code cap fuel.toNat s i0 i1).win ∧ (stepM code cap fuel.toNat s i0 i1).win ≤ 2
  rw [← step_eq g1 ho' hw (by have := fun h => ho (.inr h); omega)]
  have hr := okW.run g1 fuel.toNat (rac0 s i0 i1) (by show (0 : Int) ≤ 0; omega) ⟨by show (0 : Int) ≤ 0; omega, by show (0 : Int) ≤ _; omega, by show 0 ≤ 32; omega, fun x hx => (by cases hx), hB, s1, s2⟩ ⟨by show (-1 : Int) ≤ 2; omega, hw⟩
  unfold rstepM
  generalize rrunM code fuel.toNat (rac0 s i0 i1) = r at hr
  have hu : okW (undoR s r) := by
    unfold undoR
    split
    · exact ⟨by show (-1 : Int) ≤ 2; omega, hr.win⟩
    exact hr
  generalize undoR s r = u at hu
  unfold refE
  have w := hu.win
  have w2 := hu.won
  split
  · rename_i h; exact ⟨h, w2⟩
  split
  · split
    · exact ⟨by show (0 : Int) ≤ 2; omega, by show (2 : Int) ≤ 2; omega⟩
    split
    · exact ⟨by show (0 : Int) ≤ 1; omega, by show (1 : Int) ≤ 2; omega⟩
    exact ⟨by show (0 : Int) ≤ u.st.win; omega, by show u.st.win ≤ 2; omega⟩
  exact ⟨by show (0 : Int) ≤ u.st.win; omega, by show u.st.win ≤ 2; omega⟩
theorem foS_win {code : List (Int × Int)} {cap fuel : Int} {seed : UInt32} {f : Nat → UInt16 × UInt16} : ∀ n, 0 ≤ (foS code cap fuel (startS seed) f n).win ∧ (foS code cap fuel (startS seed) f n).win ≤ 2
  | 0 => ⟨Int.le_refl _, by show (0 : Int) ≤ 2; omega⟩
  | n + 1 => step_win _ _ _ _ _ _ (foS_B (start_B seed) n)
/-- what holds of a match -/
structure Inv18 (c : Ct) : Prop where
  g : gameP c.code c.cap c.fuel = 0
  st : c.st = foS c.code c.cap c.fuel (startS c.seed) (pz c.in0 c.in1) c.pairs.length
  pairs : c.pairs = pzs c.in0 c.in1 c.pairs.length
  no : ∀ j, j < c.pairs.length → (foS c.code c.cap c.fuel (startS c.seed) (pz c.in0 c.in1) j).over = false
  le : c.pairs.length ≤ min c.in0.length c.in1.length
  up : c.pairs.length = min c.in0.length c.in1.length ∨ c.st.over = true
  e0 : c.in0.length ≤ c.events.length
  e1 : c.in1.length ≤ c.events.length
  cl : c.opn = false → c.in0 = [] ∧ c.in1 = []
  l0 : 0 ≤ c.l0 ∧ c.l0 ≤ 100
  l1 : 0 ≤ c.l1 ∧ c.l1 ≤ 100
theorem Inv18.win {c : Ct} (h : Inv18 c) : 0 ≤ c.st.win ∧ c.st.win ≤ 2 := by rw [h.st]; exact foS_win _
theorem Inv18.B {c : Ct} (h : Inv18 c) : ∀ x ∈ c.st.cells, B32 x := by rw [h.st]; exact foS_B (start_B _) _
theorem inv_new {code : List (Int × Int)} {cap fuel : Int} (hg : gameP code cap fuel = 0) : Inv18 (ctNew code cap fuel) :=
  ⟨hg, rfl, rfl, fun j h => absurd h (Nat.not_lt_zero _), Nat.le_refl _, .inl rfl, Nat.le_refl _, Nat.le_refl _, fun _ => ⟨rfl, rfl⟩, by show (0 : Int) ≤ 0 ∧ (0 : Int) ≤ 100; omega, by show (0 : Int) ≤ 0 ∧ (0 : Int) ≤ 100; omega⟩
theorem Inv18.open {c : Ct} (h : Inv18 c) (ho : c.opn = false) (e : Ev) : Inv18 ((openP c e).add e) := by
  obtain ⟨i0, i1⟩ := h.cl ho
  have hl := h.le
  rw [i0] at hl
  have hp : c.pairs = [] := List.eq_nil_of_length_eq_zero (by simpa using hl)
  refine ⟨h.g, ?_, ?_, ?_, ?_, ?_, ?_, ?_, (fun q => absurd q (by show ¬ (true = false); simp)), h.l0, h.l1⟩
  · show startS _ = foS c.code c.cap c.fuel (startS _) (pz c.in0 c.in1) c.pairs.length
    rw [hp]; rfl
  · show c.pairs = pzs c.in0 c.in1 c.pairs.length
    rw [hp]; rfl
  · intro j hj
    have : j < c.pairs.length := hj
    rw [hp] at this; exact absurd this (Nat.not_lt_zero _)
  · exact h.le
  · show c.pairs.length = min c.in0.length c.in1.length ∨ _
    rw [hp, i0]; exact .inl rfl
  · show c.in0.length ≤ (c.events ++ [e]).length
    rw [i0]; exact Nat.zero_le _
  show c.in1.length ≤ (c.events ++ [e]).length
  rw [i1]; exact Nat.zero_le _
theorem Inv18.over {c : Ct} (h : Inv18 c) (w y : Int) (e : Ev) : Inv18 (({ c with over := true, winner := w, why := y } : Ct).add e) :=
  ⟨h.g, h.st, h.pairs, h.no, h.le, h.up, by show c.in0.length ≤ (c.events ++ [e]).length; rw [List.length_append]; have := h.e0; omega, by show c.in1.length ≤ (c.events ++ [e]).length; rw [List.length_append]; have := h.e1; omega, h.cl, h.l0, h.l1⟩
theorem Inv18.lives {c : Ct} (h : Inv18 c) (x y : Int) (hx : 0 ≤ x ∧ x ≤ 100) (hy : 0 ≤ y ∧ y ≤ 100) (e : Ev) : Inv18 (({ c with l0 := x, l1 := y } : Ct).add e) :=
  ⟨h.g, h.st, h.pairs, h.no, h.le, h.up, by show c.in0.length ≤ (c.events ++ [e]).length; rw [List.length_append]; have := h.e0; omega, by show c.in1.length ≤ (c.events ++ [e]).length; rw [List.length_append]; have := h.e1; omega, h.cl, hx, hy⟩
theorem getD_app {a b : List UInt16} {j : Nat} (h : j < a.length) : (a ++ b).getD j 0 = a.getD j 0 := by
  rw [List.getD_eq_getElem?_getD, List.getElem?_append_left h, ← List.getD_eq_getElem?_getD]
/-- longer rows, the same pairs -/
theorem Inv18.grow {c : Ct} (h : Inv18 c) (ho : c.st.over = false) (a b : List UInt16) (e : Ev) (hab : (∃ x, a = c.in0 ++ [x] ∧ b = c.in1) ∨ (∃ x, a = c.in0 ∧ b = c.in1 ++ [x])) (hop : c.opn = true) :
    Inv18 ((goP { c with in0 := a, in1 := b }).add e) := by
  have hm : c.pairs.length = min c.in0.length c.in1.length := by
    rcases h.up with q | q
    · exact q
    rw [ho] at q; cases q
  have le := h.le
  have la : c.in0.length ≤ a.length ∧ a.length ≤ c.in0.length + 1 := by rcases hab with ⟨x, rfl, rfl⟩ | ⟨x, rfl, rfl⟩ <;> simp
  have lb : c.in1.length ≤ b.length ∧ b.length ≤ c.in1.length + 1 := by rcases hab with ⟨x, rfl, rfl⟩ | ⟨x, rfl, rfl⟩ <;> simp
  have lab : min a.length b.length ≤ min c.in0.length c.in1.length + 1 := by rcases hab with ⟨x, rfl, rfl⟩ | ⟨x, rfl, rfl⟩ <;> simp <;> omega
  have hz : ∀ j, j < c.pairs.length → pz c.in0 c.in1 j = pz a b j := by
    intro j hj
    unfold pz
    rcases hab with ⟨x, rfl, rfl⟩ | ⟨x, rfl, rfl⟩
    · rw [getD_app (by omega)]
    rw [getD_app (by omega)]
  have hf : ∀ n, n ≤ c.pairs.length → foS c.code c.cap c.fuel (startS c.seed) (pz c.in0 c.in1) n = foS c.code c.cap c.fuel (startS c.seed) (pz a b) n := fun n hn => foS_congr fun j hj => hz j (by omega)
  have hps : c.pairs = pzs a b c.pairs.length := by
    refine h.pairs.trans ?_
    unfold pzs
    exact List.map_congr_left fun j hj => hz j (by simpa using hj)
  have ev0 : c.in0.length ≤ c.events.length := h.e0
  have ev1 : c.in1.length ≤ c.events.length := h.e1
  by_cases q : min a.length b.length = c.pairs.length
  · have hcu : cuP c.code c.cap c.fuel a b (min a.length b.length - c.pairs.length) c.pairs c.st = (c.pairs, c.st) := by rw [q, Nat.sub_self]; rfl
    have hgo : goP { c with in0 := a, in1 := b } = { c with in0 := a, in1 := b } := by
      unfold goP; simp only [hcu]
    rw [hgo]
    refine ⟨h.g, h.st.trans (hf _ (Nat.le_refl _)), hps, fun j hj => ?_, ?_, .inl q.symm, ?_, ?_, ?_, h.l0, h.l1⟩
    · have := h.no j hj; rw [hf j (Nat.le_of_lt hj)] at this; exact this
    · show c.pairs.length ≤ min a.length b.length; omega
    · show a.length ≤ (c.events ++ [e]).length; rw [List.length_append]; simp; omega
    · show b.length ≤ (c.events ++ [e]).length; rw [List.length_append]; simp; omega
    intro w; rw [show c.opn = false from w] at hop; cases hop
  have q1 : min a.length b.length - c.pairs.length = 1 := by omega
  have hcu : cuP c.code c.cap c.fuel a b (min a.length b.length - c.pairs.length) c.pairs c.st = (c.pairs ++ [pz a b c.pairs.length], (stepP c.code c.cap c.fuel c.st (pz a b c.pairs.length).1 (pz a b c.pairs.length).2).1) := by
    rw [q1]
    unfold cuP
    rw [if_pos ⟨ho, by omega⟩]
    rfl
  have hgo : goP { c with in0 := a, in1 := b } = { c with in0 := a, in1 := b, pairs := c.pairs ++ [pz a b c.pairs.length], st := (stepP c.code c.cap c.fuel c.st (pz a b c.pairs.length).1 (pz a b c.pairs.length).2).1 } := by
    unfold goP; simp only [hcu]
  rw [hgo]
  have hlen : (c.pairs ++ [pz a b c.pairs.length]).length = c.pairs.length + 1 := by simp
  have hst : (stepP c.code c.cap c.fuel c.st (pz a b c.pairs.length).1 (pz a b c.pairs.length).2).1 = foS c.code c.cap c.fuel (startS c.seed) (pz a b) (c.pairs.length + 1) := by
    show _ = (stepP c.code c.cap c.fuel (foS c.code c.cap c.fuel (startS c.seed) (pz a b) c.pairs.length) (pz a b c.pairs.length).1 (pz a b c.pairs.length).2).1
    rw [← hf _ (Nat.le_refl _), ← h.st]
  refine ⟨h.g, ?_, ?_, fun j hj => ?_, ?_, .inl ?_, ?_, ?_, ?_, h.l0, h.l1⟩
  · show (stepP c.code c.cap c.fuel c.st (pz a b c.pairs.length).1 (pz a b c.pairs.length).2).1 = foS c.code c.cap c.fuel (startS c.seed) (pz a b) (c.pairs ++ [pz a b c.pairs.length]).length
    rw [hlen]; exact hst
  · show c.pairs ++ [pz a b c.pairs.length] = pzs a b (c.pairs ++ [pz a b c.pairs.length]).length
    rw [hlen, pzs_succ, ← hps]
  · have hj' : j < (c.pairs ++ [pz a b c.pairs.length]).length := hj
    rw [hlen] at hj'
    show (foS c.code c.cap c.fuel (startS c.seed) (pz a b) j).over = false
    rw [← hf j (by omega)]
    by_cases w : j < c.pairs.length
    · exact h.no j w
    rw [show j = c.pairs.length by omega, ← h.st]; exact ho
  · show (c.pairs ++ [pz a b c.pairs.length]).length ≤ min a.length b.length; rw [hlen]; omega
  · show (c.pairs ++ [pz a b c.pairs.length]).length = min a.length b.length; rw [hlen]; omega
  · show a.length ≤ (c.events ++ [e]).length; rw [List.length_append]; simp; omega
  · show b.length ≤ (c.events ++ [e]).length; rw [List.length_append]; simp; omega
  intro w; rw [show c.opn = false from w] at hop; cases hop
/-- what an event makes of a match -/
def doP (c : Ct) (e : Ev) : Ct := if e.kind = 1 then openP c e else if e.kind = 2 then joinP c e else if e.kind = 3 then inputP c e else if e.kind = 4 then forfeitP c e else resultP c e
def nextP (c : Ct) (e : Ev) : Ct := if mayP18 c e = 0 then (doP c e).add e else c
theorem may_kind {c : Ct} {e : Ev} (h : mayP18 c e = 0) : (1 ≤ e.kind ∧ e.kind ≤ 5) ∧ bareB e = true ∧ may1P c e = 0 := by
  unfold mayP18 at h
  split at h
  · cases h
  split at h
  · rename_i h1 h2; exact ⟨by omega, h2, h⟩
  cases h
theorem act_0 {c : Ct} {p : Int} (h : actP c p = 0) : c.opn = true ∧ c.over = false ∧ c.st.over = false ∧ 0 ≤ seatP c p := by
  have hs := act_seat h
  unfold actP at h
  split at h
  · cases h
  rename_i h1
  split at h
  · cases h
  rename_i h2
  cases q1 : c.opn
  · exact absurd q1 h1
  cases q2 : c.over
  · cases q3 : c.st.over
    · exact ⟨rfl, rfl, rfl, hs⟩
    exact absurd (by rw [q3]; simp) h2
  exact absurd (by rw [q2]; simp) h2
theorem mayJoin_0 {c : Ct} {e : Ev} (h : mayJoinP c e = 0) : actP c e.player = 0 ∧ (if seatP c e.player = 0 then c.l0 else c.l1) < 100 := by
  unfold mayJoinP at h
  split at h
  · rename_i h1; exact absurd h h1
  rename_i h1
  by_cases h2 : 100 ≤ (if seatP c e.player = 0 then c.l0 else c.l1)
  · rw [if_pos h2] at h; cases h
  exact ⟨Decidable.byContradiction h1, by omega⟩
theorem mayInput_0 {c : Ct} {e : Ev} (h : mayInputP c e = 0) : actP c e.player = 0 := by
  unfold mayInputP at h
  split at h
  · rename_i h1; exact absurd h h1
  rename_i h1; exact Decidable.byContradiction h1
theorem Inv18.next {c : Ct} (h : Inv18 c) (e : Ev) : Inv18 (nextP c e) := by
  unfold nextP
  split
  · rename_i hm
    obtain ⟨hk, hb, h1⟩ := may_kind hm
    unfold may1P at h1
    unfold doP
    rcases (by omega : e.kind = 1 ∨ e.kind = 2 ∨ e.kind = 3 ∨ e.kind = 4 ∨ e.kind = 5) with k | k | k | k | k
    · rw [if_pos k] at h1 ⊢
      refine h.open ?_ e
      unfold mayOpenP at h1
      cases q : c.opn
      · rfl
      rw [if_pos q] at h1; cases h1
    · rw [if_neg (by omega), if_pos k] at h1 ⊢
      obtain ⟨h2, h3⟩ := mayJoin_0 h1
      unfold joinP
      have a0 := h.l0
      have a1 := h.l1
      split
      · rename_i hs; rw [if_pos hs] at h3; exact h.lives (c.l0 + 1) c.l1 (by omega) a1 e
      rename_i hs; rw [if_neg hs] at h3; exact h.lives c.l0 (c.l1 + 1) a0 (by omega) e
    · rw [if_neg (by omega), if_neg (by omega), if_pos k] at h1 ⊢
      obtain ⟨o1, o2, o3, o4⟩ := act_0 (mayInput_0 h1)
      unfold inputP inputP0
      split
      · exact h.grow o3 _ _ e (.inl ⟨_, rfl, rfl⟩) o1
      exact h.grow o3 _ _ e (.inr ⟨_, rfl, rfl⟩) o1
    · rw [if_neg (by omega), if_neg (by omega), if_neg (by omega), if_pos k]
      exact h.over _ _ e
    rw [if_neg (by omega), if_neg (by omega), if_neg (by omega), if_neg (by omega)]
    exact h.over _ _ e
  exact h
theorem next_events {c : Ct} {e : Ev} : (nextP c e).events.length ≤ c.events.length + 1 := by
  unfold nextP
  split
  · show ((doP c e).events ++ [e]).length ≤ _
    have : (doP c e).events = c.events := by
      unfold doP openP joinP inputP goP inputP0 forfeitP resultP
      repeat' split
      all_goals rfl
    rw [List.length_append, this]; simp
  omega
theorem ev_eq {e : Ev} {k : Int} (h : e.kind = k) : e = ⟨k, e.player, e.other, e.frame, e.inp, e.n⟩ := by cases e; simp only at h; subst h; rfl
end
section
set_option maxRecDepth 20000
def rfC (rg : C) (cap : Int) (fuel : Int) (re : C) (r0 : C) (r1 : C) (p0 : Int) (p1 : Int) (seed : UInt32) (l0 : Int) (l1 : Int) (opn : Bool) (over : Bool) (winner : Int) (why : Int) : List C := [rg, .val (.int .i64 cap), .val (.int .i64 fuel), re, r0, r1, .val (.int .i64 p0), .val (.int .i64 p1), .val (.int .u32 (U32 seed)), .val (.int .i64 l0), .val (.int .i64 l1), .val (.bool opn), .val (.bool over), .val (.int .i64 winner), .val (.int .i64 why)]
section
variable {rg : C} {cap : Int} {fuel : Int} {re : C} {r0 : C} {r1 : C} {p0 : Int} {p1 : Int} {seed : UInt32} {l0 : Int} {l1 : Int} {opn : Bool} {over : Bool} {winner : Int} {why : Int} {V' : V → Prop} {K : C → Prop} {ks : List Id} {m : Nat}
@[go_sem] theorem rf_l : (rfC rg cap fuel re r0 r1 p0 p1 seed l0 l1 opn over winner why).length = 15 := by
  unfold rfC
  simp only [List.length_append, List.length_map, sd_len, List.length_cons, List.length_nil]
@[go_sem] theorem rf_k {bi : Id → Bool} {bt : Tag → Bool} : (rfC rg cap fuel re r0 r1 p0 p1 seed l0 l1 opn over winner why).map (C.clean bi bt) = (rfC (C.clean bi bt rg) cap fuel (C.clean bi bt re) (C.clean bi bt r0) (C.clean bi bt r1) p0 p1 seed l0 l1 opn over winner why) := by
  unfold rfC
  simp only [List.map_append, List.map_cons, List.map_nil, go_sem]
@[go_sem] theorem rf_r  : (rfC rg cap fuel re r0 r1 p0 p1 seed l0 l1 opn over winner why).map (C.ren ks m) = (rfC (C.ren ks m rg) cap fuel (C.ren ks m re) (C.ren ks m r0) (C.ren ks m r1) p0 p1 seed l0 l1 opn over winner why) := by
  unfold rfC
  simp only [List.map_append, List.map_cons, List.map_nil, go_sem]
@[go_sem] theorem rf_t {ta tb : Tag} : (rfC rg cap fuel re r0 r1 p0 p1 seed l0 l1 opn over winner why).map (C.retag ta tb) = (rfC (C.retag ta tb rg) cap fuel (C.retag ta tb re) (C.retag ta tb r0) (C.retag ta tb r1) p0 p1 seed l0 l1 opn over winner why) := by
  unfold rfC
  simp only [List.map_append, List.map_cons, List.map_nil, go_sem]
@[go_sem] theorem rf_n : (rfC rg cap fuel re r0 r1 p0 p1 seed l0 l1 opn over winner why).all known = (known rg && known re && known r0 && known r1) := by
  unfold rfC
  simp only [List.all_append, List.all_cons, List.all_nil, go_sem, Bool.true_and, Bool.and_true, Bool.and_assoc]
@[go_sem ↓ 1300] theorem rf_m_rg : (∃ c, (rfC rg cap fuel re r0 r1 p0 p1 seed l0 l1 opn over winner why)[0]? = some c ∧ K c) = K (rg) := ex_some (by
  unfold rfC
  first | rfl | (rw [List.getElem?_append_left (by simp)]; rfl))
@[go_sem ↓ 1300] theorem rf_m_cap : (∃ c, (rfC rg cap fuel re r0 r1 p0 p1 seed l0 l1 opn over winner why)[1]? = some c ∧ K c) = K (.val (.int .i64 cap)) := ex_some (by
  unfold rfC
  first | rfl | (rw [List.getElem?_append_left (by simp)]; rfl))
@[go_sem ↓ 1300] theorem rf_m_fuel : (∃ c, (rfC rg cap fuel re r0 r1 p0 p1 seed l0 l1 opn over winner why)[2]? = some c ∧ K c) = K (.val (.int .i64 fuel)) := ex_some (by
  unfold rfC
  first | rfl | (rw [List.getElem?_append_left (by simp)]; rfl))
@[go_sem ↓ 1300] theorem rf_m_re : (∃ c, (rfC rg cap fuel re r0 r1 p0 p1 seed l0 l1 opn over winner why)[3]? = some c ∧ K c) = K (re) := ex_some (by
  unfold rfC
  first | rfl | (rw [List.getElem?_append_left (by simp)]; rfl))
@[go_sem ↓ 1300] theorem rf_m_r0 : (∃ c, (rfC rg cap fuel re r0 r1 p0 p1 seed l0 l1 opn over winner why)[4]? = some c ∧ K c) = K (r0) := ex_some (by
  unfold rfC
  first | rfl | (rw [List.getElem?_append_left (by simp)]; rfl))
@[go_sem ↓ 1300] theorem rf_m_r1 : (∃ c, (rfC rg cap fuel re r0 r1 p0 p1 seed l0 l1 opn over winner why)[5]? = some c ∧ K c) = K (r1) := ex_some (by
  unfold rfC
  first | rfl | (rw [List.getElem?_append_left (by simp)]; rfl))
@[go_sem ↓ 1300] theorem rf_m_p0 : (∃ c, (rfC rg cap fuel re r0 r1 p0 p1 seed l0 l1 opn over winner why)[6]? = some c ∧ K c) = K (.val (.int .i64 p0)) := ex_some (by
  unfold rfC
  first | rfl | (rw [List.getElem?_append_left (by simp)]; rfl))
@[go_sem ↓ 1300] theorem rf_m_p1 : (∃ c, (rfC rg cap fuel re r0 r1 p0 p1 seed l0 l1 opn over winner why)[7]? = some c ∧ K c) = K (.val (.int .i64 p1)) := ex_some (by
  unfold rfC
  first | rfl | (rw [List.getElem?_append_left (by simp)]; rfl))
@[go_sem ↓ 1300] theorem rf_m_seed : (∃ c, (rfC rg cap fuel re r0 r1 p0 p1 seed l0 l1 opn over winner why)[8]? = some c ∧ K c) = K (.val (.int .u32 (U32 seed))) := ex_some (by
  unfold rfC
  first | rfl | (rw [List.getElem?_append_left (by simp)]; rfl))
@[go_sem ↓ 1300] theorem rf_m_l0 : (∃ c, (rfC rg cap fuel re r0 r1 p0 p1 seed l0 l1 opn over winner why)[9]? = some c ∧ K c) = K (.val (.int .i64 l0)) := ex_some (by
  unfold rfC
  first | rfl | (rw [List.getElem?_append_left (by simp)]; rfl))
@[go_sem ↓ 1300] theorem rf_m_l1 : (∃ c, (rfC rg cap fuel re r0 r1 p0 p1 seed l0 l1 opn over winner why)[10]? = some c ∧ K c) = K (.val (.int .i64 l1)) := ex_some (by
  unfold rfC
  first | rfl | (rw [List.getElem?_append_left (by simp)]; rfl))
@[go_sem ↓ 1300] theorem rf_m_opn : (∃ c, (rfC rg cap fuel re r0 r1 p0 p1 seed l0 l1 opn over winner why)[11]? = some c ∧ K c) = K (.val (.bool opn)) := ex_some (by
  unfold rfC
  first | rfl | (rw [List.getElem?_append_left (by simp)]; rfl))
@[go_sem ↓ 1300] theorem rf_m_over : (∃ c, (rfC rg cap fuel re r0 r1 p0 p1 seed l0 l1 opn over winner why)[12]? = some c ∧ K c) = K (.val (.bool over)) := ex_some (by
  unfold rfC
  first | rfl | (rw [List.getElem?_append_left (by simp)]; rfl))
@[go_sem ↓ 1300] theorem rf_m_winner : (∃ c, (rfC rg cap fuel re r0 r1 p0 p1 seed l0 l1 opn over winner why)[13]? = some c ∧ K c) = K (.val (.int .i64 winner)) := ex_some (by
  unfold rfC
  first | rfl | (rw [List.getElem?_append_left (by simp)]; rfl))
@[go_sem ↓ 1300] theorem rf_m_why : (∃ c, (rfC rg cap fuel re r0 r1 p0 p1 seed l0 l1 opn over winner why)[14]? = some c ∧ K c) = K (.val (.int .i64 why)) := ex_some (by
  unfold rfC
  first | rfl | (rw [List.getElem?_append_left (by simp)]; rfl))
@[go_sem 1300] theorem rf_d0_3 : ((rfC rg cap fuel re r0 r1 p0 p1 seed l0 l1 opn over winner why).drop 0).take 3 = [rg, .val (.int .i64 cap), .val (.int .i64 fuel)] := by
    first
      | rfl
      | (unfold rfC
         rw [show (0 : Nat) = ((sd s).map D.toC).length + 0 from by rw [sdC_len], List.drop_append, List.drop_eq_nil_of_le (by omega), Nat.add_sub_cancel_left]
         rfl)
@[go_sem ↓ 1300] theorem rf_p0_3 : aPt (some true) 3 (rfC rg cap fuel re r0 r1 p0 p1 seed l0 l1 opn over winner why) 0 V' = V' (.w (.agg [rg, .val (.int .i64 cap), .val (.int .i64 fuel)])) := by
  simp only [aPt, rf_l, rf_d0_3, Nat.reduceAdd, Nat.reduceLeDiff, true_and]
@[go_sem 1300] theorem rf_d6_2 : ((rfC rg cap fuel re r0 r1 p0 p1 seed l0 l1 opn over winner why).drop 6).take 2 = [.val (.int .i64 p0), .val (.int .i64 p1)] := by
    first
      | rfl
      | (unfold rfC
         rw [show (6 : Nat) = ((sd s).map D.toC).length + 0 from by rw [sdC_len], List.drop_append, List.drop_eq_nil_of_le (by omega), Nat.add_sub_cancel_left]
         rfl)
@[go_sem ↓ 1300] theorem rf_p6_2 : aPt (some true) 2 (rfC rg cap fuel re r0 r1 p0 p1 seed l0 l1 opn over winner why) 6 V' = V' (.w (.agg [.val (.int .i64 p0), .val (.int .i64 p1)])) := by
  simp only [aPt, rf_l, rf_d6_2, Nat.reduceAdd, Nat.reduceLeDiff, true_and]
@[go_sem 1300] theorem rf_s_rg {x : C} : spl (rfC rg cap fuel re r0 r1 p0 p1 seed l0 l1 opn over winner why) 0 [x] = (rfC (x) cap fuel re r0 r1 p0 p1 seed l0 l1 opn over winner why) := rfl
@[go_sem 1300] theorem rf_u_rg {x : C} : (rfC rg cap fuel re r0 r1 p0 p1 seed l0 l1 opn over winner why).set 0 (x) = (rfC (x) cap fuel re r0 r1 p0 p1 seed l0 l1 opn over winner why) := show spl (rfC rg cap fuel re r0 r1 p0 p1 seed l0 l1 opn over winner why) 0 [x] = _ from rf_s_rg
@[go_sem 1300] theorem rf_s_cap {x : Int} : spl (rfC rg cap fuel re r0 r1 p0 p1 seed l0 l1 opn over winner why) 1 [.val (.int .i64 x)] = (rfC rg (x) fuel re r0 r1 p0 p1 seed l0 l1 opn over winner why) := rfl
@[go_sem 1300] theorem rf_u_cap {x : Int} : (rfC rg cap fuel re r0 r1 p0 p1 seed l0 l1 opn over winner why).set 1 (.val (.int .i64 x)) = (rfC rg (x) fuel re r0 r1 p0 p1 seed l0 l1 opn over winner why) := show spl (rfC rg cap fuel re r0 r1 p0 p1 seed l0 l1 opn over winner why) 1 [.val (.int .i64 x)] = _ from rf_s_cap
@[go_sem 1300] theorem rf_s_fuel {x : Int} : spl (rfC rg cap fuel re r0 r1 p0 p1 seed l0 l1 opn over winner why) 2 [.val (.int .i64 x)] = (rfC rg cap (x) re r0 r1 p0 p1 seed l0 l1 opn over winner why) := rfl
@[go_sem 1300] theorem rf_u_fuel {x : Int} : (rfC rg cap fuel re r0 r1 p0 p1 seed l0 l1 opn over winner why).set 2 (.val (.int .i64 x)) = (rfC rg cap (x) re r0 r1 p0 p1 seed l0 l1 opn over winner why) := show spl (rfC rg cap fuel re r0 r1 p0 p1 seed l0 l1 opn over winner why) 2 [.val (.int .i64 x)] = _ from rf_s_fuel
@[go_sem 1300] theorem rf_s_re {x : C} : spl (rfC rg cap fuel re r0 r1 p0 p1 seed l0 l1 opn over winner why) 3 [x] = (rfC rg cap fuel (x) r0 r1 p0 p1 seed l0 l1 opn over winner why) := rfl
@[go_sem 1300] theorem rf_u_re {x : C} : (rfC rg cap fuel re r0 r1 p0 p1 seed l0 l1 opn over winner why).set 3 (x) = (rfC rg cap fuel (x) r0 r1 p0 p1 seed l0 l1 opn over winner why) := show spl (rfC rg cap fuel re r0 r1 p0 p1 seed l0 l1 opn over winner why) 3 [x] = _ from rf_s_re
@[go_sem 1300] theorem rf_s_r0 {x : C} : spl (rfC rg cap fuel re r0 r1 p0 p1 seed l0 l1 opn over winner why) 4 [x] = (rfC rg cap fuel re (x) r1 p0 p1 seed l0 l1 opn over winner why) := rfl
@[go_sem 1300] theorem rf_u_r0 {x : C} : (rfC rg cap fuel re r0 r1 p0 p1 seed l0 l1 opn over winner why).set 4 (x) = (rfC rg cap fuel re (x) r1 p0 p1 seed l0 l1 opn over winner why) := show spl (rfC rg cap fuel re r0 r1 p0 p1 seed l0 l1 opn over winner why) 4 [x] = _ from rf_s_r0
@[go_sem 1300] theorem rf_s_r1 {x : C} : spl (rfC rg cap fuel re r0 r1 p0 p1 seed l0 l1 opn over winner why) 5 [x] = (rfC rg cap fuel re r0 (x) p0 p1 seed l0 l1 opn over winner why) := rfl
@[go_sem 1300] theorem rf_u_r1 {x : C} : (rfC rg cap fuel re r0 r1 p0 p1 seed l0 l1 opn over winner why).set 5 (x) = (rfC rg cap fuel re r0 (x) p0 p1 seed l0 l1 opn over winner why) := show spl (rfC rg cap fuel re r0 r1 p0 p1 seed l0 l1 opn over winner why) 5 [x] = _ from rf_s_r1
@[go_sem 1300] theorem rf_s_p0 {x : Int} : spl (rfC rg cap fuel re r0 r1 p0 p1 seed l0 l1 opn over winner why) 6 [.val (.int .i64 x)] = (rfC rg cap fuel re r0 r1 (x) p1 seed l0 l1 opn over winner why) := rfl
@[go_sem 1300] theorem rf_u_p0 {x : Int} : (rfC rg cap fuel re r0 r1 p0 p1 seed l0 l1 opn over winner why).set 6 (.val (.int .i64 x)) = (rfC rg cap fuel re r0 r1 (x) p1 seed l0 l1 opn over winner why) := show spl (rfC rg cap fuel re r0 r1 p0 p1 seed l0 l1 opn over winner why) 6 [.val (.int .i64 x)] = _ from rf_s_p0
@[go_sem 1300] theorem rf_s_p1 {x : Int} : spl (rfC rg cap fuel re r0 r1 p0 p1 seed l0 l1 opn over winner why) 7 [.val (.int .i64 x)] = (rfC rg cap fuel re r0 r1 p0 (x) seed l0 l1 opn over winner why) := rfl
@[go_sem 1300] theorem rf_u_p1 {x : Int} : (rfC rg cap fuel re r0 r1 p0 p1 seed l0 l1 opn over winner why).set 7 (.val (.int .i64 x)) = (rfC rg cap fuel re r0 r1 p0 (x) seed l0 l1 opn over winner why) := show spl (rfC rg cap fuel re r0 r1 p0 p1 seed l0 l1 opn over winner why) 7 [.val (.int .i64 x)] = _ from rf_s_p1
@[go_sem 1300] theorem rf_s_seed {x : UInt32} : spl (rfC rg cap fuel re r0 r1 p0 p1 seed l0 l1 opn over winner why) 8 [.val (.int .u32 (U32 x))] = (rfC rg cap fuel re r0 r1 p0 p1 (x) l0 l1 opn over winner why) := rfl
@[go_sem 1300] theorem rf_u_seed {x : UInt32} : (rfC rg cap fuel re r0 r1 p0 p1 seed l0 l1 opn over winner why).set 8 (.val (.int .u32 (U32 x))) = (rfC rg cap fuel re r0 r1 p0 p1 (x) l0 l1 opn over winner why) := show spl (rfC rg cap fuel re r0 r1 p0 p1 seed l0 l1 opn over winner why) 8 [.val (.int .u32 (U32 x))] = _ from rf_s_seed
@[go_sem 1300] theorem rf_s_l0 {x : Int} : spl (rfC rg cap fuel re r0 r1 p0 p1 seed l0 l1 opn over winner why) 9 [.val (.int .i64 x)] = (rfC rg cap fuel re r0 r1 p0 p1 seed (x) l1 opn over winner why) := rfl
@[go_sem 1300] theorem rf_u_l0 {x : Int} : (rfC rg cap fuel re r0 r1 p0 p1 seed l0 l1 opn over winner why).set 9 (.val (.int .i64 x)) = (rfC rg cap fuel re r0 r1 p0 p1 seed (x) l1 opn over winner why) := show spl (rfC rg cap fuel re r0 r1 p0 p1 seed l0 l1 opn over winner why) 9 [.val (.int .i64 x)] = _ from rf_s_l0
@[go_sem 1300] theorem rf_s_l1 {x : Int} : spl (rfC rg cap fuel re r0 r1 p0 p1 seed l0 l1 opn over winner why) 10 [.val (.int .i64 x)] = (rfC rg cap fuel re r0 r1 p0 p1 seed l0 (x) opn over winner why) := rfl
@[go_sem 1300] theorem rf_u_l1 {x : Int} : (rfC rg cap fuel re r0 r1 p0 p1 seed l0 l1 opn over winner why).set 10 (.val (.int .i64 x)) = (rfC rg cap fuel re r0 r1 p0 p1 seed l0 (x) opn over winner why) := show spl (rfC rg cap fuel re r0 r1 p0 p1 seed l0 l1 opn over winner why) 10 [.val (.int .i64 x)] = _ from rf_s_l1
@[go_sem 1300] theorem rf_s_opn {x : Bool} : spl (rfC rg cap fuel re r0 r1 p0 p1 seed l0 l1 opn over winner why) 11 [.val (.bool x)] = (rfC rg cap fuel re r0 r1 p0 p1 seed l0 l1 (x) over winner why) := rfl
@[go_sem 1300] theorem rf_u_opn {x : Bool} : (rfC rg cap fuel re r0 r1 p0 p1 seed l0 l1 opn over winner why).set 11 (.val (.bool x)) = (rfC rg cap fuel re r0 r1 p0 p1 seed l0 l1 (x) over winner why) := show spl (rfC rg cap fuel re r0 r1 p0 p1 seed l0 l1 opn over winner why) 11 [.val (.bool x)] = _ from rf_s_opn
@[go_sem 1300] theorem rf_s_over {x : Bool} : spl (rfC rg cap fuel re r0 r1 p0 p1 seed l0 l1 opn over winner why) 12 [.val (.bool x)] = (rfC rg cap fuel re r0 r1 p0 p1 seed l0 l1 opn (x) winner why) := rfl
@[go_sem 1300] theorem rf_u_over {x : Bool} : (rfC rg cap fuel re r0 r1 p0 p1 seed l0 l1 opn over winner why).set 12 (.val (.bool x)) = (rfC rg cap fuel re r0 r1 p0 p1 seed l0 l1 opn (x) winner why) := show spl (rfC rg cap fuel re r0 r1 p0 p1 seed l0 l1 opn over winner why) 12 [.val (.bool x)] = _ from rf_s_over
@[go_sem 1300] theorem rf_s_winner {x : Int} : spl (rfC rg cap fuel re r0 r1 p0 p1 seed l0 l1 opn over winner why) 13 [.val (.int .i64 x)] = (rfC rg cap fuel re r0 r1 p0 p1 seed l0 l1 opn over (x) why) := rfl
@[go_sem 1300] theorem rf_u_winner {x : Int} : (rfC rg cap fuel re r0 r1 p0 p1 seed l0 l1 opn over winner why).set 13 (.val (.int .i64 x)) = (rfC rg cap fuel re r0 r1 p0 p1 seed l0 l1 opn over (x) why) := show spl (rfC rg cap fuel re r0 r1 p0 p1 seed l0 l1 opn over winner why) 13 [.val (.int .i64 x)] = _ from rf_s_winner
@[go_sem 1300] theorem rf_s_why {x : Int} : spl (rfC rg cap fuel re r0 r1 p0 p1 seed l0 l1 opn over winner why) 14 [.val (.int .i64 x)] = (rfC rg cap fuel re r0 r1 p0 p1 seed l0 l1 opn over winner (x)) := rfl
@[go_sem 1300] theorem rf_u_why {x : Int} : (rfC rg cap fuel re r0 r1 p0 p1 seed l0 l1 opn over winner why).set 14 (.val (.int .i64 x)) = (rfC rg cap fuel re r0 r1 p0 p1 seed l0 l1 opn over winner (x)) := show spl (rfC rg cap fuel re r0 r1 p0 p1 seed l0 l1 opn over winner why) 14 [.val (.int .i64 x)] = _ from rf_s_why
@[go_sem 1300] theorem rf_w6_2 {y0 : Int} {y1 : Int} : spl (rfC rg cap fuel re r0 r1 p0 p1 seed l0 l1 opn over winner why) 6 [.val (.int .i64 y0), .val (.int .i64 y1)] = (rfC rg cap fuel re r0 r1 y0 y1 seed l0 l1 opn over winner why) := by
  first
    | rfl
    | (unfold rfC
       rw [show (6 : Nat) = ((sd s).map D.toC).length + 0 from by rw [sdC_len], spl_appR (by simp only [List.length_cons, List.length_nil]; omega)]
       rfl)
@[go_sem ↓] theorem rf_w {l : List V} {hp : Heap} {i : Id} {off : Nat} {cs : List C} : St.stow ⟨l, hp⟩ i off cs (rfC rg cap fuel re r0 r1 p0 p1 seed l0 l1 opn over winner why) = ⟨l, hset hp i (spl cs off (rfC (C.clean (fun _ => false) (fun _ => true) rg) cap fuel (C.clean (fun _ => false) (fun _ => true) re) (C.clean (fun _ => false) (fun _ => true) r0) (C.clean (fun _ => false) (fun _ => true) r1) p0 p1 seed l0 l1 opn over winner why))⟩ := by
  rw [stow_big (by rw [rf_l]; omega), rf_k]
@[go_sem ↓ 1300] theorem rf_p : aPt (some true) 15 (rfC rg cap fuel re r0 r1 p0 p1 seed l0 l1 opn over winner why) 0 V' = V' (.w (.agg (rfC rg cap fuel re r0 r1 p0 p1 seed l0 l1 opn over winner why))) := by
  have e : ((rfC rg cap fuel re r0 r1 p0 p1 seed l0 l1 opn over winner why).drop 0).take 15 = (rfC rg cap fuel re r0 r1 p0 p1 seed l0 l1 opn over winner why) := by rw [List.drop_zero, List.take_of_length_le (by rw [rf_l]; omega)]
  simp only [aPt, rf_l, e, Nat.reduceAdd, Nat.reduceLeDiff, true_and]
theorem rf_le {rg' : C} {cap' : Int} {fuel' : Int} {re' : C} {r0' : C} {r1' : C} {p0' : Int} {p1' : Int} {seed' : UInt32} {l0' : Int} {l1' : Int} {opn' : Bool} {over' : Bool} {winner' : Int} {why' : Int} (h : leC rg rg' ∧ cap = cap' ∧ fuel = fuel' ∧ leC re re' ∧ leC r0 r0' ∧ leC r1 r1' ∧ p0 = p0' ∧ p1 = p1' ∧ seed = seed' ∧ l0 = l0' ∧ l1 = l1' ∧ opn = opn' ∧ over = over' ∧ winner = winner' ∧ why = why') : leCs (rfC rg cap fuel re r0 r1 p0 p1 seed l0 l1 opn over winner why) (rfC rg' cap' fuel' re' r0' r1' p0' p1' seed' l0' l1' opn' over' winner' why') := by
  obtain ⟨h0, h1, h2, h3, h4, h5, h6, h7, h8, h9, h10, h11, h12, h13, h14⟩ := h
  subst h1
  subst h2
  subst h6
  subst h7
  subst h8
  subst h9
  subst h10
  subst h11
  subst h12
  subst h13
  subst h14
  unfold rfC
  try simp only [List.cons_append, List.nil_append, List.append_assoc]
  exact ⟨h0, ⟨leC_refl _, ⟨leC_refl _, ⟨h3, ⟨h4, ⟨h5, ⟨leC_refl _, ⟨leC_refl _, ⟨leC_refl _, ⟨leC_refl _, ⟨leC_refl _, ⟨leC_refl _, ⟨leC_refl _, ⟨leC_refl _, ⟨leC_refl _, trivial⟩⟩⟩⟩⟩⟩⟩⟩⟩⟩⟩⟩⟩⟩⟩
@[go_sem ↓ 1300] theorem rf_ler : leCs (rfC rg cap fuel re r0 r1 p0 p1 seed l0 l1 opn over winner why) (rfC rg cap fuel re r0 r1 p0 p1 seed l0 l1 opn over winner why) = True := eq_true (leCs_refl _)
end
theorem rfX {rg re r0 r1 : C} {cap fuel p0 p1 l0 l1 winner why : Int} {seed : UInt32} {opn over opn' over' : Bool} (h1 : opn = opn' := by first | rfl | assumption | (symm; assumption)) (h2 : over = over' := by first | rfl | assumption | (symm; assumption)) :
    leCs (rfC rg cap fuel re r0 r1 p0 p1 seed l0 l1 opn over winner why) (rfC rg cap fuel re r0 r1 p0 p1 seed l0 l1 opn' over' winner why) := by
  subst h1; subst h2; exact leCs_refl _
end
section
abbrev rfB (i : Id) (c : Ct) : List C := rfC (.lst .no none 2 (ins c.code)) c.cap c.fuel (.lst (.tag (.cell i 3)) none 6 (evs c.events)) (.lst (.tag (.cell i 4)) none 1 (ls fU c.in0)) (.lst (.tag (.cell i 5)) none 1 (ls fU c.in1)) c.p0 c.p1 c.seed c.l0 c.l1 c.opn c.over c.winner c.why
theorem rnew_bad (l : List (Int × Int)) (cap fuel : Int) (hl : l.length ≤ 9223372036854775807) (hg : gameP l cap fuel ≠ 0) : Holds Tryz.prog 7 [.game l cap fuel] [] (fun r h' => r = .tup [.c (.val (.pointer none)), .int .i64 (gameP l cap fuel)] ∧ h' = []) := by
  have dg : decide (gameP l cap fuel = 0) = false := decide_eq_false hg
  refine holds_of_awp Tryz.func7 rfl (by decide +kernel) mixed Tryz.ntmps7 Tryz.results7 ?_
  refine zE ?_
  refine zc ?_;try exact trivial
  refine a_call [] (rcheck10_h l cap fuel hl) ok0 ?_ ?_ ?_
  · refine zs ?_;try exact trivial
  · refine zs ?_;try exact trivial
  rintro _ _ ⟨rfl, rfl⟩
  simp (maxSteps:=2000000) (disch:=omega) only [go_sem,Nat.reduceAdd,Nat.reduceSub,Nat.reduceMul,Nat.reduceBEq,Nat.reduceEqDiff,Nat.reduceLT,Nat.reduceLeDiff,Nat.reduceDiv,reduceIte,reduceCtorEq, dg, decide_not, Bool.not_false]
theorem rnew_ok (l : List (Int × Int)) (cap fuel : Int) (hl : l.length ≤ 9223372036854775807) (hg : gameP l cap fuel = 0) : Holds Tryz.prog 7 [.game l cap fuel] [] (fun r h' => r = .tup [.c (.ptr (.loc [12]) 0), .int .i64 0] ∧ h' = [(.loc [12], rfB (.loc [12]) (ctNew l cap fuel))]) := by
  refine holds_of_awp Tryz.func7 rfl (by decide +kernel) mixed Tryz.ntmps7 Tryz.results7 ?_
  refine zE ?_
  refine zc ?_;try exact trivial
  refine a_call [] (rcheck10_h l cap fuel hl) ok0 ?_ ?_ ?_
  · refine zs ?_;try exact trivial
  · refine zs ?_;try exact trivial
  rintro _ _ ⟨rfl, rfl⟩
  rw [hg]
  refine zc ?_;try exact trivial
  exact rf_le ⟨leC_refl _, rfl, rfl, nil_row rfl (by omega), nil_row rfl (by omega), nil_row rfl (by omega), rfl, rfl, rfl, rfl, rfl, rfl, rfl, rfl, rfl⟩
def seatR (c : Ct) (x : Int) : Int := if c.opn = true then seatP c x else -1
theorem rseat_h (c : Ct) (x : Int) : Holds Tryz.prog 27 [.ptr (.arg 0) 0, .int .i64 x] [(.arg 0, rfB (.arg 0) c)] (fun r h' => r = .int .i64 (seatR c x) ∧ h' = [(.arg 0, rfB (.arg 0) c)]) := by
  refine holds_of_awp Tryz.func27 rfl (by decide +kernel) mixed Tryz.ntmps27 Tryz.results27 ?_
  refine zE ?_
  refine zs ?_;try exact trivial
  refine a_loopk (fun k : Nat => ⟨[V.cell (.ptr (.arg 0) 0), V.int .i64 x, U, U, U, V.int .i64 k, U, U, U, U, U, U, U, U, U, U, U, U, U, U, U, U, U, U, .undef], [(.arg 0, rfB (.arg 0) c)]⟩) (fun k => k ≤ 2 ∧ (0 < k → c.p0 ≠ x) ∧ (1 < k → c.p1 ≠ x)) (2 - ·) 0 ⟨by omega, by omega, by omega⟩ ?_ ?_
  · try (refine zs ?_; try exact trivial)
  rintro k ⟨hk, h0, h1⟩
  cases o : c.opn
  · have e : seatR c x = -1 := by unfold seatR; rw [if_neg (by rw [o]; simp)]
    rw [e]
    simp (maxSteps:=2000000) (disch:=omega) only [go_sem,Nat.reduceAdd,Nat.reduceSub,Nat.reduceMul,Nat.reduceBEq,Nat.reduceEqDiff,Nat.reduceLT,Nat.reduceLeDiff,Nat.reduceDiv,reduceIte,reduceCtorEq, o]
    all_goals simp only [@eq_comm Int 0]
  have e : seatR c x = seatP c x := by unfold seatR; rw [if_pos o]
  rw [e]
  rcases (by omega : k = 0 ∨ k = 1 ∨ k = 2) with rfl | rfl | rfl
  · simp (maxSteps:=2000000) (disch:=omega) only [go_sem,Nat.reduceAdd,Nat.reduceSub,Nat.reduceMul,Nat.reduceBEq,Nat.reduceEqDiff,Nat.reduceLT,Nat.reduceLeDiff,Nat.reduceDiv,reduceIte,reduceCtorEq, o, Int.reduceLT]
    refine c_dec (fun h => ?_) (fun h => ?_)
    · have e : seatP c x = 0 := by unfold seatP; rw [if_pos h]
      rw [e]
      refine zc ?_;try exact trivial
    refine zc ?_;try exact trivial
    exact ⟨1, by omega, ⟨by omega, fun _ q => h q, by omega⟩, rfl⟩
  · have h0' := h0 (by omega)
    simp (maxSteps:=2000000) (disch:=omega) only [go_sem,Nat.reduceAdd,Nat.reduceSub,Nat.reduceMul,Nat.reduceBEq,Nat.reduceEqDiff,Nat.reduceLT,Nat.reduceLeDiff,Nat.reduceDiv,reduceIte,reduceCtorEq, o, Int.reduceLT]
    refine c_dec (fun h => ?_) (fun h => ?_)
    · have e : seatP c x = 1 := by unfold seatP; rw [if_neg h0', if_pos h]
      rw [e]
      refine zc ?_;try exact trivial
    refine zc ?_;try exact trivial
    exact ⟨2, by omega, ⟨by omega, fun _ => h0', fun _ q => h q⟩, rfl⟩
  have h0' := h0 (by omega)
  have h1' := h1 (by omega)
  have e : seatP c x = -1 := by simp [seatP, h0', h1']
  rw [e]
  simp (maxSteps:=2000000) (disch:=omega) only [go_sem,Nat.reduceAdd,Nat.reduceSub,Nat.reduceMul,Nat.reduceBEq,Nat.reduceEqDiff,Nat.reduceLT,Nat.reduceLeDiff,Nat.reduceDiv,reduceIte,reduceCtorEq, o, Int.reduceLT]
  all_goals simp only [@eq_comm Int 0]
set_option maxRecDepth 20000 in
set_option maxHeartbeats 16000000 in
theorem rpairs_h (c : Ct) (h : Inv18 c) (hl : c.events.length ≤ 100000) : Holds Tryz.prog 32 [.ptr (.arg 0) 0] [(.arg 0, rfB (.arg 0) c)] (fun r h' => r = .cell (.lst .no none 2 (prs c.pairs)) ∧ h' = [(.arg 0, rfB (.arg 0) c)]) := by
  have l0 := h.e0
  have l1 := h.e1
  have le := h.le
  have hcl := game_len h.g
  have hst := rstart_h c.seed
  refine holds_of_awp Tryz.func32 rfl (by decide +kernel) mixed Tryz.ntmps32 Tryz.results32 ?_
  refine zE ?_
  refine zc ?_;try exact trivial
  refine a_call [] (hst) ok0 ?_ ?_ ?_
  · refine zs ?_;try exact trivial
  · refine zs ?_;try exact trivial
  rintro _ _ ⟨rfl, rfl⟩
  refine zc ?_;try exact trivial
  refine a_loopk (fun i : Nat => ⟨[V.cell (.ptr (.arg 0) 0), .undef, V.cell (.lst .full (some true) 1 []), V.cell (.lst (.tag (.slot [57])) none 2 (prs (pzs c.in0 c.in1 i))), V.cell (.ptr (.loc [4]) 0), V.int .i64 (i : Int), U, U, U, U, U, U, U, U, U, U, U, U, U, U, U, U, U, U, U, U, U, U, U, U, U, U, U, U, U, U, U, U, U, U, U, U, U, U, U, U, U, U, U, U, U, U, U, U, U, U, U, U, U, U, U, U, U, U, U, U, U, U, .undef], [(.loc [4], (sd (foS c.code c.cap c.fuel (startS c.seed) (pz c.in0 c.in1) (i))).map D.toC), (.arg 0, rfB (.arg 0) c)]⟩) (fun i => i ≤ c.pairs.length) (fun i => c.pairs.length - i) 0 (by omega) ?_ ?_
  · have e0 : prs (pzs c.in0 c.in1 0) = [] := rfl
    have e1 : foS c.code c.cap c.fuel (startS c.seed) (pz c.in0 c.in1) (0) = startS c.seed := rfl
    rw [e0, e1]
    refine zs ?_;try exact trivial
    all_goals first | exact nil_row rfl (by omega) | exact ⟨nil_row rfl (by omega), leCs_refl _⟩ | trace_state
  intro i hi
  refine zs ?_;try exact trivial
  by_cases hm : i < c.pairs.length
  · have g1 : decide ((i : Int) < (c.in0.length : Int)) = true := decide_eq_true (by omega)
    have g2 : decide ((i : Int) < (c.in1.length : Int)) = true := decide_eq_true (by omega)
    have ho := h.no i hm
    have hB : ∀ x ∈ (foS c.code c.cap c.fuel (startS c.seed) (pz c.in0 c.in1) (i)).cells, B32 x := foS_B (start_B c.seed) _
    have hi0 : i < c.in0.length := by omega
    have hi1 : i < c.in1.length := by omega
    simp (maxSteps:=2000000) (disch:=omega) only [go_sem,Nat.reduceAdd,Nat.reduceSub,Nat.reduceMul,Nat.reduceBEq,Nat.reduceEqDiff,Nat.reduceLT,Nat.reduceLeDiff,Nat.reduceDiv,reduceIte,reduceCtorEq, g1, g2, ho, Bool.not_false]
    refine a_drawC (⟨[V.cell (.ptr (.arg 0) 0), .undef, V.cell (.lst .full (some true) 1 []), V.cell (.lst (.tag (.slot [57])) none 2 (prs (pzs c.in0 c.in1 i))), V.cell (.ptr (.loc [4]) 0), V.int .i64 (i : Int), V.cell (.ptr (.loc [6]) 0), U, U, U, U, U, U, U, U, U, U, U, U, U, U, U, U, U, U, U, U, U, U, U, U, U, U, U, U, U, U, U, U, U, U, U, U, U, U, U, U, U, U, U, U, U, U, U, U, U, U, U, U, U, U, U, U, U, U, U, U, U, .undef], [(.loc [6], [.val (.int .u16 (U16 (c.in0.getD i 0))), .val (.int .u16 (U16 (c.in1.getD i 0)))]), (.loc [4], (sd (foS c.code c.cap c.fuel (startS c.seed) (pz c.in0 c.in1) (i))).map D.toC), (.arg 0, rfB (.arg 0) c)]⟩) (.take 0 (.take 1 (.take 2 (.take 3 (.take 5 (.take 8 (.take 9 (.take 10 (.take 11 (.take 13 (.both [(4, .take 6 (.both [(7, .both [(12, .take 14 (.both [(15, .both [(16, .both [(17, .both [(18, .done)])]), (17, .both [(16, .both [(18, .done)])])]), (17, .both [(15, .both [(16, .both [(18, .done)])])])])), (17, .both [(12, .take 14 (.both [(15, .both [(16, .both [(18, .done)])])]))])]), (12, .take 14 (.both [(7, .both [(15, .both [(16, .both [(17, .both [(18, .done)])]), (17, .both [(16, .both [(18, .done)])])]), (17, .both [(15, .both [(16, .both [(18, .done)])])])]), (15, .both [(7, .both [(16, .both [(17, .both [(18, .done)])]), (17, .both [(16, .both [(18, .done)])])]), (17, .both [(7, .both [(16, .both [(18, .done)])])])]), (17, .both [(7, .both [(15, .both [(16, .both [(18, .done)])])]), (15, .both [(7, .both [(16, .both [(18, .done)])])])])])), (17, .both [(7, .both [(12, .take 14 (.both [(15, .both [(16, .both [(18, .done)])])]))]), (12, .take 14 (.both [(7, .both [(15, .both [(16, .both [(18, .done)])])]), (15, .both [(7, .both [(16, .both [(18, .done)])])])]))])])), (12, .take 14 (.both [(4, .take 6 (.both [(7, .both [(15, .both [(16, .both [(17, .both [(18, .done)])]), (17, .both [(16, .both [(18, .done)])])]), (17, .both [(15, .both [(16, .both [(18, .done)])])])]), (15, .both [(7, .both [(16, .both [(17, .both [(18, .done)])]), (17, .both [(16, .both [(18, .done)])])]), (17, .both [(7, .both [(16, .both [(18, .done)])])])]), (17, .both [(7, .both [(15, .both [(16, .both [(18, .done)])])]), (15, .both [(7, .both [(16, .both [(18, .done)])])])])])), (15, .both [(4, .take 6 (.both [(7, .both [(16, .both [(17, .both [(18, .done)])]), (17, .both [(16, .both [(18, .done)])])]), (17, .both [(7, .both [(16, .both [(18, .done)])])])])), (17, .both [(4, .take 6 (.both [(7, .both [(16, .both [(18, .done)])])]))])]), (17, .both [(4, .take 6 (.both [(7, .both [(15, .both [(16, .both [(18, .done)])])]), (15, .both [(7, .both [(16, .both [(18, .done)])])])])), (15, .both [(4, .take 6 (.both [(7, .both [(16, .both [(18, .done)])])]))])])])), (17, .both [(4, .take 6 (.both [(7, .both [(12, .take 14 (.both [(15, .both [(16, .both [(18, .done)])])]))]), (12, .take 14 (.both [(7, .both [(15, .both [(16, .both [(18, .done)])])]), (15, .both [(7, .both [(16, .both [(18, .done)])])])]))])), (12, .take 14 (.both [(4, .take 6 (.both [(7, .both [(15, .both [(16, .both [(18, .done)])])]), (15, .both [(7, .both [(16, .both [(18, .done)])])])])), (15, .both [(4, .take 6 (.both [(7, .both [(16, .both [(18, .done)])])]))])]))])]))))))))))) (by kernel_rfl) (by kernel_rfl) ?_ ?_
    · refine zc ?_;try exact trivial
      all_goals simp only [@eq_comm Int 0]
    refine zc ?_;try exact trivial
    refine ⟨by rw [pzs_len]; omega, ?_⟩
    refine a_drawC (⟨[V.cell (.ptr (.arg 0) 0), .undef, V.cell (.lst .full (some true) 1 []), V.cell (.lst (.tag (.slot [57])) none 2 (prs (pzs c.in0 c.in1 (i + 1)))), V.cell (.ptr (.loc [4]) 0), V.int .i64 (i : Int), U, U, U, U, U, U, U, U, U, U, U, U, U, U, U, U, U, U, U, U, U, U, U, U, U, U, U, U, U, U, U, U, U, U, U, U, U, U, U, U, U, U, U, U, U, U, U, U, U, U, U, U, U, U, U, U, U, U, U, U, U, U, .undef], [(.loc [4], (sd (foS c.code c.cap c.fuel (startS c.seed) (pz c.in0 c.in1) (i + 1))).map D.toC), (.arg 0, rfB (.arg 0) c)]⟩) (.take 0 (.take 1 (.take 2 (.both [(3, .both [(4, .both [(5, .both [(6, .take 7 (.take 8 (.take 9 (.both [(10, .done)]))))])]), (5, .both [(4, .both [(6, .take 7 (.take 8 (.take 9 (.both [(10, .done)]))))])])]), (4, .both [(3, .both [(5, .both [(6, .take 7 (.take 8 (.take 9 (.both [(10, .done)]))))])]), (5, .both [(3, .both [(6, .take 7 (.take 8 (.take 9 (.both [(10, .done)]))))])])]), (5, .both [(3, .both [(4, .both [(6, .take 7 (.take 8 (.take 9 (.both [(10, .done)]))))])]), (4, .both [(3, .both [(6, .take 7 (.take 8 (.take 9 (.both [(10, .done)]))))])])])])))) (by kernel_rfl) (by kernel_rfl) ?_ ?_
    · rw [pzs_succ]
      refine zc ?_;try exact trivial
      have hstep := rstep_h c.code c.cap c.fuel (foS c.code c.cap c.fuel (startS c.seed) (pz c.in0 c.in1) (i)) (c.in0.getD i 0) (c.in1.getD i 0) (by omega) hB
      refine a_call [] (hstep) ok0 ?_ ?_ ?_
      · refine zs ?_;try exact trivial
      · refine zs ?_;try exact trivial
      rintro _ _ ⟨rfl, rfl⟩
      refine zc ?_;try exact trivial
      all_goals first | exact leCs_refl _ | exact ⟨rfl, leCs_refl _⟩ | trace_state
    refine zc ?_;try exact trivial
    refine ⟨i + 1, by omega, by omega, ?_⟩
    try (refine zc ?_; try exact trivial)
  have e : i = c.pairs.length := by omega
  subst e
  cases g1 : decide ((c.pairs.length : Int) < (c.in0.length : Int))
  · rw [← h.pairs]
    simp (maxSteps:=2000000) (disch:=omega) only [go_sem,Nat.reduceAdd,Nat.reduceSub,Nat.reduceMul,Nat.reduceBEq,Nat.reduceEqDiff,Nat.reduceLT,Nat.reduceLeDiff,Nat.reduceDiv,reduceIte,reduceCtorEq, g1]
    all_goals simp only [@eq_comm Int 0]
  cases g2 : decide ((c.pairs.length : Int) < (c.in1.length : Int))
  · rw [← h.pairs]
    simp (maxSteps:=2000000) (disch:=omega) only [go_sem,Nat.reduceAdd,Nat.reduceSub,Nat.reduceMul,Nat.reduceBEq,Nat.reduceEqDiff,Nat.reduceLT,Nat.reduceLeDiff,Nat.reduceDiv,reduceIte,reduceCtorEq, g1, g2]
  have q1 := of_decide_eq_true g1
  have q2 := of_decide_eq_true g2
  have ho : (foS c.code c.cap c.fuel (startS c.seed) (pz c.in0 c.in1) (c.pairs.length)).over = true := by
    rw [← h.st]
    rcases h.up with q | q
    · omega
    exact q
  rw [← h.pairs]
  simp (maxSteps:=2000000) (disch:=omega) only [go_sem,Nat.reduceAdd,Nat.reduceSub,Nat.reduceMul,Nat.reduceBEq,Nat.reduceEqDiff,Nat.reduceLT,Nat.reduceLeDiff,Nat.reduceDiv,reduceIte,reduceCtorEq, g1, g2, ho, Bool.not_true]
theorem Inv18.gp {c : Ct} (h : Inv18 c) {n : Nat} (hn : n ≤ c.pairs.length) : foS c.code c.cap c.fuel (startS c.seed) (Proofs.YtamcjecgkfmjkaaGreat.gp c.pairs) n = foS c.code c.cap c.fuel (startS c.seed) (pz c.in0 c.in1) n :=
  foS_congr fun j hj => by
    have e := h.pairs
    generalize c.pairs.length = m at e hn
    rw [e]
    unfold Proofs.YtamcjecgkfmjkaaGreat.gp pzs
    rw [List.getD_eq_getElem?_getD]
    simp [show j < m by omega]
theorem Inv18.play {c : Ct} (h : Inv18 c) (hl : c.events.length ≤ 100000) : Holds Tryz.prog 40 [.game c.code c.cap c.fuel, .c (.val (.int .u32 (U32 c.seed))), .c (.lst .no none 2 (prs c.pairs))] [] (fun r h' => r = .tup [.agg ((sd c.st).map D.toC), .int .i64 0] ∧ h' = []) := by
  have l0 := h.e0
  have le := h.le
  have hcl := game_len h.g
  have hp := rplay_h c.code c.cap c.fuel c.seed c.pairs (by omega) h.g (by omega) (fun j hj => by rw [h.gp (by omega)]; exact h.no j hj)
  rw [h.gp (Nat.le_refl _), ← h.st] at hp
  exact hp
set_option maxRecDepth 20000 in
set_option maxHeartbeats 16000000 in
theorem rst_h (c : Ct) (h : Inv18 c) (hl : c.events.length ≤ 100000) : Holds Tryz.prog 25 [.ptr (.arg 0) 0] [(.arg 0, rfB (.arg 0) c)] (fun r h' => r = .w (.agg ((sd c.st).map D.toC)) ∧ h' = [(.arg 0, rfB (.arg 0) c)]) := by
  have hp := rpairs_h c h hl
  have hy := h.play hl
  refine holds_of_awp Tryz.func25 rfl (by decide +kernel) mixed Tryz.ntmps25 Tryz.results25 ?_
  refine zE ?_
  refine zc ?_;try exact trivial
  refine a_drawC (⟨[V.cell (.ptr (.arg 0) 0), .undef, V.cell (.ptr (.loc [2]) 0), V.cell (.ptr (.loc [3]) 0), V.int .i64 0, U, U, U, U, U, U, U, U, U, U, U, U, U, U, .undef], [(.loc [3], (sd c.st).map D.toC), (.loc [2], (sd (stz 0 0)).map D.toC), (.arg 0, rfB (.arg 0) c)]⟩) (.take 0 (.take 1 (.take 2 (.take 4 (.take 5 (.take 6 (.take 8 (.both [(3, .both [(7, .both [(9, .both [(10, .take 11 (.take 12 (.take 13 (.both [(14, .both [(15, .take 16 (.done))])])))), (14, .both [(10, .take 11 (.take 12 (.take 13 (.both [(15, .take 16 (.done))]))))])]), (14, .both [(9, .both [(10, .take 11 (.take 12 (.take 13 (.both [(15, .take 16 (.done))]))))])])]), (9, .both [(7, .both [(10, .take 11 (.take 12 (.take 13 (.both [(14, .both [(15, .take 16 (.done))])])))), (14, .both [(10, .take 11 (.take 12 (.take 13 (.both [(15, .take 16 (.done))]))))])]), (14, .both [(7, .both [(10, .take 11 (.take 12 (.take 13 (.both [(15, .take 16 (.done))]))))])])]), (14, .both [(7, .both [(9, .both [(10, .take 11 (.take 12 (.take 13 (.both [(15, .take 16 (.done))]))))])]), (9, .both [(7, .both [(10, .take 11 (.take 12 (.take 13 (.both [(15, .take 16 (.done))]))))])])])]), (7, .both [(3, .both [(9, .both [(10, .take 11 (.take 12 (.take 13 (.both [(14, .both [(15, .take 16 (.done))])])))), (14, .both [(10, .take 11 (.take 12 (.take 13 (.both [(15, .take 16 (.done))]))))])]), (14, .both [(9, .both [(10, .take 11 (.take 12 (.take 13 (.both [(15, .take 16 (.done))]))))])])]), (9, .both [(3, .both [(10, .take 11 (.take 12 (.take 13 (.both [(14, .both [(15, .take 16 (.done))])])))), (14, .both [(10, .take 11 (.take 12 (.take 13 (.both [(15, .take 16 (.done))]))))])]), (14, .both [(3, .both [(10, .take 11 (.take 12 (.take 13 (.both [(15, .take 16 (.done))]))))])])]), (14, .both [(3, .both [(9, .both [(10, .take 11 (.take 12 (.take 13 (.both [(15, .take 16 (.done))]))))])]), (9, .both [(3, .both [(10, .take 11 (.take 12 (.take 13 (.both [(15, .take 16 (.done))]))))])])])]), (9, .both [(3, .both [(7, .both [(10, .take 11 (.take 12 (.take 13 (.both [(14, .both [(15, .take 16 (.done))])])))), (14, .both [(10, .take 11 (.take 12 (.take 13 (.both [(15, .take 16 (.done))]))))])]), (14, .both [(7, .both [(10, .take 11 (.take 12 (.take 13 (.both [(15, .take 16 (.done))]))))])])]), (7, .both [(3, .both [(10, .take 11 (.take 12 (.take 13 (.both [(14, .both [(15, .take 16 (.done))])])))), (14, .both [(10, .take 11 (.take 12 (.take 13 (.both [(15, .take 16 (.done))]))))])]), (14, .both [(3, .both [(10, .take 11 (.take 12 (.take 13 (.both [(15, .take 16 (.done))]))))])])]), (14, .both [(3, .both [(7, .both [(10, .take 11 (.take 12 (.take 13 (.both [(15, .take 16 (.done))]))))])]), (7, .both [(3, .both [(10, .take 11 (.take 12 (.take 13 (.both [(15, .take 16 (.done))]))))])])])]), (14, .both [(3, .both [(7, .both [(9, .both [(10, .take 11 (.take 12 (.take 13 (.both [(15, .take 16 (.done))]))))])]), (9, .both [(7, .both [(10, .take 11 (.take 12 (.take 13 (.both [(15, .take 16 (.done))]))))])])]), (7, .both [(3, .both [(9, .both [(10, .take 11 (.take 12 (.take 13 (.both [(15, .take 16 (.done))]))))])]), (9, .both [(3, .both [(10, .take 11 (.take 12 (.take 13 (.both [(15, .take 16 (.done))]))))])])]), (9, .both [(3, .both [(7, .both [(10, .take 11 (.take 12 (.take 13 (.both [(15, .take 16 (.done))]))))])]), (7, .both [(3, .both [(10, .take 11 (.take 12 (.take 13 (.both [(15, .take 16 (.done))]))))])])])])])))))))) (by kernel_rfl) (by kernel_rfl) ?_ ?_
  · refine zc ?_;try exact trivial
    repeat' (with_reducible apply And.intro)
    all_goals (
      refine a_call [.arg 0] (hp) (ok1 rfl) ?_ ?_ ?_
      · refine zs ?_;try exact trivial
      · refine zs ?_;try exact trivial
      rintro _ _ ⟨rfl, rfl⟩
      refine zc ?_;try exact trivial
      repeat' (with_reducible apply And.intro)
      all_goals (
        refine a_call [] (hy) ok0 ?_ ?_ ?_
        · refine zs ?_;try exact trivial
        · refine zs ?_;try exact trivial
        rintro _ _ ⟨rfl, rfl⟩
        (refine zc ?_; try exact trivial)))
    all_goals first | exact leCs_refl _ | trace_state
  refine zc ?_;try exact trivial
  all_goals first | exact leCs_refl _ | trace_state
/-- has an event nothing but what its kind names, and is its kind one? -/
def formB (e : Ev) : Bool := if e.kind < 1 ∨ 6 ≤ e.kind then false else bareB e
set_option maxRecDepth 20000 in
set_option maxHeartbeats 16000000 in
theorem rform_h (e : Ev) : Holds Tryz.prog 26 [.ev e] [] (fun r h' => r = V.bool (formB e) ∧ h' = []) := by
  refine holds_of_awp Tryz.func26 rfl (by decide +kernel) mixed Tryz.ntmps26 Tryz.results26 ?_
  refine zE ?_
  by_cases hk : e.kind < 1 ∨ 6 ≤ e.kind
  · have ef : formB e = false := by unfold formB; rw [if_pos hk]
    have k1 : decide (e.kind = 1) = false := decide_eq_false (by omega)
    have k2 : decide (e.kind = 2) = false := decide_eq_false (by omega)
    have k3 : decide (e.kind = 3) = false := decide_eq_false (by omega)
    have k4 : decide (e.kind = 4) = false := decide_eq_false (by omega)
    have k5 : decide (e.kind = 5) = false := decide_eq_false (by omega)
    rw [ef]
    simp (maxSteps:=2000000) (disch:=omega) only [go_sem,Nat.reduceAdd,Nat.reduceSub,Nat.reduceMul,Nat.reduceBEq,Nat.reduceEqDiff,Nat.reduceLT,Nat.reduceLeDiff,Nat.reduceDiv,reduceIte,reduceCtorEq, k1, k2, k3, k4, k5]
  have ef : formB e = bareB e := by unfold formB; rw [if_neg hk]
  rw [ef]
  obtain ⟨kind, player, other, frame, inp, n⟩ := e
  simp only at hk ⊢
  rcases (by omega : kind = 1 ∨ kind = 2 ∨ kind = 3 ∨ kind = 4 ∨ kind = 5) with rfl | rfl | rfl | rfl | rfl
  · unfold bareB
    refine zc ?_;try exact trivial
    refine a_drawC (⟨[.undef, V.cell (.ptr (.loc [1]) 0), V.bool false, V.cell (.ptr (.loc [3]) 0), U, U, U, U, U, U, U, U, U, U, U, U, U, U, U, U, U, U, U, U, U, U, U, U, U, U, U, U, U, U, U, U, U, U, U, U, U, U, U, U, U, U, U, .undef], [(.loc [3], evC ⟨1, player, other, 0, 0, n⟩), (.loc [1], evC ⟨1, player, other, frame, inp, n⟩)]⟩) (.take 0 (.take 2 (.take 4 (.both [(1, .take 6 (.both [(3, .both [(5, .both [(7, .take 8 (.both [(9, .take 10 (.both [(11, .done)]))]))]), (7, .take 8 (.both [(5, .both [(9, .take 10 (.both [(11, .done)]))]), (9, .both [(5, .take 10 (.both [(11, .done)]))])]))]), (5, .both [(3, .both [(7, .take 8 (.both [(9, .take 10 (.both [(11, .done)]))]))]), (7, .both [(3, .take 8 (.both [(9, .take 10 (.both [(11, .done)]))]))])]), (7, .both [(3, .take 8 (.both [(5, .both [(9, .take 10 (.both [(11, .done)]))]), (9, .both [(5, .take 10 (.both [(11, .done)]))])])), (5, .both [(3, .take 8 (.both [(9, .take 10 (.both [(11, .done)]))]))])])])), (3, .both [(1, .take 6 (.both [(5, .both [(7, .take 8 (.both [(9, .take 10 (.both [(11, .done)]))]))]), (7, .take 8 (.both [(5, .both [(9, .take 10 (.both [(11, .done)]))]), (9, .both [(5, .take 10 (.both [(11, .done)]))])]))])), (5, .both [(1, .take 6 (.both [(7, .take 8 (.both [(9, .take 10 (.both [(11, .done)]))]))]))])]), (5, .both [(1, .take 6 (.both [(3, .both [(7, .take 8 (.both [(9, .take 10 (.both [(11, .done)]))]))]), (7, .both [(3, .take 8 (.both [(9, .take 10 (.both [(11, .done)]))]))])])), (3, .both [(1, .take 6 (.both [(7, .take 8 (.both [(9, .take 10 (.both [(11, .done)]))]))]))])])])))) (by kernel_rfl) (by kernel_rfl) ?_ ?_
    · refine zc ?_;try exact trivial
      repeat' (with_reducible apply And.intro)
      all_goals first | exact leCs_refl _ | trace_state
    refine zc ?_;try exact trivial
    all_goals simp only [@eq_comm Int 0]
  · unfold bareB
    refine zc ?_;try exact trivial
    all_goals simp only [@eq_comm Int 0]
  · unfold bareB
    refine zc ?_;try exact trivial
    refine a_drawC (⟨[.undef, V.cell (.ptr (.loc [1]) 0), V.bool false, V.cell (.ptr (.loc [3]) 0), U, U, U, U, U, U, U, U, U, U, U, U, U, U, U, U, U, U, U, U, U, U, U, U, U, U, U, U, U, U, U, U, U, U, U, U, U, U, U, U, U, U, U, .undef], [(.loc [3], evC ⟨3, player, 0, frame, inp, 0⟩), (.loc [1], evC ⟨3, player, other, frame, inp, n⟩)]⟩) (.take 0 (.take 2 (.take 4 (.both [(1, .take 6 (.both [(3, .both [(5, .both [(7, .take 8 (.both [(9, .take 10 (.both [(11, .done)]))]))]), (7, .take 8 (.both [(5, .both [(9, .take 10 (.both [(11, .done)]))]), (9, .both [(5, .take 10 (.both [(11, .done)]))])]))]), (5, .both [(3, .both [(7, .take 8 (.both [(9, .take 10 (.both [(11, .done)]))]))]), (7, .both [(3, .take 8 (.both [(9, .take 10 (.both [(11, .done)]))]))])]), (7, .both [(3, .take 8 (.both [(5, .both [(9, .take 10 (.both [(11, .done)]))]), (9, .both [(5, .take 10 (.both [(11, .done)]))])])), (5, .both [(3, .take 8 (.both [(9, .take 10 (.both [(11, .done)]))]))])])])), (3, .both [(1, .take 6 (.both [(5, .both [(7, .take 8 (.both [(9, .take 10 (.both [(11, .done)]))]))]), (7, .take 8 (.both [(5, .both [(9, .take 10 (.both [(11, .done)]))]), (9, .both [(5, .take 10 (.both [(11, .done)]))])]))])), (5, .both [(1, .take 6 (.both [(7, .take 8 (.both [(9, .take 10 (.both [(11, .done)]))]))]))])]), (5, .both [(1, .take 6 (.both [(3, .both [(7, .take 8 (.both [(9, .take 10 (.both [(11, .done)]))]))]), (7, .both [(3, .take 8 (.both [(9, .take 10 (.both [(11, .done)]))]))])])), (3, .both [(1, .take 6 (.both [(7, .take 8 (.both [(9, .take 10 (.both [(11, .done)]))]))]))])])])))) (by kernel_rfl) (by kernel_rfl) ?_ ?_
    · refine zc ?_;try exact trivial
      repeat' (with_reducible apply And.intro)
      all_goals first | exact leCs_refl _ | trace_state
    refine zc ?_;try exact trivial
    all_goals simp only [@eq_comm Int 0]
  · unfold bareB
    refine zc ?_;try exact trivial
    all_goals simp only [@eq_comm Int 0]
  unfold bareB
  refine zc ?_;try exact trivial
  refine a_drawC (⟨[.undef, V.cell (.ptr (.loc [1]) 0), V.bool false, V.cell (.ptr (.loc [3]) 0), U, U, U, U, U, U, U, U, U, U, U, U, U, U, U, U, U, U, U, U, U, U, U, U, U, U, U, U, U, U, U, U, U, U, U, U, U, U, U, U, U, U, U, .undef], [(.loc [3], evC ⟨5, player, 0, 0, 0, n⟩), (.loc [1], evC ⟨5, player, other, frame, inp, n⟩)]⟩) (.take 0 (.take 2 (.both [(1, .take 4 (.both [(3, .both [(5, .take 6 (.both [(7, .done)]))]), (5, .both [(3, .take 6 (.both [(7, .done)]))])])), (3, .both [(1, .take 4 (.both [(5, .take 6 (.both [(7, .done)]))]))])]))) (by kernel_rfl) (by kernel_rfl) ?_ ?_
  · refine zc ?_;try exact trivial
    repeat' (with_reducible apply And.intro)
    all_goals first | exact leCs_refl _ | trace_state
  refine zc ?_;try exact trivial
  all_goals simp only [@eq_comm Int 0]
end
section
theorem rresult_h (s : Sta) (cap fuel : Int) (l : List (Int × Int)) : Holds Tryz.prog 24 [.agg ((sd s).map D.toC), .agg [.lst .no none 2 (ins l), .val (.int .i64 cap), .val (.int .i64 fuel)]] [] (fun r h' => r = .tup [.int .i64 (resP s cap).1, .int .i64 (resP s cap).2.1, .c (.val (.bool (resP s cap).2.2))] ∧ h' = []) := by
  refine holds_of_awp Tryz.func24 rfl (by decide +kernel) mixed Tryz.ntmps24 Tryz.results24 ?_
  refine zE ?_
  refine zs ?_;try exact trivial
  refine c_b (fun d => ?_) (fun d => ?_)
  · have d' : s.over = false := by simpa using d
    have e : resP s cap = (0, 0, false) := by unfold resP; rw [if_pos d']
    rw [e]
    refine zs ?_;try exact trivial
  have d' : s.over = true := by simpa using d
  refine zs ?_;try exact trivial
  refine c_dec (fun w => ?_) (fun w => ?_)
  · refine zs ?_;try exact trivial
    refine c_dec (fun f => ?_) (fun f => ?_)
    · have e : resP s cap = (0, 2, true) := by unfold resP; rw [if_neg (by simp [d']), if_pos w, if_pos f]
      rw [e]
      refine zs ?_;try exact trivial
    have e : resP s cap = (0, 1, true) := by unfold resP; rw [if_neg (by simp [d']), if_pos w, if_neg f]
    rw [e]
    refine zs ?_;try exact trivial
  refine zs ?_;try exact trivial
  refine c_dec (fun f => ?_) (fun f => ?_)
  · have e : resP s cap = (s.win, 2, true) := by unfold resP; rw [if_neg (by simp [d']), if_neg w, if_pos f]
    rw [e]
    refine zs ?_;try exact trivial
  have e : resP s cap = (s.win, 1, true) := by unfold resP; rw [if_neg (by simp [d']), if_neg w, if_neg f]
  rw [e]
  refine zs ?_;try exact trivial
theorem res_win {s : Sta} {cap : Int} (h : 0 ≤ s.win ∧ s.win ≤ 2) : (resP s cap).1 = 0 ∨ (resP s cap).1 = 1 := by
  unfold resP
  split
  · exact .inl rfl
  show (if s.win = 2 then 0 else s.win) = 0 ∨ (if s.win = 2 then 0 else s.win) = 1
  split <;> omega

set_option maxRecDepth 20000 in
set_option maxHeartbeats 16000000 in
theorem rmay1_h (c : Ct) (player other frame n : Int) (inp : UInt16) (h : Inv18 c) (hl : c.events.length ≤ 100000) : Holds Tryz.prog 10 [.ptr (.arg 0) 0, .ev ⟨1, player, other, frame, inp, n⟩] [(.arg 0, rfB (.arg 0) c)] (fun r h' => r = .int .i64 (mayP18 c ⟨1, player, other, frame, inp, n⟩) ∧ h' = [(.arg 0, rfB (.arg 0) c)]) := by
  have hf := rform_h ⟨1, player, other, frame, inp, n⟩
  have ef : formB ⟨1, player, other, frame, inp, n⟩ = bareB ⟨1, player, other, frame, inp, n⟩ := by unfold formB; rw [if_neg (by simp only; omega)]
  rw [ef] at hf
  have em : mayP18 c ⟨1, player, other, frame, inp, n⟩ = if bareB ⟨1, player, other, frame, inp, n⟩ = true then mayOpenP c ⟨1, player, other, frame, inp, n⟩ else 3 := by unfold mayP18; rw [if_neg (by simp only; omega)]; rfl
  rw [em]
  clear em ef
  generalize bareB ⟨1, player, other, frame, inp, n⟩ = bb at hf ⊢
  have l0 := h.e0
  have l1 := h.e1
  refine holds_of_awp Tryz.func10 rfl (by decide +kernel) mixed Tryz.ntmps10 Tryz.results10 ?_
  refine zE ?_
  refine zc ?_;try exact trivial
  refine a_call [] (hf) ok0 ?_ ?_ ?_
  · refine zs ?_;try exact trivial
  · refine zs ?_;try exact trivial
  rintro _ _ ⟨rfl, rfl⟩
  cases bb
  · rw [if_neg (by simp)]
    refine zc ?_;try exact trivial
    all_goals first | exact leCs_refl _ | exact rf_le ⟨leC_refl _, rfl, rfl, leC_refl _, leC_refl _, leC_refl _, rfl, rfl, rfl, rfl, rfl, by first | rfl | assumption, by first | rfl | assumption, rfl, rfl⟩ | trace_state
  rw [if_pos rfl]
  refine zc ?_;try exact trivial
  cases o : c.opn
  · simp (maxSteps:=2000000) (disch:=omega) only [go_sem,Nat.reduceAdd,Nat.reduceSub,Nat.reduceMul,Nat.reduceBEq,Nat.reduceEqDiff,Nat.reduceLT,Nat.reduceLeDiff,Nat.reduceDiv,reduceIte,reduceCtorEq, o]
    cases d1 : decide (player < 1)
    · skip
      cases d2 : decide (other < 1)
      · skip
        cases d3 : decide (player = other)
        · skip
          cases d4 : decide (n < 0)
          · skip
            cases d5 : decide (4294967295 < n)
            · skip
              have e : mayOpenP c ⟨1, player, other, frame, inp, n⟩ = 0 := by unfold mayOpenP; rw [if_neg (by rw [o]; simp), if_neg (by simp only; have f1 := of_decide_eq_false d1; have f2 := of_decide_eq_false d2; have f3 := of_decide_eq_false d3; have f4 := of_decide_eq_false d4; have f5 := of_decide_eq_false d5; omega)]
              rw [e]
              simp (maxSteps:=2000000) (disch:=omega) only [go_sem,Nat.reduceAdd,Nat.reduceSub,Nat.reduceMul,Nat.reduceBEq,Nat.reduceEqDiff,Nat.reduceLT,Nat.reduceLeDiff,Nat.reduceDiv,reduceIte,reduceCtorEq, d1, d2, d3, d4, d5]
              all_goals first | exact leCs_refl _ | exact rf_le ⟨leC_refl _, rfl, rfl, leC_refl _, leC_refl _, leC_refl _, rfl, rfl, rfl, rfl, rfl, by first | rfl | assumption, by first | rfl | assumption, rfl, rfl⟩ | trace_state
            have e : mayOpenP c ⟨1, player, other, frame, inp, n⟩ = 1 := by unfold mayOpenP; rw [if_neg (by rw [o]; simp), if_pos (by simp only; have f := of_decide_eq_true d5; omega)]
            rw [e]
            simp (maxSteps:=2000000) (disch:=omega) only [go_sem,Nat.reduceAdd,Nat.reduceSub,Nat.reduceMul,Nat.reduceBEq,Nat.reduceEqDiff,Nat.reduceLT,Nat.reduceLeDiff,Nat.reduceDiv,reduceIte,reduceCtorEq, d1, d2, d3, d4, d5]
            all_goals first | exact leCs_refl _ | exact rf_le ⟨leC_refl _, rfl, rfl, leC_refl _, leC_refl _, leC_refl _, rfl, rfl, rfl, rfl, rfl, by first | rfl | assumption, by first | rfl | assumption, rfl, rfl⟩ | trace_state
          have e : mayOpenP c ⟨1, player, other, frame, inp, n⟩ = 1 := by unfold mayOpenP; rw [if_neg (by rw [o]; simp), if_pos (by simp only; have f := of_decide_eq_true d4; omega)]
          rw [e]
          simp (maxSteps:=2000000) (disch:=omega) only [go_sem,Nat.reduceAdd,Nat.reduceSub,Nat.reduceMul,Nat.reduceBEq,Nat.reduceEqDiff,Nat.reduceLT,Nat.reduceLeDiff,Nat.reduceDiv,reduceIte,reduceCtorEq, d1, d2, d3, d4]
          all_goals first | exact leCs_refl _ | exact rf_le ⟨leC_refl _, rfl, rfl, leC_refl _, leC_refl _, leC_refl _, rfl, rfl, rfl, rfl, rfl, by first | rfl | assumption, by first | rfl | assumption, rfl, rfl⟩ | trace_state
        have e : mayOpenP c ⟨1, player, other, frame, inp, n⟩ = 1 := by unfold mayOpenP; rw [if_neg (by rw [o]; simp), if_pos (by simp only; have f := of_decide_eq_true d3; omega)]
        rw [e]
        simp (maxSteps:=2000000) (disch:=omega) only [go_sem,Nat.reduceAdd,Nat.reduceSub,Nat.reduceMul,Nat.reduceBEq,Nat.reduceEqDiff,Nat.reduceLT,Nat.reduceLeDiff,Nat.reduceDiv,reduceIte,reduceCtorEq, d1, d2, d3]
        all_goals first | exact leCs_refl _ | exact rf_le ⟨leC_refl _, rfl, rfl, leC_refl _, leC_refl _, leC_refl _, rfl, rfl, rfl, rfl, rfl, by first | rfl | assumption, by first | rfl | assumption, rfl, rfl⟩ | trace_state
      have e : mayOpenP c ⟨1, player, other, frame, inp, n⟩ = 1 := by unfold mayOpenP; rw [if_neg (by rw [o]; simp), if_pos (by simp only; have f := of_decide_eq_true d2; omega)]
      rw [e]
      simp (maxSteps:=2000000) (disch:=omega) only [go_sem,Nat.reduceAdd,Nat.reduceSub,Nat.reduceMul,Nat.reduceBEq,Nat.reduceEqDiff,Nat.reduceLT,Nat.reduceLeDiff,Nat.reduceDiv,reduceIte,reduceCtorEq, d1, d2]
      all_goals first | exact leCs_refl _ | exact rf_le ⟨leC_refl _, rfl, rfl, leC_refl _, leC_refl _, leC_refl _, rfl, rfl, rfl, rfl, rfl, by first | rfl | assumption, by first | rfl | assumption, rfl, rfl⟩ | trace_state
    have e : mayOpenP c ⟨1, player, other, frame, inp, n⟩ = 1 := by unfold mayOpenP; rw [if_neg (by rw [o]; simp), if_pos (by simp only; have f := of_decide_eq_true d1; omega)]
    rw [e]
    simp (maxSteps:=2000000) (disch:=omega) only [go_sem,Nat.reduceAdd,Nat.reduceSub,Nat.reduceMul,Nat.reduceBEq,Nat.reduceEqDiff,Nat.reduceLT,Nat.reduceLeDiff,Nat.reduceDiv,reduceIte,reduceCtorEq, d1]
    all_goals first | exact leCs_refl _ | exact rf_le ⟨leC_refl _, rfl, rfl, leC_refl _, leC_refl _, leC_refl _, rfl, rfl, rfl, rfl, rfl, by first | rfl | assumption, by first | rfl | assumption, rfl, rfl⟩ | trace_state
  have e : mayOpenP c ⟨1, player, other, frame, inp, n⟩ = 15 := by unfold mayOpenP; rw [if_pos o]
  rw [e]
  simp (maxSteps:=2000000) (disch:=omega) only [go_sem,Nat.reduceAdd,Nat.reduceSub,Nat.reduceMul,Nat.reduceBEq,Nat.reduceEqDiff,Nat.reduceLT,Nat.reduceLeDiff,Nat.reduceDiv,reduceIte,reduceCtorEq, o]
  all_goals first | exact leCs_refl _ | exact rf_le ⟨leC_refl _, rfl, rfl, leC_refl _, leC_refl _, leC_refl _, rfl, rfl, rfl, rfl, rfl, by first | rfl | assumption, by first | rfl | assumption, rfl, rfl⟩ | trace_state
set_option maxRecDepth 20000 in
set_option maxHeartbeats 16000000 in
theorem rmay2_h (c : Ct) (player other frame n : Int) (inp : UInt16) (h : Inv18 c) (hl : c.events.length ≤ 100000) : Holds Tryz.prog 10 [.ptr (.arg 0) 0, .ev ⟨2, player, other, frame, inp, n⟩] [(.arg 0, rfB (.arg 0) c)] (fun r h' => r = .int .i64 (mayP18 c ⟨2, player, other, frame, inp, n⟩) ∧ h' = [(.arg 0, rfB (.arg 0) c)]) := by
  have hf := rform_h ⟨2, player, other, frame, inp, n⟩
  have ef : formB ⟨2, player, other, frame, inp, n⟩ = bareB ⟨2, player, other, frame, inp, n⟩ := by unfold formB; rw [if_neg (by simp only; omega)]
  rw [ef] at hf
  have em : mayP18 c ⟨2, player, other, frame, inp, n⟩ = if bareB ⟨2, player, other, frame, inp, n⟩ = true then mayJoinP c ⟨2, player, other, frame, inp, n⟩ else 3 := by unfold mayP18; rw [if_neg (by simp only; omega)]; rfl
  rw [em]
  clear em ef
  generalize bareB ⟨2, player, other, frame, inp, n⟩ = bb at hf ⊢
  have hs := rst_h c h hl
  have l0 := h.e0
  have l1 := h.e1
  refine holds_of_awp Tryz.func10 rfl (by decide +kernel) mixed Tryz.ntmps10 Tryz.results10 ?_
  refine zE ?_
  refine zc ?_;try exact trivial
  refine a_call [] (hf) ok0 ?_ ?_ ?_
  · refine zs ?_;try exact trivial
  · refine zs ?_;try exact trivial
  rintro _ _ ⟨rfl, rfl⟩
  cases bb
  · rw [if_neg (by simp)]
    refine zc ?_;try exact trivial
    all_goals first | exact leCs_refl _ | exact rf_le ⟨leC_refl _, rfl, rfl, leC_refl _, leC_refl _, leC_refl _, rfl, rfl, rfl, rfl, rfl, by first | rfl | assumption, by first | rfl | assumption, rfl, rfl⟩ | trace_state
  rw [if_pos rfl]
  refine zc ?_;try exact trivial
  cases o : c.opn
  · have ha : actP c player = 15 := by unfold actP; rw [if_pos o]
    have e : mayJoinP c ⟨2, player, other, frame, inp, n⟩ = 15 := by unfold mayJoinP; rw [if_pos (by simp only; omega)]; exact ha
    rw [e]
    simp (maxSteps:=2000000) (disch:=omega) only [go_sem,Nat.reduceAdd,Nat.reduceSub,Nat.reduceMul,Nat.reduceBEq,Nat.reduceEqDiff,Nat.reduceLT,Nat.reduceLeDiff,Nat.reduceDiv,reduceIte,reduceCtorEq, o, Bool.not_false]
    all_goals first | exact leCs_refl _ | exact rf_le ⟨leC_refl _, rfl, rfl, leC_refl _, leC_refl _, leC_refl _, rfl, rfl, rfl, rfl, rfl, by first | rfl | assumption, by first | rfl | assumption, rfl, rfl⟩ | trace_state
  have dn : (!c.opn) = false := by rw [o]; rfl
  simp (maxSteps:=2000000) (disch:=omega) only [go_sem,Nat.reduceAdd,Nat.reduceSub,Nat.reduceMul,Nat.reduceBEq,Nat.reduceEqDiff,Nat.reduceLT,Nat.reduceLeDiff,Nat.reduceDiv,reduceIte,reduceCtorEq, dn]
  refine a_call [.arg 0] hs (ok1 rfl) ?_ ?_ ?_
  · refine zs ?_;try exact trivial
  · refine zs ?_;try exact trivial
    all_goals exact rfX
  rintro _ _ ⟨rfl, rfl⟩
  refine zc ?_;try exact trivial
  cases cov : (c.over || c.st.over)
  · have c1 : c.over = false := by cases q : c.over <;> simp_all
    have c2 : c.st.over = false := by cases q : c.st.over <;> simp_all
    simp (maxSteps:=2000000) (disch:=omega) only [go_sem,Nat.reduceAdd,Nat.reduceSub,Nat.reduceMul,Nat.reduceBEq,Nat.reduceEqDiff,Nat.reduceLT,Nat.reduceLeDiff,Nat.reduceDiv,reduceIte,reduceCtorEq, c1, c2]
    have hq := rseat_h c player
    have eq : seatR c player = seatP c player := by unfold seatR; rw [if_pos o]
    rw [eq] at hq
    refine a_call [.arg 0] hq (ok1 rfl) ?_ ?_ ?_
    · refine zs ?_;try exact trivial
    · refine zs ?_;try exact trivial
      all_goals exact rfX
    rintro _ _ ⟨rfl, rfl⟩
    by_cases hneg : seatP c player < 0
    · have ha : actP c player = 14 := by unfold actP; rw [if_neg (by rw [o]; simp), if_neg (by rw [cov]; simp), if_pos hneg]
      have e : mayJoinP c ⟨2, player, other, frame, inp, n⟩ = 14 := by unfold mayJoinP; rw [if_pos (by simp only; omega)]; exact ha
      have dneg : decide (seatP c player < 0) = true := decide_eq_true hneg
      rw [e]
      simp (maxSteps:=2000000) (disch:=omega) only [go_sem,Nat.reduceAdd,Nat.reduceSub,Nat.reduceMul,Nat.reduceBEq,Nat.reduceEqDiff,Nat.reduceLT,Nat.reduceLeDiff,Nat.reduceDiv,reduceIte,reduceCtorEq, dneg]
      all_goals first | exact leCs_refl _ | exact rf_le ⟨leC_refl _, rfl, rfl, leC_refl _, leC_refl _, leC_refl _, rfl, rfl, rfl, rfl, rfl, by first | rfl | assumption, by first | rfl | assumption, rfl, rfl⟩ | trace_state
    have ha : actP c player = 0 := by unfold actP; rw [if_neg (by rw [o]; simp), if_neg (by rw [cov]; simp), if_neg hneg]
    clear hf hs hq eq
    rcases seat_cases c player (by omega) with q | q
    · rw [q]
      have em : mayJoinP c ⟨2, player, other, frame, inp, n⟩ = if 100 ≤ c.l0 then 17 else 0 := by unfold mayJoinP; simp only; rw [if_neg (by rw [ha]; simp), if_pos q]
      rw [em]
      refine zc ?_;try exact trivial
      cases dl : decide (100 ≤ c.l0)
      · rw [if_neg (of_decide_eq_false dl)]
        simp (maxSteps:=2000000) (disch:=omega) only [go_sem,Nat.reduceAdd,Nat.reduceSub,Nat.reduceMul,Nat.reduceBEq,Nat.reduceEqDiff,Nat.reduceLT,Nat.reduceLeDiff,Nat.reduceDiv,reduceIte,reduceCtorEq, dl, Int.reduceEq, decide_false, decide_true, Bool.not_true, Bool.not_false, not_false_eq_true, not_true_eq_false, ne_eq]
        all_goals first | exact leCs_refl _ | exact rf_le ⟨leC_refl _, rfl, rfl, leC_refl _, leC_refl _, leC_refl _, rfl, rfl, rfl, rfl, rfl, by first | rfl | assumption, by first | rfl | assumption, rfl, rfl⟩ | trace_state
      rw [if_pos (of_decide_eq_true dl)]
      simp (maxSteps:=2000000) (disch:=omega) only [go_sem,Nat.reduceAdd,Nat.reduceSub,Nat.reduceMul,Nat.reduceBEq,Nat.reduceEqDiff,Nat.reduceLT,Nat.reduceLeDiff,Nat.reduceDiv,reduceIte,reduceCtorEq, dl]
      all_goals first | exact leCs_refl _ | exact rf_le ⟨leC_refl _, rfl, rfl, leC_refl _, leC_refl _, leC_refl _, rfl, rfl, rfl, rfl, rfl, by first | rfl | assumption, by first | rfl | assumption, rfl, rfl⟩ | trace_state
    rw [q]
    have em : mayJoinP c ⟨2, player, other, frame, inp, n⟩ = if 100 ≤ c.l1 then 17 else 0 := by unfold mayJoinP; simp only; rw [if_neg (by rw [ha]; simp), if_neg (show ¬ seatP c player = 0 by omega)]
    rw [em]
    refine zc ?_;try exact trivial
    cases dl : decide (100 ≤ c.l1)
    · rw [if_neg (of_decide_eq_false dl)]
      simp (maxSteps:=2000000) (disch:=omega) only [go_sem,Nat.reduceAdd,Nat.reduceSub,Nat.reduceMul,Nat.reduceBEq,Nat.reduceEqDiff,Nat.reduceLT,Nat.reduceLeDiff,Nat.reduceDiv,reduceIte,reduceCtorEq, dl, Int.reduceEq, decide_false, decide_true, Bool.not_true, Bool.not_false, not_false_eq_true, not_true_eq_false, ne_eq]
      all_goals first | exact leCs_refl _ | exact rf_le ⟨leC_refl _, rfl, rfl, leC_refl _, leC_refl _, leC_refl _, rfl, rfl, rfl, rfl, rfl, by first | rfl | assumption, by first | rfl | assumption, rfl, rfl⟩ | trace_state
    rw [if_pos (of_decide_eq_true dl)]
    simp (maxSteps:=2000000) (disch:=omega) only [go_sem,Nat.reduceAdd,Nat.reduceSub,Nat.reduceMul,Nat.reduceBEq,Nat.reduceEqDiff,Nat.reduceLT,Nat.reduceLeDiff,Nat.reduceDiv,reduceIte,reduceCtorEq, dl]
    all_goals first | exact leCs_refl _ | exact rf_le ⟨leC_refl _, rfl, rfl, leC_refl _, leC_refl _, leC_refl _, rfl, rfl, rfl, rfl, rfl, by first | rfl | assumption, by first | rfl | assumption, rfl, rfl⟩ | trace_state
  have ha : actP c player = 12 := by unfold actP; rw [if_neg (by rw [o]; simp), if_pos cov]
  have e : mayJoinP c ⟨2, player, other, frame, inp, n⟩ = 12 := by unfold mayJoinP; rw [if_pos (by simp only; omega)]; exact ha
  rw [e]
  cases c1 : c.over
  · have c2 : c.st.over = true := by rw [c1] at cov; simpa using cov
    simp (maxSteps:=2000000) (disch:=omega) only [go_sem,Nat.reduceAdd,Nat.reduceSub,Nat.reduceMul,Nat.reduceBEq,Nat.reduceEqDiff,Nat.reduceLT,Nat.reduceLeDiff,Nat.reduceDiv,reduceIte,reduceCtorEq, c1, c2]
    all_goals first | exact leCs_refl _ | exact rf_le ⟨leC_refl _, rfl, rfl, leC_refl _, leC_refl _, leC_refl _, rfl, rfl, rfl, rfl, rfl, by first | rfl | assumption, by first | rfl | assumption, rfl, rfl⟩ | trace_state
  simp (maxSteps:=2000000) (disch:=omega) only [go_sem,Nat.reduceAdd,Nat.reduceSub,Nat.reduceMul,Nat.reduceBEq,Nat.reduceEqDiff,Nat.reduceLT,Nat.reduceLeDiff,Nat.reduceDiv,reduceIte,reduceCtorEq, c1]
  all_goals first | exact leCs_refl _ | exact rf_le ⟨leC_refl _, rfl, rfl, leC_refl _, leC_refl _, leC_refl _, rfl, rfl, rfl, rfl, rfl, by first | rfl | assumption, by first | rfl | assumption, rfl, rfl⟩ | trace_state
set_option maxRecDepth 20000 in
set_option maxHeartbeats 16000000 in
theorem rmay3_h (c : Ct) (player other frame n : Int) (inp : UInt16) (h : Inv18 c) (hl : c.events.length ≤ 100000) : Holds Tryz.prog 10 [.ptr (.arg 0) 0, .ev ⟨3, player, other, frame, inp, n⟩] [(.arg 0, rfB (.arg 0) c)] (fun r h' => r = .int .i64 (mayP18 c ⟨3, player, other, frame, inp, n⟩) ∧ h' = [(.arg 0, rfB (.arg 0) c)]) := by
  have hf := rform_h ⟨3, player, other, frame, inp, n⟩
  have ef : formB ⟨3, player, other, frame, inp, n⟩ = bareB ⟨3, player, other, frame, inp, n⟩ := by unfold formB; rw [if_neg (by simp only; omega)]
  rw [ef] at hf
  have em : mayP18 c ⟨3, player, other, frame, inp, n⟩ = if bareB ⟨3, player, other, frame, inp, n⟩ = true then mayInputP c ⟨3, player, other, frame, inp, n⟩ else 3 := by unfold mayP18; rw [if_neg (by simp only; omega)]; rfl
  rw [em]
  clear em ef
  generalize bareB ⟨3, player, other, frame, inp, n⟩ = bb at hf ⊢
  have hs := rst_h c h hl
  have l0 := h.e0
  have l1 := h.e1
  refine holds_of_awp Tryz.func10 rfl (by decide +kernel) mixed Tryz.ntmps10 Tryz.results10 ?_
  refine zE ?_
  refine zc ?_;try exact trivial
  refine a_call [] (hf) ok0 ?_ ?_ ?_
  · refine zs ?_;try exact trivial
  · refine zs ?_;try exact trivial
  rintro _ _ ⟨rfl, rfl⟩
  cases bb
  · rw [if_neg (by simp)]
    refine zc ?_;try exact trivial
    all_goals first | exact leCs_refl _ | exact rf_le ⟨leC_refl _, rfl, rfl, leC_refl _, leC_refl _, leC_refl _, rfl, rfl, rfl, rfl, rfl, by first | rfl | assumption, by first | rfl | assumption, rfl, rfl⟩ | trace_state
  rw [if_pos rfl]
  refine zc ?_;try exact trivial
  cases o : c.opn
  · have ha : actP c player = 15 := by unfold actP; rw [if_pos o]
    have e : mayInputP c ⟨3, player, other, frame, inp, n⟩ = 15 := by unfold mayInputP; rw [if_pos (by simp only; omega)]; exact ha
    rw [e]
    simp (maxSteps:=2000000) (disch:=omega) only [go_sem,Nat.reduceAdd,Nat.reduceSub,Nat.reduceMul,Nat.reduceBEq,Nat.reduceEqDiff,Nat.reduceLT,Nat.reduceLeDiff,Nat.reduceDiv,reduceIte,reduceCtorEq, o, Bool.not_false]
    all_goals first | exact leCs_refl _ | exact rf_le ⟨leC_refl _, rfl, rfl, leC_refl _, leC_refl _, leC_refl _, rfl, rfl, rfl, rfl, rfl, by first | rfl | assumption, by first | rfl | assumption, rfl, rfl⟩ | trace_state
  have dn : (!c.opn) = false := by rw [o]; rfl
  simp (maxSteps:=2000000) (disch:=omega) only [go_sem,Nat.reduceAdd,Nat.reduceSub,Nat.reduceMul,Nat.reduceBEq,Nat.reduceEqDiff,Nat.reduceLT,Nat.reduceLeDiff,Nat.reduceDiv,reduceIte,reduceCtorEq, dn]
  refine a_call [.arg 0] hs (ok1 rfl) ?_ ?_ ?_
  · refine zs ?_;try exact trivial
  · refine zs ?_;try exact trivial
    all_goals exact rfX
  rintro _ _ ⟨rfl, rfl⟩
  refine zc ?_;try exact trivial
  cases cov : (c.over || c.st.over)
  · have c1 : c.over = false := by cases q : c.over <;> simp_all
    have c2 : c.st.over = false := by cases q : c.st.over <;> simp_all
    simp (maxSteps:=2000000) (disch:=omega) only [go_sem,Nat.reduceAdd,Nat.reduceSub,Nat.reduceMul,Nat.reduceBEq,Nat.reduceEqDiff,Nat.reduceLT,Nat.reduceLeDiff,Nat.reduceDiv,reduceIte,reduceCtorEq, c1, c2]
    have hq := rseat_h c player
    have eq : seatR c player = seatP c player := by unfold seatR; rw [if_pos o]
    rw [eq] at hq
    refine a_call [.arg 0] hq (ok1 rfl) ?_ ?_ ?_
    · refine zs ?_;try exact trivial
    · refine zs ?_;try exact trivial
      all_goals exact rfX
    rintro _ _ ⟨rfl, rfl⟩
    by_cases hneg : seatP c player < 0
    · have ha : actP c player = 14 := by unfold actP; rw [if_neg (by rw [o]; simp), if_neg (by rw [cov]; simp), if_pos hneg]
      have e : mayInputP c ⟨3, player, other, frame, inp, n⟩ = 14 := by unfold mayInputP; rw [if_pos (by simp only; omega)]; exact ha
      have dneg : decide (seatP c player < 0) = true := decide_eq_true hneg
      rw [e]
      simp (maxSteps:=2000000) (disch:=omega) only [go_sem,Nat.reduceAdd,Nat.reduceSub,Nat.reduceMul,Nat.reduceBEq,Nat.reduceEqDiff,Nat.reduceLT,Nat.reduceLeDiff,Nat.reduceDiv,reduceIte,reduceCtorEq, dneg]
      all_goals first | exact leCs_refl _ | exact rf_le ⟨leC_refl _, rfl, rfl, leC_refl _, leC_refl _, leC_refl _, rfl, rfl, rfl, rfl, rfl, by first | rfl | assumption, by first | rfl | assumption, rfl, rfl⟩ | trace_state
    have ha : actP c player = 0 := by unfold actP; rw [if_neg (by rw [o]; simp), if_neg (by rw [cov]; simp), if_neg hneg]
    clear hf hs hq eq
    rcases seat_cases c player (by omega) with q | q
    · rw [q]
      have em : mayInputP c ⟨3, player, other, frame, inp, n⟩ = winP c.cap c.in0 c.in1 ⟨3, player, other, frame, inp, n⟩ := by unfold mayInputP; simp only; rw [if_neg (by rw [ha]; simp), if_pos q]
      rw [em]
      refine zc ?_;try exact trivial
      cases d1 : decide (frame < 0)
      · have f1 := of_decide_eq_false d1
        cases d2 : decide (c.cap ≤ frame)
        · have f2 := of_decide_eq_false d2
          refine a_quiet (by kernel_rfl) (by kernel_rfl) (by kernel_rfl) ?_
          simp (maxSteps:=2000000) (disch:=omega) only [go_sem,Nat.reduceAdd,Nat.reduceSub,Nat.reduceMul,Nat.reduceBEq,Nat.reduceEqDiff,Nat.reduceLT,Nat.reduceLeDiff,Nat.reduceDiv,reduceIte,reduceCtorEq, d1, d2]
          refine a_quiet (by kernel_rfl) (by kernel_rfl) (by kernel_rfl) ?_
          cases d3 : decide (frame < (c.in0.length : Int))
          · have f3 := of_decide_eq_false d3
            simp (maxSteps:=2000000) (disch:=omega) only [go_sem,Nat.reduceAdd,Nat.reduceSub,Nat.reduceMul,Nat.reduceBEq,Nat.reduceEqDiff,Nat.reduceLT,Nat.reduceLeDiff,Nat.reduceDiv,reduceIte,reduceCtorEq, d3]
            cases d5 : decide ((c.in0.length : Int) < frame)
            · have f5 := of_decide_eq_false d5
              cases d6 : decide ((c.in1.length : Int) + 8 ≤ (c.in0.length : Int))
              · have f6 := of_decide_eq_false d6
                have e : winP c.cap c.in0 c.in1 ⟨3, player, other, frame, inp, n⟩ = 0 := by unfold winP; rw [if_neg (by simp only; omega), if_neg (by simp only; omega), if_neg (by simp only; omega), if_neg (by simp only; omega)]
                rw [e]
                simp (maxSteps:=2000000) (disch:=omega) only [go_sem,Nat.reduceAdd,Nat.reduceSub,Nat.reduceMul,Nat.reduceBEq,Nat.reduceEqDiff,Nat.reduceLT,Nat.reduceLeDiff,Nat.reduceDiv,reduceIte,reduceCtorEq, d5, d6, Int.reduceSub, Int.reduceToNat, Int.reduceAdd]
                all_goals first | exact leCs_refl _ | exact rf_le ⟨leC_refl _, rfl, rfl, leC_refl _, leC_refl _, leC_refl _, rfl, rfl, rfl, rfl, rfl, by first | rfl | assumption, by first | rfl | assumption, rfl, rfl⟩ | trace_state
              have f6 := of_decide_eq_true d6
              have e : winP c.cap c.in0 c.in1 ⟨3, player, other, frame, inp, n⟩ = 13 := by unfold winP; rw [if_neg (by simp only; omega), if_neg (by simp only; omega), if_neg (by simp only; omega), if_pos (by simp only; omega)]
              rw [e]
              simp (maxSteps:=2000000) (disch:=omega) only [go_sem,Nat.reduceAdd,Nat.reduceSub,Nat.reduceMul,Nat.reduceBEq,Nat.reduceEqDiff,Nat.reduceLT,Nat.reduceLeDiff,Nat.reduceDiv,reduceIte,reduceCtorEq, d5, d6, Int.reduceSub, Int.reduceToNat, Int.reduceAdd]
              all_goals first | exact leCs_refl _ | exact rf_le ⟨leC_refl _, rfl, rfl, leC_refl _, leC_refl _, leC_refl _, rfl, rfl, rfl, rfl, rfl, by first | rfl | assumption, by first | rfl | assumption, rfl, rfl⟩ | trace_state
            have f5 := of_decide_eq_true d5
            have e : winP c.cap c.in0 c.in1 ⟨3, player, other, frame, inp, n⟩ = 13 := by unfold winP; rw [if_neg (by simp only; omega), if_neg (by simp only; omega), if_neg (by simp only; omega), if_pos (by simp only; omega)]
            rw [e]
            simp (maxSteps:=2000000) (disch:=omega) only [go_sem,Nat.reduceAdd,Nat.reduceSub,Nat.reduceMul,Nat.reduceBEq,Nat.reduceEqDiff,Nat.reduceLT,Nat.reduceLeDiff,Nat.reduceDiv,reduceIte,reduceCtorEq, d5]
            all_goals first | exact leCs_refl _ | exact rf_le ⟨leC_refl _, rfl, rfl, leC_refl _, leC_refl _, leC_refl _, rfl, rfl, rfl, rfl, rfl, by first | rfl | assumption, by first | rfl | assumption, rfl, rfl⟩ | trace_state
          have f3 := of_decide_eq_true d3
          have f4 : frame.toNat < c.in0.length := by omega
          cases d4 : decide (U16 (c.in0.getD frame.toNat 0) = U16 inp)
          · have e : winP c.cap c.in0 c.in1 ⟨3, player, other, frame, inp, n⟩ = 18 := by unfold winP; rw [if_neg (by simp only; omega), if_neg (fun x => of_decide_eq_false d4 x.2), if_pos (by simp only; omega)]
            rw [e]
            simp (maxSteps:=2000000) (disch:=omega) only [go_sem,Nat.reduceAdd,Nat.reduceSub,Nat.reduceMul,Nat.reduceBEq,Nat.reduceEqDiff,Nat.reduceLT,Nat.reduceLeDiff,Nat.reduceDiv,reduceIte,reduceCtorEq, d3, d4]
            all_goals first | exact leCs_refl _ | exact rf_le ⟨leC_refl _, rfl, rfl, leC_refl _, leC_refl _, leC_refl _, rfl, rfl, rfl, rfl, rfl, by first | rfl | assumption, by first | rfl | assumption, rfl, rfl⟩ | trace_state
          have e : winP c.cap c.in0 c.in1 ⟨3, player, other, frame, inp, n⟩ = 8 := by unfold winP; rw [if_neg (by simp only; omega), if_pos ⟨f3, of_decide_eq_true d4⟩]
          rw [e]
          simp (maxSteps:=2000000) (disch:=omega) only [go_sem,Nat.reduceAdd,Nat.reduceSub,Nat.reduceMul,Nat.reduceBEq,Nat.reduceEqDiff,Nat.reduceLT,Nat.reduceLeDiff,Nat.reduceDiv,reduceIte,reduceCtorEq, d3, d4]
          all_goals first | exact leCs_refl _ | exact rf_le ⟨leC_refl _, rfl, rfl, leC_refl _, leC_refl _, leC_refl _, rfl, rfl, rfl, rfl, rfl, by first | rfl | assumption, by first | rfl | assumption, rfl, rfl⟩ | trace_state
        have f2 := of_decide_eq_true d2
        have e : winP c.cap c.in0 c.in1 ⟨3, player, other, frame, inp, n⟩ = 1 := by unfold winP; rw [if_pos (by simp only; omega)]
        rw [e]
        refine a_quiet (by kernel_rfl) (by kernel_rfl) (by kernel_rfl) ?_
        simp (maxSteps:=2000000) (disch:=omega) only [go_sem,Nat.reduceAdd,Nat.reduceSub,Nat.reduceMul,Nat.reduceBEq,Nat.reduceEqDiff,Nat.reduceLT,Nat.reduceLeDiff,Nat.reduceDiv,reduceIte,reduceCtorEq, d1, d2]
        all_goals first | exact leCs_refl _ | exact rf_le ⟨leC_refl _, rfl, rfl, leC_refl _, leC_refl _, leC_refl _, rfl, rfl, rfl, rfl, rfl, by first | rfl | assumption, by first | rfl | assumption, rfl, rfl⟩ | trace_state
      have f1 := of_decide_eq_true d1
      have e : winP c.cap c.in0 c.in1 ⟨3, player, other, frame, inp, n⟩ = 1 := by unfold winP; rw [if_pos (by simp only; omega)]
      rw [e]
      refine a_quiet (by kernel_rfl) (by kernel_rfl) (by kernel_rfl) ?_
      simp (maxSteps:=2000000) (disch:=omega) only [go_sem,Nat.reduceAdd,Nat.reduceSub,Nat.reduceMul,Nat.reduceBEq,Nat.reduceEqDiff,Nat.reduceLT,Nat.reduceLeDiff,Nat.reduceDiv,reduceIte,reduceCtorEq, d1]
      all_goals first | exact leCs_refl _ | exact rf_le ⟨leC_refl _, rfl, rfl, leC_refl _, leC_refl _, leC_refl _, rfl, rfl, rfl, rfl, rfl, by first | rfl | assumption, by first | rfl | assumption, rfl, rfl⟩ | trace_state
    rw [q]
    have em : mayInputP c ⟨3, player, other, frame, inp, n⟩ = winP c.cap c.in1 c.in0 ⟨3, player, other, frame, inp, n⟩ := by unfold mayInputP; simp only; rw [if_neg (by rw [ha]; simp), if_neg (show ¬ seatP c player = 0 by omega)]
    rw [em]
    refine zc ?_;try exact trivial
    cases d1 : decide (frame < 0)
    · have f1 := of_decide_eq_false d1
      cases d2 : decide (c.cap ≤ frame)
      · have f2 := of_decide_eq_false d2
        refine a_quiet (by kernel_rfl) (by kernel_rfl) (by kernel_rfl) ?_
        simp (maxSteps:=2000000) (disch:=omega) only [go_sem,Nat.reduceAdd,Nat.reduceSub,Nat.reduceMul,Nat.reduceBEq,Nat.reduceEqDiff,Nat.reduceLT,Nat.reduceLeDiff,Nat.reduceDiv,reduceIte,reduceCtorEq, d1, d2]
        refine a_quiet (by kernel_rfl) (by kernel_rfl) (by kernel_rfl) ?_
        cases d3 : decide (frame < (c.in1.length : Int))
        · have f3 := of_decide_eq_false d3
          simp (maxSteps:=2000000) (disch:=omega) only [go_sem,Nat.reduceAdd,Nat.reduceSub,Nat.reduceMul,Nat.reduceBEq,Nat.reduceEqDiff,Nat.reduceLT,Nat.reduceLeDiff,Nat.reduceDiv,reduceIte,reduceCtorEq, d3]
          cases d5 : decide ((c.in1.length : Int) < frame)
          · have f5 := of_decide_eq_false d5
            cases d6 : decide ((c.in0.length : Int) + 8 ≤ (c.in1.length : Int))
            · have f6 := of_decide_eq_false d6
              have e : winP c.cap c.in1 c.in0 ⟨3, player, other, frame, inp, n⟩ = 0 := by unfold winP; rw [if_neg (by simp only; omega), if_neg (by simp only; omega), if_neg (by simp only; omega), if_neg (by simp only; omega)]
              rw [e]
              simp (maxSteps:=2000000) (disch:=omega) only [go_sem,Nat.reduceAdd,Nat.reduceSub,Nat.reduceMul,Nat.reduceBEq,Nat.reduceEqDiff,Nat.reduceLT,Nat.reduceLeDiff,Nat.reduceDiv,reduceIte,reduceCtorEq, d5, d6, Int.reduceSub, Int.reduceToNat, Int.reduceAdd]
              all_goals first | exact leCs_refl _ | exact rf_le ⟨leC_refl _, rfl, rfl, leC_refl _, leC_refl _, leC_refl _, rfl, rfl, rfl, rfl, rfl, by first | rfl | assumption, by first | rfl | assumption, rfl, rfl⟩ | trace_state
            have f6 := of_decide_eq_true d6
            have e : winP c.cap c.in1 c.in0 ⟨3, player, other, frame, inp, n⟩ = 13 := by unfold winP; rw [if_neg (by simp only; omega), if_neg (by simp only; omega), if_neg (by simp only; omega), if_pos (by simp only; omega)]
            rw [e]
            simp (maxSteps:=2000000) (disch:=omega) only [go_sem,Nat.reduceAdd,Nat.reduceSub,Nat.reduceMul,Nat.reduceBEq,Nat.reduceEqDiff,Nat.reduceLT,Nat.reduceLeDiff,Nat.reduceDiv,reduceIte,reduceCtorEq, d5, d6, Int.reduceSub, Int.reduceToNat, Int.reduceAdd]
            all_goals first | exact leCs_refl _ | exact rf_le ⟨leC_refl _, rfl, rfl, leC_refl _, leC_refl _, leC_refl _, rfl, rfl, rfl, rfl, rfl, by first | rfl | assumption, by first | rfl | assumption, rfl, rfl⟩ | trace_state
          have f5 := of_decide_eq_true d5
          have e : winP c.cap c.in1 c.in0 ⟨3, player, other, frame, inp, n⟩ = 13 := by unfold winP; rw [if_neg (by simp only; omega), if_neg (by simp only; omega), if_neg (by simp only; omega), if_pos (by simp only; omega)]
          rw [e]
          simp (maxSteps:=2000000) (disch:=omega) only [go_sem,Nat.reduceAdd,Nat.reduceSub,Nat.reduceMul,Nat.reduceBEq,Nat.reduceEqDiff,Nat.reduceLT,Nat.reduceLeDiff,Nat.reduceDiv,reduceIte,reduceCtorEq, d5]
          all_goals first | exact leCs_refl _ | exact rf_le ⟨leC_refl _, rfl, rfl, leC_refl _, leC_refl _, leC_refl _, rfl, rfl, rfl, rfl, rfl, by first | rfl | assumption, by first | rfl | assumption, rfl, rfl⟩ | trace_state
        have f3 := of_decide_eq_true d3
        have f4 : frame.toNat < c.in1.length := by omega
        cases d4 : decide (U16 (c.in1.getD frame.toNat 0) = U16 inp)
        · have e : winP c.cap c.in1 c.in0 ⟨3, player, other, frame, inp, n⟩ = 18 := by unfold winP; rw [if_neg (by simp only; omega), if_neg (fun x => of_decide_eq_false d4 x.2), if_pos (by simp only; omega)]
          rw [e]
          simp (maxSteps:=2000000) (disch:=omega) only [go_sem,Nat.reduceAdd,Nat.reduceSub,Nat.reduceMul,Nat.reduceBEq,Nat.reduceEqDiff,Nat.reduceLT,Nat.reduceLeDiff,Nat.reduceDiv,reduceIte,reduceCtorEq, d3, d4]
          all_goals first | exact leCs_refl _ | exact rf_le ⟨leC_refl _, rfl, rfl, leC_refl _, leC_refl _, leC_refl _, rfl, rfl, rfl, rfl, rfl, by first | rfl | assumption, by first | rfl | assumption, rfl, rfl⟩ | trace_state
        have e : winP c.cap c.in1 c.in0 ⟨3, player, other, frame, inp, n⟩ = 8 := by unfold winP; rw [if_neg (by simp only; omega), if_pos ⟨f3, of_decide_eq_true d4⟩]
        rw [e]
        simp (maxSteps:=2000000) (disch:=omega) only [go_sem,Nat.reduceAdd,Nat.reduceSub,Nat.reduceMul,Nat.reduceBEq,Nat.reduceEqDiff,Nat.reduceLT,Nat.reduceLeDiff,Nat.reduceDiv,reduceIte,reduceCtorEq, d3, d4]
        all_goals first | exact leCs_refl _ | exact rf_le ⟨leC_refl _, rfl, rfl, leC_refl _, leC_refl _, leC_refl _, rfl, rfl, rfl, rfl, rfl, by first | rfl | assumption, by first | rfl | assumption, rfl, rfl⟩ | trace_state
      have f2 := of_decide_eq_true d2
      have e : winP c.cap c.in1 c.in0 ⟨3, player, other, frame, inp, n⟩ = 1 := by unfold winP; rw [if_pos (by simp only; omega)]
      rw [e]
      refine a_quiet (by kernel_rfl) (by kernel_rfl) (by kernel_rfl) ?_
      simp (maxSteps:=2000000) (disch:=omega) only [go_sem,Nat.reduceAdd,Nat.reduceSub,Nat.reduceMul,Nat.reduceBEq,Nat.reduceEqDiff,Nat.reduceLT,Nat.reduceLeDiff,Nat.reduceDiv,reduceIte,reduceCtorEq, d1, d2]
      all_goals first | exact leCs_refl _ | exact rf_le ⟨leC_refl _, rfl, rfl, leC_refl _, leC_refl _, leC_refl _, rfl, rfl, rfl, rfl, rfl, by first | rfl | assumption, by first | rfl | assumption, rfl, rfl⟩ | trace_state
    have f1 := of_decide_eq_true d1
    have e : winP c.cap c.in1 c.in0 ⟨3, player, other, frame, inp, n⟩ = 1 := by unfold winP; rw [if_pos (by simp only; omega)]
    rw [e]
    refine a_quiet (by kernel_rfl) (by kernel_rfl) (by kernel_rfl) ?_
    simp (maxSteps:=2000000) (disch:=omega) only [go_sem,Nat.reduceAdd,Nat.reduceSub,Nat.reduceMul,Nat.reduceBEq,Nat.reduceEqDiff,Nat.reduceLT,Nat.reduceLeDiff,Nat.reduceDiv,reduceIte,reduceCtorEq, d1]
    all_goals first | exact leCs_refl _ | exact rf_le ⟨leC_refl _, rfl, rfl, leC_refl _, leC_refl _, leC_refl _, rfl, rfl, rfl, rfl, rfl, by first | rfl | assumption, by first | rfl | assumption, rfl, rfl⟩ | trace_state
  have ha : actP c player = 12 := by unfold actP; rw [if_neg (by rw [o]; simp), if_pos cov]
  have e : mayInputP c ⟨3, player, other, frame, inp, n⟩ = 12 := by unfold mayInputP; rw [if_pos (by simp only; omega)]; exact ha
  rw [e]
  cases c1 : c.over
  · have c2 : c.st.over = true := by rw [c1] at cov; simpa using cov
    simp (maxSteps:=2000000) (disch:=omega) only [go_sem,Nat.reduceAdd,Nat.reduceSub,Nat.reduceMul,Nat.reduceBEq,Nat.reduceEqDiff,Nat.reduceLT,Nat.reduceLeDiff,Nat.reduceDiv,reduceIte,reduceCtorEq, c1, c2]
    all_goals first | exact leCs_refl _ | exact rf_le ⟨leC_refl _, rfl, rfl, leC_refl _, leC_refl _, leC_refl _, rfl, rfl, rfl, rfl, rfl, by first | rfl | assumption, by first | rfl | assumption, rfl, rfl⟩ | trace_state
  simp (maxSteps:=2000000) (disch:=omega) only [go_sem,Nat.reduceAdd,Nat.reduceSub,Nat.reduceMul,Nat.reduceBEq,Nat.reduceEqDiff,Nat.reduceLT,Nat.reduceLeDiff,Nat.reduceDiv,reduceIte,reduceCtorEq, c1]
  all_goals first | exact leCs_refl _ | exact rf_le ⟨leC_refl _, rfl, rfl, leC_refl _, leC_refl _, leC_refl _, rfl, rfl, rfl, rfl, rfl, by first | rfl | assumption, by first | rfl | assumption, rfl, rfl⟩ | trace_state
set_option maxRecDepth 20000 in
set_option maxHeartbeats 16000000 in
theorem rmay4_h (c : Ct) (player other frame n : Int) (inp : UInt16) (h : Inv18 c) (hl : c.events.length ≤ 100000) : Holds Tryz.prog 10 [.ptr (.arg 0) 0, .ev ⟨4, player, other, frame, inp, n⟩] [(.arg 0, rfB (.arg 0) c)] (fun r h' => r = .int .i64 (mayP18 c ⟨4, player, other, frame, inp, n⟩) ∧ h' = [(.arg 0, rfB (.arg 0) c)]) := by
  have hf := rform_h ⟨4, player, other, frame, inp, n⟩
  have ef : formB ⟨4, player, other, frame, inp, n⟩ = bareB ⟨4, player, other, frame, inp, n⟩ := by unfold formB; rw [if_neg (by simp only; omega)]
  rw [ef] at hf
  have em : mayP18 c ⟨4, player, other, frame, inp, n⟩ = if bareB ⟨4, player, other, frame, inp, n⟩ = true then actP c player else 3 := by unfold mayP18; rw [if_neg (by simp only; omega)]; rfl
  rw [em]
  clear em ef
  generalize bareB ⟨4, player, other, frame, inp, n⟩ = bb at hf ⊢
  have hs := rst_h c h hl
  have l0 := h.e0
  have l1 := h.e1
  refine holds_of_awp Tryz.func10 rfl (by decide +kernel) mixed Tryz.ntmps10 Tryz.results10 ?_
  refine zE ?_
  refine zc ?_;try exact trivial
  refine a_call [] (hf) ok0 ?_ ?_ ?_
  · refine zs ?_;try exact trivial
  · refine zs ?_;try exact trivial
  rintro _ _ ⟨rfl, rfl⟩
  cases bb
  · rw [if_neg (by simp)]
    refine zc ?_;try exact trivial
    all_goals first | exact leCs_refl _ | exact rf_le ⟨leC_refl _, rfl, rfl, leC_refl _, leC_refl _, leC_refl _, rfl, rfl, rfl, rfl, rfl, by first | rfl | assumption, by first | rfl | assumption, rfl, rfl⟩ | trace_state
  rw [if_pos rfl]
  refine zc ?_;try exact trivial
  cases o : c.opn
  · have ha : actP c player = 15 := by unfold actP; rw [if_pos o]
    have e : actP c player = 15 := by rw [ha]
    rw [e]
    simp (maxSteps:=2000000) (disch:=omega) only [go_sem,Nat.reduceAdd,Nat.reduceSub,Nat.reduceMul,Nat.reduceBEq,Nat.reduceEqDiff,Nat.reduceLT,Nat.reduceLeDiff,Nat.reduceDiv,reduceIte,reduceCtorEq, o, Bool.not_false]
    all_goals first | exact leCs_refl _ | exact rf_le ⟨leC_refl _, rfl, rfl, leC_refl _, leC_refl _, leC_refl _, rfl, rfl, rfl, rfl, rfl, by first | rfl | assumption, by first | rfl | assumption, rfl, rfl⟩ | trace_state
  have dn : (!c.opn) = false := by rw [o]; rfl
  simp (maxSteps:=2000000) (disch:=omega) only [go_sem,Nat.reduceAdd,Nat.reduceSub,Nat.reduceMul,Nat.reduceBEq,Nat.reduceEqDiff,Nat.reduceLT,Nat.reduceLeDiff,Nat.reduceDiv,reduceIte,reduceCtorEq, dn]
  refine a_call [.arg 0] hs (ok1 rfl) ?_ ?_ ?_
  · refine zs ?_;try exact trivial
  · refine zs ?_;try exact trivial
    all_goals exact rfX
  rintro _ _ ⟨rfl, rfl⟩
  refine zc ?_;try exact trivial
  cases cov : (c.over || c.st.over)
  · have c1 : c.over = false := by cases q : c.over <;> simp_all
    have c2 : c.st.over = false := by cases q : c.st.over <;> simp_all
    simp (maxSteps:=2000000) (disch:=omega) only [go_sem,Nat.reduceAdd,Nat.reduceSub,Nat.reduceMul,Nat.reduceBEq,Nat.reduceEqDiff,Nat.reduceLT,Nat.reduceLeDiff,Nat.reduceDiv,reduceIte,reduceCtorEq, c1, c2]
    have hq := rseat_h c player
    have eq : seatR c player = seatP c player := by unfold seatR; rw [if_pos o]
    rw [eq] at hq
    refine a_call [.arg 0] hq (ok1 rfl) ?_ ?_ ?_
    · refine zs ?_;try exact trivial
    · refine zs ?_;try exact trivial
      all_goals exact rfX
    rintro _ _ ⟨rfl, rfl⟩
    by_cases hneg : seatP c player < 0
    · have ha : actP c player = 14 := by unfold actP; rw [if_neg (by rw [o]; simp), if_neg (by rw [cov]; simp), if_pos hneg]
      have e : actP c player = 14 := by rw [ha]
      have dneg : decide (seatP c player < 0) = true := decide_eq_true hneg
      rw [e]
      simp (maxSteps:=2000000) (disch:=omega) only [go_sem,Nat.reduceAdd,Nat.reduceSub,Nat.reduceMul,Nat.reduceBEq,Nat.reduceEqDiff,Nat.reduceLT,Nat.reduceLeDiff,Nat.reduceDiv,reduceIte,reduceCtorEq, dneg]
      all_goals first | exact leCs_refl _ | exact rf_le ⟨leC_refl _, rfl, rfl, leC_refl _, leC_refl _, leC_refl _, rfl, rfl, rfl, rfl, rfl, by first | rfl | assumption, by first | rfl | assumption, rfl, rfl⟩ | trace_state
    have ha : actP c player = 0 := by unfold actP; rw [if_neg (by rw [o]; simp), if_neg (by rw [cov]; simp), if_neg hneg]
    clear hf hs hq eq
    rcases seat_cases c player (by omega) with q | q
    · rw [q]
      rw [ha]
      refine zc ?_;try exact trivial
      all_goals first | exact leCs_refl _ | exact rf_le ⟨leC_refl _, rfl, rfl, leC_refl _, leC_refl _, leC_refl _, rfl, rfl, rfl, rfl, rfl, by first | rfl | assumption, by first | rfl | assumption, rfl, rfl⟩ | trace_state
    rw [q]
    rw [ha]
    refine zc ?_;try exact trivial
    all_goals first | exact leCs_refl _ | exact rf_le ⟨leC_refl _, rfl, rfl, leC_refl _, leC_refl _, leC_refl _, rfl, rfl, rfl, rfl, rfl, by first | rfl | assumption, by first | rfl | assumption, rfl, rfl⟩ | trace_state
  have ha : actP c player = 12 := by unfold actP; rw [if_neg (by rw [o]; simp), if_pos cov]
  have e : actP c player = 12 := by rw [ha]
  rw [e]
  cases c1 : c.over
  · have c2 : c.st.over = true := by rw [c1] at cov; simpa using cov
    simp (maxSteps:=2000000) (disch:=omega) only [go_sem,Nat.reduceAdd,Nat.reduceSub,Nat.reduceMul,Nat.reduceBEq,Nat.reduceEqDiff,Nat.reduceLT,Nat.reduceLeDiff,Nat.reduceDiv,reduceIte,reduceCtorEq, c1, c2]
    all_goals first | exact leCs_refl _ | exact rf_le ⟨leC_refl _, rfl, rfl, leC_refl _, leC_refl _, leC_refl _, rfl, rfl, rfl, rfl, rfl, by first | rfl | assumption, by first | rfl | assumption, rfl, rfl⟩ | trace_state
  simp (maxSteps:=2000000) (disch:=omega) only [go_sem,Nat.reduceAdd,Nat.reduceSub,Nat.reduceMul,Nat.reduceBEq,Nat.reduceEqDiff,Nat.reduceLT,Nat.reduceLeDiff,Nat.reduceDiv,reduceIte,reduceCtorEq, c1]
  all_goals first | exact leCs_refl _ | exact rf_le ⟨leC_refl _, rfl, rfl, leC_refl _, leC_refl _, leC_refl _, rfl, rfl, rfl, rfl, rfl, by first | rfl | assumption, by first | rfl | assumption, rfl, rfl⟩ | trace_state
set_option maxRecDepth 20000 in
set_option maxHeartbeats 16000000 in
theorem rmay5_h (c : Ct) (player other frame n : Int) (inp : UInt16) (h : Inv18 c) (hl : c.events.length ≤ 100000) : Holds Tryz.prog 10 [.ptr (.arg 0) 0, .ev ⟨5, player, other, frame, inp, n⟩] [(.arg 0, rfB (.arg 0) c)] (fun r h' => r = .int .i64 (mayP18 c ⟨5, player, other, frame, inp, n⟩) ∧ h' = [(.arg 0, rfB (.arg 0) c)]) := by
  have hf := rform_h ⟨5, player, other, frame, inp, n⟩
  have ef : formB ⟨5, player, other, frame, inp, n⟩ = bareB ⟨5, player, other, frame, inp, n⟩ := by unfold formB; rw [if_neg (by simp only; omega)]
  rw [ef] at hf
  have em : mayP18 c ⟨5, player, other, frame, inp, n⟩ = if bareB ⟨5, player, other, frame, inp, n⟩ = true then mayResultP c ⟨5, player, other, frame, inp, n⟩ else 3 := by unfold mayP18; rw [if_neg (by simp only; omega)]; rfl
  rw [em]
  clear em ef
  generalize bareB ⟨5, player, other, frame, inp, n⟩ = bb at hf ⊢
  have hs := rst_h c h hl
  have l0 := h.e0
  have l1 := h.e1
  refine holds_of_awp Tryz.func10 rfl (by decide +kernel) mixed Tryz.ntmps10 Tryz.results10 ?_
  refine zE ?_
  refine zc ?_;try exact trivial
  refine a_call [] (hf) ok0 ?_ ?_ ?_
  · refine zs ?_;try exact trivial
  · refine zs ?_;try exact trivial
  rintro _ _ ⟨rfl, rfl⟩
  cases bb
  · rw [if_neg (by simp)]
    refine zc ?_;try exact trivial
    all_goals first | exact leCs_refl _ | exact rf_le ⟨leC_refl _, rfl, rfl, leC_refl _, leC_refl _, leC_refl _, rfl, rfl, rfl, rfl, rfl, by first | rfl | assumption, by first | rfl | assumption, rfl, rfl⟩ | trace_state
  rw [if_pos rfl]
  refine zc ?_;try exact trivial
  cases o : c.opn
  · have e : mayResultP c ⟨5, player, other, frame, inp, n⟩ = 15 := by unfold mayResultP; rw [if_pos o]
    rw [e]
    simp (maxSteps:=2000000) (disch:=omega) only [go_sem,Nat.reduceAdd,Nat.reduceSub,Nat.reduceMul,Nat.reduceBEq,Nat.reduceEqDiff,Nat.reduceLT,Nat.reduceLeDiff,Nat.reduceDiv,reduceIte,reduceCtorEq, o, Bool.not_false]
    all_goals first | exact leCs_refl _ | exact rf_le ⟨leC_refl _, rfl, rfl, leC_refl _, leC_refl _, leC_refl _, rfl, rfl, rfl, rfl, rfl, by first | rfl | assumption, by first | rfl | assumption, rfl, rfl⟩ | trace_state
  have dn : (!c.opn) = false := by rw [o]; rfl
  simp (maxSteps:=2000000) (disch:=omega) only [go_sem,Nat.reduceAdd,Nat.reduceSub,Nat.reduceMul,Nat.reduceBEq,Nat.reduceEqDiff,Nat.reduceLT,Nat.reduceLeDiff,Nat.reduceDiv,reduceIte,reduceCtorEq, dn]
  refine a_call [.arg 0] hs (ok1 rfl) ?_ ?_ ?_
  · refine zs ?_;try exact trivial
  · refine zs ?_;try exact trivial
    all_goals exact rfX
  rintro _ _ ⟨rfl, rfl⟩
  refine zc ?_;try exact trivial
  have hw := res_win (cap := c.cap) h.win
  have hr := rresult_h c.st c.cap c.fuel c.code
  have em : mayResultP c ⟨5, player, other, frame, inp, n⟩ = if c.over = true then 12 else if (resP c.st c.cap).2.2 = false then 15 else if player ≠ (if (resP c.st c.cap).1 = 0 then c.p0 else c.p1) ∨ n ≠ (resP c.st c.cap).2.1 then 18 else 0 := by unfold mayResultP; rw [if_neg (by rw [o]; simp)]
  rw [em]
  clear em hf hs
  generalize resP c.st c.cap = R at hr hw ⊢
  obtain ⟨w, y, z⟩ := R
  simp only at hr hw ⊢
  refine a_drawC (⟨[V.cell (.ptr (.arg 0) 0), .undef, .undef, V.cell (.ptr (.loc [3]) 0), .undef, V.cell (.ptr (.loc [5]) 0), V.int .i64 w, V.int .i64 y, V.bool z, U, U, U, U, U, U, U, U, U, U, U, U, U, U, U, U, U, U, U, U, U, U, U, U, U, U, U, U, U, U, U, U, U, U, U, U, U, U, U, U, U, U, U, U, U, U, U, U, U, U, U, U, U, U, U, U, U, U, U, U, U, U, U, U, U, U, U, U, U, U, U, U, U, U, U, U, U, U, U, U, U, U, U, U, U, U, U, U, U, U, U, U, U, U, U, U, U, U, U, U, U, U, U, U, U, U, U, U, U, U, U, U, U, U, U, U, U, U, U, U, U, U, U, U, U, U, U, U, U, U, U, U, U, U, U, U, U, U, U, U, U, U, U, U, U, U, U, U, U, U, U, U, U, U, U, U, U, U, U, U, U, U, U, U, U, U, U, U, U, U, U, U, U, .undef], [(.loc [5], (sd c.st).map D.toC), (.loc [3], evC ⟨5, player, other, frame, inp, n⟩), (.arg 0, rfB (.arg 0) c)]⟩) (.take 1 (.take 2 (.take 3 (.both [(0, .both [(4, .both [(5, .take 6 (.take 7 (.take 8 (.take 9 (.take 10 (.take 11 (.take 12 (.done))))))))])]), (4, .both [(0, .both [(5, .take 6 (.take 7 (.take 8 (.take 9 (.take 10 (.take 11 (.take 12 (.done))))))))])])])))) (by kernel_rfl) (by kernel_rfl) ?_ ?_
  · refine zc ?_;try exact trivial
    repeat' (with_reducible apply And.intro)
    all_goals (
      refine a_call [] (hr) ok0 ?_ ?_ ?_
      · refine zs ?_;try exact trivial
      · refine zs ?_;try exact trivial
      rintro _ _ ⟨rfl, rfl⟩
      (refine zc ?_; try exact trivial))
    all_goals first | exact leCs_refl _ | exact rf_le ⟨leC_refl _, rfl, rfl, leC_refl _, leC_refl _, leC_refl _, rfl, rfl, rfl, rfl, rfl, by first | rfl | assumption, by first | rfl | assumption, rfl, rfl⟩ | trace_state
  refine zc ?_;try exact trivial
  cases cov : c.over
  · rw [if_neg (by simp)]
    simp (maxSteps:=2000000) (disch:=omega) only [go_sem,Nat.reduceAdd,Nat.reduceSub,Nat.reduceMul,Nat.reduceBEq,Nat.reduceEqDiff,Nat.reduceLT,Nat.reduceLeDiff,Nat.reduceDiv,reduceIte,reduceCtorEq, cov]
    cases z
    · rw [if_pos rfl]
      refine zc ?_;try exact trivial
      all_goals first | exact leCs_refl _ | exact rf_le ⟨leC_refl _, rfl, rfl, leC_refl _, leC_refl _, leC_refl _, rfl, rfl, rfl, rfl, rfl, by first | rfl | assumption, by first | rfl | assumption, rfl, rfl⟩ | trace_state
    rw [if_neg (by simp)]
    refine zc ?_;try exact trivial
    rcases hw with rfl | rfl
    · refine a_quiet (by kernel_rfl) (by kernel_rfl) (by kernel_rfl) ?_
      cases dp : decide (player = c.p0)
      · rw [if_pos (.inl (by simpa using of_decide_eq_false dp))]
        simp (maxSteps:=2000000) (disch:=omega) only [go_sem,Nat.reduceAdd,Nat.reduceSub,Nat.reduceMul,Nat.reduceBEq,Nat.reduceEqDiff,Nat.reduceLT,Nat.reduceLeDiff,Nat.reduceDiv,reduceIte,reduceCtorEq, dp, Int.reduceLT, Int.reduceLE, Int.reduceToNat, decide_not, Bool.not_false]
        all_goals first | exact leCs_refl _ | exact rf_le ⟨leC_refl _, rfl, rfl, leC_refl _, leC_refl _, leC_refl _, rfl, rfl, rfl, rfl, rfl, by first | rfl | assumption, by first | rfl | assumption, rfl, rfl⟩ | trace_state
      cases dn : decide (n = y)
      · rw [if_pos (.inr (of_decide_eq_false dn))]
        simp (maxSteps:=2000000) (disch:=omega) only [go_sem,Nat.reduceAdd,Nat.reduceSub,Nat.reduceMul,Nat.reduceBEq,Nat.reduceEqDiff,Nat.reduceLT,Nat.reduceLeDiff,Nat.reduceDiv,reduceIte,reduceCtorEq, dp, dn, Int.reduceLT, Int.reduceLE, Int.reduceToNat, decide_not, Bool.not_false, Bool.not_true]
        all_goals first | exact leCs_refl _ | exact rf_le ⟨leC_refl _, rfl, rfl, leC_refl _, leC_refl _, leC_refl _, rfl, rfl, rfl, rfl, rfl, by first | rfl | assumption, by first | rfl | assumption, rfl, rfl⟩ | trace_state
      rw [if_neg (by rintro (q | q); exact q (by simpa using of_decide_eq_true dp); exact q (of_decide_eq_true dn))]
      simp (maxSteps:=2000000) (disch:=omega) only [go_sem,Nat.reduceAdd,Nat.reduceSub,Nat.reduceMul,Nat.reduceBEq,Nat.reduceEqDiff,Nat.reduceLT,Nat.reduceLeDiff,Nat.reduceDiv,reduceIte,reduceCtorEq, dp, dn, Int.reduceLT, Int.reduceLE, Int.reduceToNat, decide_not, Bool.not_false, Bool.not_true]
      all_goals first | exact leCs_refl _ | exact rf_le ⟨leC_refl _, rfl, rfl, leC_refl _, leC_refl _, leC_refl _, rfl, rfl, rfl, rfl, rfl, by first | rfl | assumption, by first | rfl | assumption, rfl, rfl⟩ | trace_state
    refine a_quiet (by kernel_rfl) (by kernel_rfl) (by kernel_rfl) ?_
    cases dp : decide (player = c.p1)
    · rw [if_pos (.inl (by simpa using of_decide_eq_false dp))]
      simp (maxSteps:=2000000) (disch:=omega) only [go_sem,Nat.reduceAdd,Nat.reduceSub,Nat.reduceMul,Nat.reduceBEq,Nat.reduceEqDiff,Nat.reduceLT,Nat.reduceLeDiff,Nat.reduceDiv,reduceIte,reduceCtorEq, dp, Int.reduceLT, Int.reduceLE, Int.reduceToNat, decide_not, Bool.not_false]
      all_goals first | exact leCs_refl _ | exact rf_le ⟨leC_refl _, rfl, rfl, leC_refl _, leC_refl _, leC_refl _, rfl, rfl, rfl, rfl, rfl, by first | rfl | assumption, by first | rfl | assumption, rfl, rfl⟩ | trace_state
    cases dn : decide (n = y)
    · rw [if_pos (.inr (of_decide_eq_false dn))]
      simp (maxSteps:=2000000) (disch:=omega) only [go_sem,Nat.reduceAdd,Nat.reduceSub,Nat.reduceMul,Nat.reduceBEq,Nat.reduceEqDiff,Nat.reduceLT,Nat.reduceLeDiff,Nat.reduceDiv,reduceIte,reduceCtorEq, dp, dn, Int.reduceLT, Int.reduceLE, Int.reduceToNat, decide_not, Bool.not_false, Bool.not_true]
      all_goals first | exact leCs_refl _ | exact rf_le ⟨leC_refl _, rfl, rfl, leC_refl _, leC_refl _, leC_refl _, rfl, rfl, rfl, rfl, rfl, by first | rfl | assumption, by first | rfl | assumption, rfl, rfl⟩ | trace_state
    rw [if_neg (by rintro (q | q); exact q (by simpa using of_decide_eq_true dp); exact q (of_decide_eq_true dn))]
    simp (maxSteps:=2000000) (disch:=omega) only [go_sem,Nat.reduceAdd,Nat.reduceSub,Nat.reduceMul,Nat.reduceBEq,Nat.reduceEqDiff,Nat.reduceLT,Nat.reduceLeDiff,Nat.reduceDiv,reduceIte,reduceCtorEq, dp, dn, Int.reduceLT, Int.reduceLE, Int.reduceToNat, decide_not, Bool.not_false, Bool.not_true]
    all_goals first | exact leCs_refl _ | exact rf_le ⟨leC_refl _, rfl, rfl, leC_refl _, leC_refl _, leC_refl _, rfl, rfl, rfl, rfl, rfl, by first | rfl | assumption, by first | rfl | assumption, rfl, rfl⟩ | trace_state
  rw [if_pos rfl]
  simp (maxSteps:=2000000) (disch:=omega) only [go_sem,Nat.reduceAdd,Nat.reduceSub,Nat.reduceMul,Nat.reduceBEq,Nat.reduceEqDiff,Nat.reduceLT,Nat.reduceLeDiff,Nat.reduceDiv,reduceIte,reduceCtorEq, cov]
  all_goals first | exact leCs_refl _ | exact rf_le ⟨leC_refl _, rfl, rfl, leC_refl _, leC_refl _, leC_refl _, rfl, rfl, rfl, rfl, rfl, by first | rfl | assumption, by first | rfl | assumption, rfl, rfl⟩ | trace_state
end
end Go.Proofs.YtamcjecgkfmjkaaGreat
