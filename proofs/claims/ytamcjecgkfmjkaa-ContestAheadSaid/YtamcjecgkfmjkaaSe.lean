/- The logic: states, events, numbers in a row compared. -/
import Derived.Test.YtamcjecgkfmjkaaBx
open Go Go.RowKit
namespace Go.Proofs.Ytamcjecgkfmjkaa
set_option linter.unusedSimpArgs false
set_option linter.unusedVariables false
def eqS (s t : Sta) : Bool := decide (s.frame = t.frame) && decide (s.cells = t.cells) && decide (s.seed = t.seed) && (s.over == t.over) && decide (s.win = t.win)
theorem eqS_iff {s t : Sta} : eqS s t = true ↔ s = t := by
  unfold eqS
  simp only [Bool.and_eq_true, decide_eq_true_eq, beq_iff_eq]
  constructor
  · rintro ⟨⟨⟨⟨a, b⟩, c⟩, d⟩, e⟩; exact Sta.ext' a b c d e
  · rintro rfl; exact ⟨⟨⟨⟨rfl, rfl⟩, rfl⟩, rfl⟩, rfl⟩
@[go_sem] theorem eqS_refl {s : Sta} : eqS s s = true := eqS_iff.2 rfl
def uvS (s : Sta) : List Value := .int .i64 s.frame :: (s.cells.map (fun n => Value.int .i32 n) ++ [.int .u32 (U32 s.seed), .bool s.over, .int .i64 s.win])
theorem uvS_sd (s : Sta) : (sd s).map D.toC = (uvS s).map C.val := by
  simp [sd, uvS, c32, D.toC]
theorem val_inj : ∀ {us vs : List Value}, us.map C.val = vs.map C.val → us = vs
  | [], [], _ => rfl
  | [], _ :: _, h => by simp at h
  | _ :: _, [], h => by simp at h
  | u :: us, v :: vs, h => by
    simp only [List.map_cons, List.cons.injEq, C.val.injEq] at h
    rw [h.1, val_inj h.2]
theorem uvS_inj {s t : Sta} : uvS s = uvS t ↔ s = t := by
  constructor
  · intro h
    unfold uvS at h
    simp only [List.cons.injEq, Value.int.injEq, true_and] at h
    obtain ⟨h1, h2⟩ := h
    obtain ⟨h3, h4⟩ := List.append_inj h2 (by simp [s.len, t.len])
    simp only [List.cons.injEq, Value.int.injEq, Value.bool.injEq, true_and, and_true] at h4
    refine Sta.ext' h1 ?_ (U32_inj.1 h4.1) h4.2.1 h4.2.2
    exact List.map_inj_right (fun a b h => by simpa using h) |>.1 h3
  · rintro rfl; rfl
theorem All2.app {α β : Type} {R : α → β → Prop} {a c : List α} {b d : List β} (h1 : All2 R a b) (h2 : All2 R c d) : All2 R (a ++ c) (b ++ d) := by
  induction h1 with
  | nil => exact h2
  | cons h _ ih => exact .cons h ih
theorem ok_i32 : ∀ (l : List Int), All2 okK (List.replicate l.length (some .i32)) (l.map (fun n => Value.int .i32 n))
  | [] => .nil
  | x :: l => .cons ⟨_, rfl⟩ (ok_i32 l)
theorem uvS_ok (s : Sta) : All2 okK ([some .i64, some .i32, some .i32, some .i32, some .i32, some .i32, some .i32, some .i32, some .i32, some .i32, some .i32, some .i32, some .i32, some .i32, some .i32, some .i32, some .i32, some .u32, none, some .i64] : List (Option IntKind)) (uvS s) := by
  have h := ok_i32 s.cells
  rw [s.len] at h
  show All2 okK (some .i64 :: (List.replicate 16 (some .i32) ++ [some .u32, none, some .i64])) _
  exact .cons ⟨_, rfl⟩ (h.app (c := [some .u32, none, some .i64]) (.cons ⟨_, rfl⟩ (.cons ⟨_, rfl⟩ (.cons ⟨_, rfl⟩ .nil))))
@[congr] theorem cg_aEqA2 {q q' : Option (List (Option IntKind))} {cs ds cs' ds' : List C} {J : Bool → Prop} (h0 : q = q') (h1 : cs = cs') (h2 : ds = ds') : aEqA q cs ds J = aEqA q' cs' ds' J := by subst h0; subst h1; subst h2; rfl
@[go_sem] theorem e_eqS {s t : Sta} {K : Bool → Prop} : aEqA (some [some .i64, some .i32, some .i32, some .i32, some .i32, some .i32, some .i32, some .i32, some .i32, some .i32, some .i32, some .i32, some .i32, some .i32, some .i32, some .i32, some .i32, some .u32, none, some .i64]) ((sd s).map D.toC) ((sd t).map D.toC) K = K (eqS s t) := by
  refine propext ⟨?_, fun h => ?_⟩
  · rintro ⟨ks, us, vs, hq, hu, hv, _, _, h⟩
    refine h _ ?_
    rw [eqS_iff, ← uvS_inj]
    rw [uvS_sd] at hu hv
    rw [val_inj hu, val_inj hv]
  · refine ⟨_, _, _, rfl, uvS_sd s, uvS_sd t, uvS_ok s, uvS_ok t, fun b hb => ?_⟩
    rw [uvS_inj, ← eqS_iff] at hb
    rw [Bool.eq_iff_iff.2 hb]; exact h
@[go_sem] theorem e_eqSl {s : Sta} {f : Int} {K : Bool → Prop} : aEqA (some [some .i64, some .i32, some .i32, some .i32, some .i32, some .i32, some .i32, some .i32, some .i32, some .i32, some .i32, some .i32, some .i32, some .i32, some .i32, some .i32, some .i32, some .u32, none, some .i64]) ((sd s).map D.toC) [.val (.int .i64 f), .val (.int .i32 0), .val (.int .i32 0), .val (.int .i32 0), .val (.int .i32 0), .val (.int .i32 0), .val (.int .i32 0), .val (.int .i32 0), .val (.int .i32 0), .val (.int .i32 0), .val (.int .i32 0), .val (.int .i32 0), .val (.int .i32 0), .val (.int .i32 0), .val (.int .i32 0), .val (.int .i32 0), .val (.int .i32 0), .val (.int .u32 0), .val (.bool false), .val (.int .i64 0)] K = K (eqS s (stz f 0)) := e_eqS (t := stz f 0)
@[go_sem 1100] theorem e_eqEv {x0 y0 : Int} {x1 y1 : Int} {x2 y2 : Int} {x3 y3 : Int} {x4 y4 : Int} {x5 y5 : Int} {K : Bool → Prop} : aEqA (some [some .i64, some .i64, some .i64, some .i64, some .u16, some .i64]) [.val (.int .i64 x0), .val (.int .i64 x1), .val (.int .i64 x2), .val (.int .i64 x3), .val (.int .u16 x4), .val (.int .i64 x5)] [.val (.int .i64 y0), .val (.int .i64 y1), .val (.int .i64 y2), .val (.int .i64 y3), .val (.int .u16 y4), .val (.int .i64 y5)] K = K (decide (x0 = y0 ∧ x1 = y1 ∧ x2 = y2 ∧ x3 = y3 ∧ x4 = y4 ∧ x5 = y5)) := by
  have key : ([.int .i64 x0, .int .i64 x1, .int .i64 x2, .int .i64 x3, .int .u16 x4, .int .i64 x5] : List Value) = [.int .i64 y0, .int .i64 y1, .int .i64 y2, .int .i64 y3, .int .u16 y4, .int .i64 y5] ↔ (x0 = y0 ∧ x1 = y1 ∧ x2 = y2 ∧ x3 = y3 ∧ x4 = y4 ∧ x5 = y5) := by simp
  refine propext ⟨?_, fun h => ?_⟩
  · rintro ⟨ks, us, vs, hq, hu, hv, _, _, h⟩
    refine h _ ?_
    have hu' : us = [.int .i64 x0, .int .i64 x1, .int .i64 x2, .int .i64 x3, .int .u16 x4, .int .i64 x5] := val_inj (us := us) (vs := [.int .i64 x0, .int .i64 x1, .int .i64 x2, .int .i64 x3, .int .u16 x4, .int .i64 x5]) hu.symm
    have hv' : vs = [.int .i64 y0, .int .i64 y1, .int .i64 y2, .int .i64 y3, .int .u16 y4, .int .i64 y5] := val_inj (us := vs) (vs := [.int .i64 y0, .int .i64 y1, .int .i64 y2, .int .i64 y3, .int .u16 y4, .int .i64 y5]) hv.symm
    rw [hu', hv', decide_eq_true_eq, key]
  · refine ⟨_, [.int .i64 x0, .int .i64 x1, .int .i64 x2, .int .i64 x3, .int .u16 x4, .int .i64 x5], [.int .i64 y0, .int .i64 y1, .int .i64 y2, .int .i64 y3, .int .u16 y4, .int .i64 y5], rfl, rfl, rfl, (.cons ⟨_, rfl⟩ (.cons ⟨_, rfl⟩ (.cons ⟨_, rfl⟩ (.cons ⟨_, rfl⟩ (.cons ⟨_, rfl⟩ (.cons ⟨_, rfl⟩ .nil)))))), (.cons ⟨_, rfl⟩ (.cons ⟨_, rfl⟩ (.cons ⟨_, rfl⟩ (.cons ⟨_, rfl⟩ (.cons ⟨_, rfl⟩ (.cons ⟨_, rfl⟩ .nil)))))), fun b hb => ?_⟩
    rw [key] at hb
    have : b = decide (x0 = y0 ∧ x1 = y1 ∧ x2 = y2 ∧ x3 = y3 ∧ x4 = y4 ∧ x5 = y5) := by rw [Bool.eq_iff_iff, hb, decide_eq_true_eq]
    rw [this]; exact h
@[go_sem 1100] theorem e_eqSt {x0 y0 : Int} {x1 y1 : Int} {x2 y2 : Int} {x3 y3 : Int} {x4 y4 : Int} {x5 y5 : Int} {x6 y6 : Int} {x7 y7 : Bool} {x8 y8 : Int} {x9 y9 : Int} {x10 y10 : Bool} {K : Bool → Prop} : aEqA (some [some .i64, some .i64, some .u32, some .i64, some .i64, some .i64, some .i64, none, some .i64, some .i64, none]) [.val (.int .i64 x0), .val (.int .i64 x1), .val (.int .u32 x2), .val (.int .i64 x3), .val (.int .i64 x4), .val (.int .i64 x5), .val (.int .i64 x6), .val (.bool x7), .val (.int .i64 x8), .val (.int .i64 x9), .val (.bool x10)] [.val (.int .i64 y0), .val (.int .i64 y1), .val (.int .u32 y2), .val (.int .i64 y3), .val (.int .i64 y4), .val (.int .i64 y5), .val (.int .i64 y6), .val (.bool y7), .val (.int .i64 y8), .val (.int .i64 y9), .val (.bool y10)] K = K (decide (x0 = y0 ∧ x1 = y1 ∧ x2 = y2 ∧ x3 = y3 ∧ x4 = y4 ∧ x5 = y5 ∧ x6 = y6 ∧ x7 = y7 ∧ x8 = y8 ∧ x9 = y9 ∧ x10 = y10)) := by
  have key : ([.int .i64 x0, .int .i64 x1, .int .u32 x2, .int .i64 x3, .int .i64 x4, .int .i64 x5, .int .i64 x6, .bool x7, .int .i64 x8, .int .i64 x9, .bool x10] : List Value) = [.int .i64 y0, .int .i64 y1, .int .u32 y2, .int .i64 y3, .int .i64 y4, .int .i64 y5, .int .i64 y6, .bool y7, .int .i64 y8, .int .i64 y9, .bool y10] ↔ (x0 = y0 ∧ x1 = y1 ∧ x2 = y2 ∧ x3 = y3 ∧ x4 = y4 ∧ x5 = y5 ∧ x6 = y6 ∧ x7 = y7 ∧ x8 = y8 ∧ x9 = y9 ∧ x10 = y10) := by simp
  refine propext ⟨?_, fun h => ?_⟩
  · rintro ⟨ks, us, vs, hq, hu, hv, _, _, h⟩
    refine h _ ?_
    have hu' : us = [.int .i64 x0, .int .i64 x1, .int .u32 x2, .int .i64 x3, .int .i64 x4, .int .i64 x5, .int .i64 x6, .bool x7, .int .i64 x8, .int .i64 x9, .bool x10] := val_inj (us := us) (vs := [.int .i64 x0, .int .i64 x1, .int .u32 x2, .int .i64 x3, .int .i64 x4, .int .i64 x5, .int .i64 x6, .bool x7, .int .i64 x8, .int .i64 x9, .bool x10]) hu.symm
    have hv' : vs = [.int .i64 y0, .int .i64 y1, .int .u32 y2, .int .i64 y3, .int .i64 y4, .int .i64 y5, .int .i64 y6, .bool y7, .int .i64 y8, .int .i64 y9, .bool y10] := val_inj (us := vs) (vs := [.int .i64 y0, .int .i64 y1, .int .u32 y2, .int .i64 y3, .int .i64 y4, .int .i64 y5, .int .i64 y6, .bool y7, .int .i64 y8, .int .i64 y9, .bool y10]) hv.symm
    rw [hu', hv', decide_eq_true_eq, key]
  · refine ⟨_, [.int .i64 x0, .int .i64 x1, .int .u32 x2, .int .i64 x3, .int .i64 x4, .int .i64 x5, .int .i64 x6, .bool x7, .int .i64 x8, .int .i64 x9, .bool x10], [.int .i64 y0, .int .i64 y1, .int .u32 y2, .int .i64 y3, .int .i64 y4, .int .i64 y5, .int .i64 y6, .bool y7, .int .i64 y8, .int .i64 y9, .bool y10], rfl, rfl, rfl, (.cons ⟨_, rfl⟩ (.cons ⟨_, rfl⟩ (.cons ⟨_, rfl⟩ (.cons ⟨_, rfl⟩ (.cons ⟨_, rfl⟩ (.cons ⟨_, rfl⟩ (.cons ⟨_, rfl⟩ (.cons ⟨_, rfl⟩ (.cons ⟨_, rfl⟩ (.cons ⟨_, rfl⟩ (.cons ⟨_, rfl⟩ .nil))))))))))), (.cons ⟨_, rfl⟩ (.cons ⟨_, rfl⟩ (.cons ⟨_, rfl⟩ (.cons ⟨_, rfl⟩ (.cons ⟨_, rfl⟩ (.cons ⟨_, rfl⟩ (.cons ⟨_, rfl⟩ (.cons ⟨_, rfl⟩ (.cons ⟨_, rfl⟩ (.cons ⟨_, rfl⟩ (.cons ⟨_, rfl⟩ .nil))))))))))), fun b hb => ?_⟩
    rw [key] at hb
    have : b = decide (x0 = y0 ∧ x1 = y1 ∧ x2 = y2 ∧ x3 = y3 ∧ x4 = y4 ∧ x5 = y5 ∧ x6 = y6 ∧ x7 = y7 ∧ x8 = y8 ∧ x9 = y9 ∧ x10 = y10) := by rw [Bool.eq_iff_iff, hb, decide_eq_true_eq]
    rw [this]; exact h
@[go_sem 1100] theorem e_eqP2 {x0 y0 : Int} {x1 y1 : Int} {K : Bool → Prop} : aEqA (some [some .i64, some .i64]) [.val (.int .i64 x0), .val (.int .i64 x1)] [.val (.int .i64 y0), .val (.int .i64 y1)] K = K (decide (x0 = y0 ∧ x1 = y1)) := by
  have key : ([.int .i64 x0, .int .i64 x1] : List Value) = [.int .i64 y0, .int .i64 y1] ↔ (x0 = y0 ∧ x1 = y1) := by simp
  refine propext ⟨?_, fun h => ?_⟩
  · rintro ⟨ks, us, vs, hq, hu, hv, _, _, h⟩
    refine h _ ?_
    have hu' : us = [.int .i64 x0, .int .i64 x1] := val_inj (us := us) (vs := [.int .i64 x0, .int .i64 x1]) hu.symm
    have hv' : vs = [.int .i64 y0, .int .i64 y1] := val_inj (us := vs) (vs := [.int .i64 y0, .int .i64 y1]) hv.symm
    rw [hu', hv', decide_eq_true_eq, key]
  · refine ⟨_, [.int .i64 x0, .int .i64 x1], [.int .i64 y0, .int .i64 y1], rfl, rfl, rfl, (.cons ⟨_, rfl⟩ (.cons ⟨_, rfl⟩ .nil)), (.cons ⟨_, rfl⟩ (.cons ⟨_, rfl⟩ .nil)), fun b hb => ?_⟩
    rw [key] at hb
    have : b = decide (x0 = y0 ∧ x1 = y1) := by rw [Bool.eq_iff_iff, hb, decide_eq_true_eq]
    rw [this]; exact h
@[go_sem 1100] theorem e_eqU2 {x0 y0 : Int} {x1 y1 : Int} {K : Bool → Prop} : aEqA (some [some .u16, some .u16]) [.val (.int .u16 x0), .val (.int .u16 x1)] [.val (.int .u16 y0), .val (.int .u16 y1)] K = K (decide (x0 = y0 ∧ x1 = y1)) := by
  have key : ([.int .u16 x0, .int .u16 x1] : List Value) = [.int .u16 y0, .int .u16 y1] ↔ (x0 = y0 ∧ x1 = y1) := by simp
  refine propext ⟨?_, fun h => ?_⟩
  · rintro ⟨ks, us, vs, hq, hu, hv, _, _, h⟩
    refine h _ ?_
    have hu' : us = [.int .u16 x0, .int .u16 x1] := val_inj (us := us) (vs := [.int .u16 x0, .int .u16 x1]) hu.symm
    have hv' : vs = [.int .u16 y0, .int .u16 y1] := val_inj (us := vs) (vs := [.int .u16 y0, .int .u16 y1]) hv.symm
    rw [hu', hv', decide_eq_true_eq, key]
  · refine ⟨_, [.int .u16 x0, .int .u16 x1], [.int .u16 y0, .int .u16 y1], rfl, rfl, rfl, (.cons ⟨_, rfl⟩ (.cons ⟨_, rfl⟩ .nil)), (.cons ⟨_, rfl⟩ (.cons ⟨_, rfl⟩ .nil)), fun b hb => ?_⟩
    rw [key] at hb
    have : b = decide (x0 = y0 ∧ x1 = y1) := by rw [Bool.eq_iff_iff, hb, decide_eq_true_eq]
    rw [this]; exact h
end Go.Proofs.Ytamcjecgkfmjkaa
