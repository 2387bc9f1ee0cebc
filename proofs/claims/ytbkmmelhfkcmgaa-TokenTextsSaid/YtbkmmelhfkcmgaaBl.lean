/- strings.Builder in the logic. -/
import Derived.Test.YtbkmmelhfkcmgaaAwJ
import Derived.Test.YtbkmmelhfkcmgaaTy
import Derived.WalkKit
import Derived.Lib.Builder
import Derived.Lib.UnsafeStr
import Derived.Lib.Bytealg
open Go Go.RowKit
namespace Go.Proofs.Ytbkmmelhfkcmgaa
set_option linter.unusedSimpArgs false
set_option linter.unusedVariables false
theorem arg1 {g : Gh} {x : W} {xs : List Value} (h : All2 (RelW g) [x] xs) : ∃ y, xs = [y] ∧ RelW g x y := by
  obtain ⟨y, l, rfl, h1, h2⟩ := h.cons_inv
  obtain rfl := h2.nil_inv
  exact ⟨y, rfl, h1⟩
theorem sizeBuilder : ((Try.prog.info? 57).map (·.size)) = some 2 := by kernel_rfl
theorem liesBuilder : liesAt Try.prog Try.prog.depth 57 (2 / Try.prog.cellsOf 57) 0 57 1 = true := by kernel_rfl
set_option maxRecDepth 100000 in
set_option maxHeartbeats 2000000 in
theorem ccUsed (b : Nat) (w : World) (h0 : w.cell? ⟨b, 0, none⟩ = some (.pointer (some ⟨b, 0, none⟩))) : Calls Try.prog 35 #[.pointer (some ⟨b, 0, none⟩)] w fun e w' => e = .returned (.tuple #[]) ∧ w' = w := by
  obtain ⟨j, hj, _⟩ := Option.map_eq_some_iff.1 sizeBuilder
  go_enter Try.func35, Try.ntmps35
  go_wp2
  rw [Lib.run_neq_ptr_same w _ Try.underlying55 hj]
  go_wp2
  go_end0
  exact ⟨rfl, rfl⟩
set_option maxRecDepth 100000 in
set_option maxHeartbeats 2000000 in
theorem ccFresh (b : Nat) (w : World) (h0 : w.cell? ⟨b, 0, none⟩ = some (.pointer none)) (hsh : w.shape? b = some (57, 2)) (hfz : w.frozen? ⟨b, 0, none⟩ = false) :
    Calls Try.prog 35 #[.pointer (some ⟨b, 0, none⟩)] w fun e w' => e = .returned (.tuple #[]) ∧ w' = w.setCell ⟨b, 0, none⟩ (.pointer (some ⟨b, 0, none⟩)) := by
  obtain ⟨j, hj, hjs⟩ := Option.map_eq_some_iff.1 sizeBuilder
  go_enter Try.func35, Try.ntmps35
  go_wp2
  rw [Lib.run_to_unsafe w ⟨b, 0, none⟩ Try.underlying55 Try.underlying81 hj (by rw [hjs]; decide) hsh (Nat.zero_lt_succ 1)]
  simp only [Result.andThen]
  rw [Oper.upon_value]
  go_wp2
  rw [run_callFunc_extern Try.func41 (by kernel_rfl) (by kernel_rfl) (by kernel_rfl) (e := Extern.AbiNoEscape.same) (by kernel_rfl)]
  rw [Lib.run_noEscape]
  simp only [Result.andThen]
  rw [Oper.upon_value]
  go_wp2
  rw [Lib.run_from_unsafe w ⟨b, 0, none⟩ Try.underlying81 Try.underlying55 hj hsh liesBuilder]
  simp only [Result.andThen]
  rw [Oper.upon_value]
  go_wp2
  go_end0
  exact ⟨rfl, rfl⟩
/-- the two cells of a builder -/
theorem two_cells {g : Gh} {a c : C} {ys : Array Value} (h : All2 (RelC g) [a, c] ys.toList) : ∃ p v, ys = #[p, v] ∧ RelC g a p ∧ RelC g c v := by
  obtain ⟨p, l, e, h1, h2⟩ := h.cons_inv
  obtain ⟨v, l', rfl, h3, h4⟩ := h2.cons_inv
  obtain rfl := h4.nil_inv
  exact ⟨p, v, by apply Array.ext'; simpa using e, h1, h3⟩
def BlA (a : C) : Prop := a = .typ 57 ∨ a = .ptr (.arg 0) 0
theorem cc_h (a c : C) (ha : BlA a) : Holds Try.prog 35 [.ptr (.arg 0) 0] [(.arg 0, [a, c])] (fun r h' => r = .tup [] ∧ h' = [(.arg 0, [.ptr (.arg 0) 0, c])]) := by
  refine ⟨callable_of Try.func35 rfl (by decide +kernel), fun g w xs hG hx hw => ?_⟩
  obtain ⟨y, rfl, hy⟩ := arg1 hx
  obtain rfl : y = .pointer (some ⟨g.B (.arg 0), 0, none⟩) := hy
  obtain ⟨ys, t, hb, hr, hT⟩ := hw.box (.arg 0) _ rfl
  obtain ⟨p, v, rfl, h1, h2⟩ := two_cells hr
  have c0 : w.cell? ⟨g.B (.arg 0), 0, none⟩ = some p := by rw [cell_row hb]; rfl
  rcases ha with rfl | rfl
  · obtain rfl : p = .pointer none := h1
    obtain rfl : 57 = t := hT _ (by simp)
    refine (ccFresh (g.B (.arg 0)) w c0 (by simp [World.shape?, hb]) (by simp [World.frozen?, hb])).mono ?_
    rintro e w' ⟨rfl, rfl⟩
    have hlt := block_lt hb
    have hself : (w.setCell ⟨g.B (.arg 0), 0, none⟩ (.pointer (some ⟨g.B (.arg 0), 0, none⟩))).heap[g.B (.arg 0)]? = some (.cells #[.pointer (some ⟨g.B (.arg 0), 0, none⟩), v] 57 (0, 0)) := by
      show (w.heap.modify (g.B (.arg 0)) _)[g.B (.arg 0)]? = _
      rw [Array.getElem?_modify, if_pos rfl, hb]
      rfl
    have hoth : ∀ k, k ≠ g.B (.arg 0) → (w.setCell ⟨g.B (.arg 0), 0, none⟩ (.pointer (some ⟨g.B (.arg 0), 0, none⟩))).heap[k]? = w.heap[k]? := fun k hk => by
      show (w.heap.modify (g.B (.arg 0)) _)[k]? = _
      rw [Array.getElem?_modify, if_neg (Ne.symm hk)]
    have hs : Sim (entry g [(.arg 0, [.typ 57, c])] w) g ⟨[], [(.arg 0, [.typ 57, c])]⟩ { tmps := #[], defers := [] } w := ⟨.nil, ⟨rfl, hG⟩, hw, Cum.refl _ _ _⟩
    have hs2 := hs.setBox (w' := w.setCell ⟨g.B (.arg 0), 0, none⟩ (.pointer (some ⟨g.B (.arg 0), 0, none⟩))) (i := .arg 0) (cs := [.typ 57, c]) rfl (cs' := [.ptr (.arg 0) 0, c]) (ys' := #[.pointer (some ⟨g.B (.arg 0), 0, none⟩), v]) (.cons rfl (.cons h2 .nil)) hoth ⟨_, _, hb, hself⟩
      (fun t h => h.sub fun τ hτ => by rcases List.mem_cons.1 hτ with e | e
                                       · cases e
                                       · exact List.mem_cons_of_mem _ e) rfl rfl rfl (by simp [World.setCell])
    exact ⟨_, .tup [], [(.arg 0, [.ptr (.arg 0) 0, c])], g, rfl, ⟨rfl, rfl⟩, ⟨#[], rfl, .nil⟩, hs2.wi, hs2.cum⟩
  · obtain rfl : p = .pointer (some ⟨g.B (.arg 0), 0, none⟩) := h1
    refine (ccUsed (g.B (.arg 0)) w c0).mono ?_
    rintro e w' ⟨rfl, rfl⟩
    exact ⟨_, .tup [], _, g, rfl, ⟨rfl, rfl⟩, ⟨#[], rfl, .nil⟩, hw, Cum.refl _ _ _⟩
/-- what holds behind a row of one's own is frozen -/
theorem WI.froze {g : Gh} {w : World} {a : C} {τ : Tag} {nl : Option Bool} {l : List UInt8} {r : Rec} (ha : BlA a) (hw : WI g [(.arg 0, [a, .lst (.tag τ) nl 1 (byt l)])] w) (hr : g.O τ = some r) (n : Nat) (hn : n ≠ 0) :
    WI ⟨g.M, g.B, fun _ => none⟩ [(.arg 0, [a, .lst .no none 1 (byt l)])] (w.drew.freeze ⟨r.blk, 0, none⟩ n) ∧ Cum (entry g [(.arg 0, [a, .lst (.tag τ) nl 1 (byt l)])] w) ⟨g.M, g.B, fun _ => none⟩ [(.arg 0, [a, .lst .no none 1 (byt l)])] (w.drew.freeze ⟨r.blk, 0, none⟩ n) := by
  obtain ⟨cur, hb, _⟩ := hw.own _ r hr
  have hb' : w.drew.heap[r.blk]? = some (.cells cur r.e (0, 0)) := hb
  obtain ⟨m, hfz⟩ := freeze_same w.drew r.blk 0 n hn hb'
  have hne : ∀ j, j ≠ r.blk → (w.drew.freeze ⟨r.blk, 0, none⟩ n).heap[j]? = w.heap[j]? := fun j hj => freeze_heap w.drew _ _ _ j hj
  have hbox : r.blk ≠ g.B (.arg 0) := hw.ownB _ r (.arg 0) _ hr rfl
  have hcell : ∀ ad v, w.cell? ad = some v → (w.drew.freeze ⟨r.blk, 0, none⟩ n).cell? ad = some v := by
    intro ad v h
    by_cases hbk : ad.block = r.blk
    · obtain ⟨k, off, st⟩ := ad
      cases hbk
      cases st with
      | none => rw [cell_of_row _ _ _ _ _ _ hb] at h; rw [cell_of_row _ _ _ _ _ _ hfz]; exact h
      | some _ =>
        unfold World.cell? at h ⊢
        simp only [hb] at h
        rw [show (w.drew.freeze ⟨r.blk, 0, none⟩ n).heap[r.blk]? = _ from hfz]
        exact h
    · rw [cell_eq (hne _ hbk)]; exact h
  have hos : (w.drew.freeze ⟨r.blk, 0, none⟩ n).os = w.os ∧ (w.drew.freeze ⟨r.blk, 0, none⟩ n).tape = w.tape ∧ (w.drew.freeze ⟨r.blk, 0, none⟩ n).output = w.output := by
    unfold World.freeze; split <;> exact ⟨rfl, rfl, rfl⟩
  have hsz : (w.drew.freeze ⟨r.blk, 0, none⟩ n).heap.size = w.heap.size := by
    unfold World.freeze; split
    · rfl
    · show (w.heap.modify _ _).size = _
      simp
  have hget1 : ∀ i cs, hget [(Id.arg 0, [a, C.lst .no none 1 (byt l)])] i = some cs → i = .arg 0 ∧ cs = [a, C.lst .no none 1 (byt l)] := by
    intro i cs hi
    simp only [hget] at hi
    split at hi
    · rename_i e; cases hi; exact ⟨e.symm, rfl⟩
    · cases hi
  refine ⟨⟨fun ad v h => hcell ad v (hw.mem ad v h), ?_, ?_, ?_, (fun _ _ h => by cases h), (fun _ _ _ _ h => by cases h), (fun _ _ _ _ h => by cases h)⟩, ⟨hos.1, hos.2.1, hos.2.2, by rw [hsz]; exact Nat.le_refl _, ?_, ?_, fun _ _ h => h, fun _ _ h => .inl h, fun _ => rfl⟩⟩
  · intro i cs hi
    obtain ⟨rfl, rfl⟩ := hget1 i cs hi
    obtain ⟨ys, t, h1, h2, hT⟩ := hw.box (.arg 0) _ rfl
    obtain ⟨p, v, rfl, h3, h4⟩ := two_cells h2
    refine ⟨_, t, by rw [hne _ (Ne.symm hbox)]; exact h1, .cons ?_ (.cons ⟨?_, trivial⟩ .nil), hT.sub fun τ hτ => ?_⟩
    · rcases ha with rfl | rfl <;> exact h3
    · exact (leC_rel (g := ⟨g.M, g.B, fun _ => none⟩) (a := .lst .no none 1 (byt l)) (b := .lst .no nl 1 (byt l)) ⟨.inl rfl, .inr rfl, .inl rfl, rfl⟩ ⟨h4.1, trivial⟩).1
    · rcases List.mem_cons.1 hτ with e | e
      · rw [e]; simp
      · simp at e
  · intro i j cs ds hi hj _
    rw [(hget1 i cs hi).1, (hget1 j ds hj).1]
  · intro i cs ad v hi ha'
    obtain ⟨rfl, rfl⟩ := hget1 i cs hi
    exact hw.boxM (.arg 0) _ ad v rfl ha'
  · intro k hk hF
    refine hne k fun e => hF (.inr ⟨τ, r, hr, e.symm⟩)
  · rintro k (⟨i, cs, hi, rfl⟩ | ⟨t, q, ht, rfl⟩)
    · obtain ⟨rfl, rfl⟩ := hget1 i cs hi
      exact .inl (.inl ⟨.arg 0, _, rfl, rfl⟩)
    · cases ht
set_option maxRecDepth 100000 in
set_option maxHeartbeats 2000000 in
theorem blString_h (a : C) (l : List UInt8) (nl : Option Bool) (ha : BlA a) (h0 : l ≠ []) : Holds Try.prog 27 [.ptr (.arg 0) 0] [(.arg 0, [a, .lst (.tag (.bcell 5 (.arg 0) 1)) nl 1 (byt l)])] (fun r h' => r = V.val (.string (strB l)) ∧ h' = [(.arg 0, [a, .lst .no none 1 (byt l)])]) := by
  refine ⟨callable_of Try.func27 rfl (by decide +kernel), fun g w xs hG hx hw => ?_⟩
  obtain ⟨y, rfl, hy⟩ := arg1 hx
  obtain rfl : y = .pointer (some ⟨g.B (.arg 0), 0, none⟩) := hy
  obtain ⟨ys, t, hb, hr, hT⟩ := hw.box (.arg 0) _ rfl
  obtain ⟨p, v, rfl, h1, h2⟩ := two_cells hr
  obtain ⟨hD, hO⟩ := h2
  rcases hO with ⟨hx, _⟩ | ⟨r, hr', hrs, rfl⟩
  · cases hx
  have hre : r.e = 5 := hrs.2 _ rfl
  replace hrs := hrs.1
  obtain ⟨cur, hbr, hcs, hnc, hcm, hMo⟩ := hw.own _ r hr'
  rw [hre] at hbr
  have hl : l.length = r.n := by
    rcases (RelD.lst_inv hD).2 with ⟨e, _⟩ | ⟨_, _, _, e, _, hl, _⟩
    · cases e
    · cases e; rw [Nat.mul_one, byt_len] at hl; exact hl.symm
  have hlp : 0 < l.length := List.length_pos_iff.2 h0
  have c1 : w.drew.cell? ⟨g.B (.arg 0), 1, none⟩ = some (.slice (some ⟨r.blk, 0, none⟩) r.n r.c) := by
    have : w.drew.heap[g.B (.arg 0)]? = some (.cells #[p, .slice (some ⟨r.blk, 0, none⟩) r.n r.c] t (0, 0)) := hb
    rw [cell_row this]; rfl
  have hSD : (Builtin.unsafeSliceData_ #[22] 71 #[.slice (some ⟨r.blk, 0, none⟩) r.n r.c]).run Try.prog w.drew = .ok (.pointer (some ⟨r.blk, 0, none⟩)) w.drew :=
    Lib.run_unsafeSliceData_row _ _ _ _ _ _ (by omega)
  have hcell : ∀ j x, l[j]? = some x → w.drew.cell? ((⟨r.blk, 0, none⟩ : Addr).add j) = some (.int .u8 x.toNat) := by
    intro j x hj
    rcases (RelD.lst_inv hD).2 with ⟨e, _⟩ | ⟨ad, n', c', e, _, _, _, _, hM⟩
    · cases e
    · cases e
      obtain ⟨u, hu, hr⟩ := hM j (.val (.int .u8 x.toNat)) (by simp [byt, hj])
      cases hr
      have := hw.mem _ _ hu
      rw [cell_eq (w' := w.drew) (w := w) rfl]; exact this
  have hUS : (Builtin.unsafeString_ #[71, 3] 9 #[.pointer (some ⟨r.blk, 0, none⟩), .int .i64 l.length]).run Try.prog w.drew = .ok (.string ⟨l.toArray⟩) (w.drew.freeze ⟨r.blk, 0, none⟩ l.length) := by
    refine Lib.run_unsafeString_row w.drew 71 3 9 5 Try.underlying71 (by kernel_rfl) r.blk cur.size (by have hg' : w.drew.heap[r.blk]? = some (.cells cur 5 (0, 0)) := hbr; simp [World.shape?, hg']) l h0 (by rw [hl, hcs]; rw [hrs, Nat.mul_one]; exact hnc) (by unfold maxLen at hcm; omega) hcell
  rw [hl] at hUS
  have fin := hw.froze ha hr' l.length (by omega)
  refine Calls.mono (R := fun e w' => e = .returned (.string ⟨l.toArray⟩) ∧ w' = w.drew.freeze ⟨r.blk, 0, none⟩ r.n) ?_ ?_
  · go_enter Try.func27, Try.ntmps27
    go_wp2
    go_region
    all_goals (go_wp2; go_ret; exact ⟨rfl, rfl⟩)
  · rintro e w' ⟨rfl, rfl⟩
    rw [hl] at fin
    exact ⟨_, _, _, ⟨g.M, g.B, fun _ => none⟩, rfl, ⟨rfl, rfl⟩, ⟨rfl, rfl⟩, fin.1, fin.2⟩
end Go.Proofs.Ytbkmmelhfkcmgaa
