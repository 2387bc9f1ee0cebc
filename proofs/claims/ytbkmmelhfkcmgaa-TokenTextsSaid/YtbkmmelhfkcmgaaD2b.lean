/- From walks that keep all of memory to the logic's contracts; chapter 2's functions. -/
import Derived.Test.YtbkmmelhfkcmgaaAwJ
import Derived.Test.YtbkmmelhfkcmgaaTy
import Derived.Test.YtbkmmelhfkcmgaaDigU
open Go Go.RowKit
namespace Go.Proofs.Ytbkmmelhfkcmgaa
set_option linter.unusedSimpArgs false
set_option linter.unusedVariables false
theorem Kept.cum {g : Gh} {h : Heap} {w w' : World} (hk : Kept [] w w') : Cum (entry g h w) g h w' :=
  ⟨hk.os, hk.tape, hk.output, hk.size, fun k hlt _ => hk.block k hlt (by simp), fun _ hf => .inl hf, fun _ _ h => h, fun _ _ h => .inl h, fun _ => rfl⟩
theorem WI.kept {g : Gh} {h : Heap} {w w' : World} (hw : WI g h w) (hk : Kept [] w w') : WI g h w' := by
  have hb : ∀ k, k < w.heap.size → w'.heap[k]? = w.heap[k]? := fun k hlt => hk.block k hlt (by simp)
  refine ⟨fun a v ha => ?_, fun i cs hi => ?_, hw.inj, hw.boxM, fun t r hr => ?_, hw.ownB, hw.ownI⟩
  · rw [cell_eq (hb _ (hw.mem_lt ha))]; exact hw.mem a v ha
  · obtain ⟨ys, t, h1, h2⟩ := hw.box i cs hi
    exact ⟨ys, t, by rw [hb _ (block_lt h1)]; exact h1, h2⟩
  · obtain ⟨cur, h1, h2⟩ := hw.own t r hr
    exact ⟨cur, by rw [hb _ (block_lt h1)]; exact h1, h2⟩
/-- a contract out of a walk that keeps all -/
theorem Holds.ofKept {P : Program} {f : FuncId} {args : List W} {v : V} (hc : Callable P f)
    (H : ∀ (g : Gh) (w : World) (xs : List Value), All2 (RelW g) args xs → WI g [] w → ∃ y, RelV g v y ∧ Calls P f xs.toArray w fun e w' => e = .returned y ∧ Kept [] w w') : Holds P f args [] (fun r h' => r = v ∧ h' = []) := by
  refine ⟨hc, fun g w xs _ ha hw => ?_⟩
  obtain ⟨y, hy, hcall⟩ := H g w xs ha hw
  refine hcall.mono ?_
  rintro e w' ⟨rfl, hk⟩
  exact ⟨y, v, [], g, rfl, ⟨rfl, rfl⟩, hy, hw.kept hk, hk.cum⟩
/-- what an argument of bytes is -/
theorem byt_arg {g : Gh} {w : World} {bs : List UInt8} {y : Value} (hw : WI g [] w) (h : RelW g (.byt bs) y) : ∃ A n c, y = .slice A n c ∧ bs.length = n ∧ n ≤ c ∧ Rd w A (bs.map BV) := by
  obtain ⟨_, hy⟩ := RelD.lst_inv h.1
  rcases hy with ⟨rfl, hb, _⟩ | ⟨a, n, c, rfl, _, hl, hc, _, hM⟩
  · have : bs = [] := by simpa [Go.Proofs.Ytbkmmelhfkcmgaa.byt] using hb
    subst this
    exact ⟨none, 0, 0, rfl, rfl, Nat.le_refl _, fun h => by simp at h⟩
  · refine ⟨some a, n, c, rfl, by rw [Nat.mul_one, byt_len] at hl; exact hl.symm, hc, fun _ => ⟨a, rfl, fun i v hv => ?_⟩⟩
    simp only [List.getElem?_map, Option.map_eq_some_iff] at hv
    obtain ⟨b, hb, rfl⟩ := hv
    obtain ⟨u, hu, hr⟩ := hM i (.val (.int .u8 b.toNat)) (by simp [Go.Proofs.Ytbkmmelhfkcmgaa.byt, hb])
    cases hr
    exact hw.mem _ _ hu
theorem agg_byt {g : Gh} (bs : List UInt8) : RelV g (.w (.agg ((byt bs).map D.toC))) (.agg (bcells bs)) := by
  refine ⟨bcells bs, rfl, ?_⟩
  have : (bcells bs).toList = bs.map BV := by simp [bcells]
  rw [this]
  clear this
  induction bs with
  | nil => exact .nil
  | cons b bs ih => exact .cons ⟨rfl, rfl⟩ ih
theorem callable {f : FuncId} {fn : Func} {c : Code} (hf : Try.prog.funcs[f]? = some fn) (hb : fn.body = some c) (hn : (fn.name == "runtime.NumGoroutine") = false) : Callable Try.prog f := callable_of hf hb hn
theorem dsum_h (p : List UInt8) (hp : p.length ≤ 140737488355328) : Holds Try.prog 30 [.byt p] [] (fun r h' => r = .w (.agg ((byt (sha p)).map D.toC)) ∧ h' = []) := by
  refine Holds.ofKept (callable Try.func30 rfl (by decide +kernel)) fun g w xs ha hw => ?_
  obtain ⟨y, xs', rfl, h1, h2⟩ := ha.cons_inv
  obtain rfl := h2.nil_inv
  obtain ⟨A, n, c, rfl, hn, hc, hr⟩ := byt_arg hw h1
  exact ⟨_, agg_byt _, dSumN w A n c p hn hr hc (by omega)⟩
theorem dmac_h (k p : List UInt8) (hk : k.length ≤ 1073741824) (hp : p.length ≤ 1073741824) : Holds Try.prog 19 [.byt k, .byt p] [] (fun r h' => r = .w (.agg ((byt (macS k p)).map D.toC)) ∧ h' = []) := by
  refine Holds.ofKept (callable Try.func19 rfl (by decide +kernel)) fun g w xs ha hw => ?_
  obtain ⟨y, xs', rfl, h1, h2⟩ := ha.cons_inv
  obtain ⟨z, xs'', rfl, h3, h4⟩ := h2.cons_inv
  obtain rfl := h4.nil_inv
  obtain ⟨A, n, c, rfl, hn, hc, hr⟩ := byt_arg hw h1
  obtain ⟨A2, n2, c2, rfl, hn2, hc2, hr2⟩ := byt_arg hw h3
  exact ⟨_, agg_byt _, dMac w A A2 n c n2 c2 k p hn hr hc (by omega) hn2 hr2 (by omega)⟩
theorem rmac_h (k p : List UInt8) (hk : k.length ≤ 1073741824) (hp : p.length ≤ 1073741824) : Holds Try.prog 22 [.byt k, .byt p] [] (fun r h' => r = .w (.agg ((byt (macS k p)).map D.toC)) ∧ h' = []) := by
  refine Holds.ofKept (callable Try.func22 rfl (by decide +kernel)) fun g w xs ha hw => ?_
  obtain ⟨y, xs', rfl, h1, h2⟩ := ha.cons_inv
  obtain ⟨z, xs'', rfl, h3, h4⟩ := h2.cons_inv
  obtain rfl := h4.nil_inv
  obtain ⟨A, n, c, rfl, hn, hc, hr⟩ := byt_arg hw h1
  obtain ⟨A2, n2, c2, rfl, hn2, hc2, hr2⟩ := byt_arg hw h3
  exact ⟨_, agg_byt _, rMac w A A2 n c n2 c2 k p hn hr (by omega) hn2 hr2 (by omega)⟩
end Go.Proofs.Ytbkmmelhfkcmgaa
