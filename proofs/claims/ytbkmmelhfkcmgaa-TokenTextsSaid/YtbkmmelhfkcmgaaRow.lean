/- Laws of the walk over whole rows: a variable of several cells that is made, stored, handed back. -/
import Derived.Test.YtbkmmelhfkcmgaaMem
import Derived.Laws.CopyOwn
open Go Go.RowKit
namespace Go.Proofs.Ytbkmmelhfkcmgaa

/-- the walk stands still behind this word -/
def Stop (p : Prop) : Prop := p
theorem to_stop {p : Prop} (h : Stop p) : p := h
theorem of_stop {p : Prop} (h : p) : Stop p := h

/-- cs with vs laid over it from o on -/
def splice (cs : Array Value) (o : Nat) (vs : Array Value) : Array Value := (cs.toList.take o ++ vs.toList ++ cs.toList.drop (o + vs.size)).toArray

theorem splice_all (cs vs : Array Value) (h : cs.size = vs.size) : splice cs 0 vs = vs := by
  unfold splice
  rw [List.drop_eq_nil_of_le (by simp [h])]
  simp

section
variable {P : Program} {ops : Array Oper} {rest : List Oper} {o : Oper} {a : Act} {w : World} {Q : Exit → Act → World → Prop}

theorem run_store_row (w : World) (ty : TypeId) (g off : Nat) (v : Value) (t : TypeId) (cs : Array Value) (hg : Blk w g t cs)
    (hi : (P.info? ty).map (·.size) = some v.cells.size) (hfit : off + v.cells.size ≤ cs.size) (h1 : ∀ u ∈ v.cells.toList, u.oneCell' = true) :
    (storeVar ty ⟨g, off, none⟩ v).run P w = .ok () (w.setRow g (splice cs off v.cells)) := by
  cases hq : P.info? ty with
  | none => simp [hq] at hi
  | some i =>
    have hs : i.size = v.cells.size := by simpa [hq] using hi
    have := run_storeCells_at P g off t v.cells.toList 0 cs w hg (by simpa using hfit) h1
    simp only [Nat.add_zero, Array.length_toList] at this
    simp [storeVar, sizeOf, typeInfo, hq, hs, this, splice]

theorem setRow_blk (w : World) (g : Nat) (t : TypeId) (cs cs' : Array Value) (h : Blk w g t cs) : Blk (w.setRow g cs') g t cs' := setRow_heap w g cs cs' t _ h
theorem setRow_grown (w : World) (g : Nat) (cs' : Array Value) : w.grownBy (w.setRow g cs') (some g) :=
  ⟨rfl, rfl, rfl, by simp, fun k _ hk => setRow_other w g k _ (fun e => hk (by simp [e]))⟩

theorem wp_store_row {K : Act → World → Prop} (ty : TypeId) (x y : Operand) (ho : o.op = .store ty x y)
    (g off : Nat) (hx : a.eval x = .pointer (some ⟨g, off, none⟩)) (v : Value) (hy : a.eval y = v) (t : TypeId) (cs : Array Value) (hg : Blk w g t cs)
    (hi : (P.info? ty).map (·.size) = some v.cells.size) (hfit : off + v.cells.size ≤ cs.size) (h1 : ∀ u ∈ v.cells.toList, u.oneCell' = true)
    (h : ∀ w', Blk w' g t (splice cs off v.cells) → w.grownBy w' (some g) → w'.heap.size = w.heap.size → w'.drawn = w.drawn → K (a.put o.dst undef) w') : o.wp P a w K Q := by
  unfold Oper.wp execOp
  simp only [ho, hx, hy, Instr.storeAt, Instr.sureAddr, Sem.run_bind, Sem.run_pure, Result.andThen_ok, run_store_row w ty g off v t cs hg hi hfit h1]
  exact h _ (setRow_blk w g t cs _ hg) (setRow_grown w g _) (by simp) rfl

theorem wpList_store_row (hgd : o.guard = none) (ty : TypeId) (x y : Operand) (ho : o.op = .store ty x y)
    (g off : Nat) (hx : a.eval x = .pointer (some ⟨g, off, none⟩)) (v : Value) (hy : a.eval y = v) (t : TypeId) (cs : Array Value) (hg : Blk w g t cs)
    (hi : (P.info? ty).map (·.size) = some v.cells.size) (hfit : off + v.cells.size ≤ cs.size) (h1 : ∀ u ∈ v.cells.toList, u.oneCell' = true)
    (h : ∀ w', Blk w' g t (splice cs off v.cells) → w.grownBy w' (some g) → w'.heap.size = w.heap.size → w'.drawn = w.drawn → wpList P ops Q rest (a.put o.dst undef) w') : wpList P ops Q (o :: rest) a w :=
  wpList_plain hgd fun _ hK => wp_store_row ty x y ho g off hx v hy t cs hg hi hfit h1 fun w' h2 h3 h4 h5 => hK _ _ (h w' h2 h3 h4 h5)

theorem wp_alloc_row {K : Act → World → Prop} (ty : TypeId) (ho : o.op = .alloc ty) (z : Value) (hz : (P.info? ty).bind (·.zero) = some z)
    (h : ∀ w', Blk w' w.heap.size ty z.cells → w.grownBy w' none → w'.heap.size = w.heap.size + 1 → w'.drawn = w.drawn → K (a.put o.dst (.pointer (some ⟨w.heap.size, 0, none⟩))) w') : o.wp P a w K Q := by
  cases hq : P.info? ty with
  | none => simp [hq] at hz
  | some i =>
    have hz' : i.zero = some z := by simpa [hq] using hz
    unfold Oper.wp execOp
    simp only [ho, Instr.alloc, zeroValue, typeInfo, newVar, newRow]
    simp [hq, hz']
    exact h _ (Blk.new w ty z.cells) (World.grownBy_alloc w _ none) (by simp) rfl

theorem wpList_alloc_row (hgd : o.guard = none) (ty : TypeId) (ho : o.op = .alloc ty) (z : Value) (hz : (P.info? ty).bind (·.zero) = some z)
    (h : ∀ w', Blk w' w.heap.size ty z.cells → w.grownBy w' none → w'.heap.size = w.heap.size + 1 → w'.drawn = w.drawn → wpList P ops Q rest (a.put o.dst (.pointer (some ⟨w.heap.size, 0, none⟩))) w') : wpList P ops Q (o :: rest) a w :=
  wpList_plain hgd fun _ hK => wp_alloc_row ty ho z hz fun w' h2 h3 h4 h5 => hK _ _ (h w' h2 h3 h4 h5)

theorem wpList_copy_row (hgd : o.guard = none) (d s : Operand) (dT sT : TypeId)
    (ho : o.op = .call { callee := .builtin .copy, args := #[d, s], argTypes := #[dT, sT] }) (elem : TypeId) (hu : P.underlying dT = some (.slice elem)) (hsz : (P.info? elem).map (·.size) = some 1)
    (sp : Option Addr) (g off dLen dCap sLen sCap : Nat) (hd : a.eval d = .slice (some ⟨g, off, none⟩) dLen dCap) (hs : a.eval s = .slice sp sLen sCap)
    (cur : Array Value) (t : TypeId) (hg : Blk w g t cur) (cs : List Value) (hn : cs.length = Nat.min sLen dLen)
    (hr : Rd w sp cs) (hfit : off + cs.length ≤ cur.size) (h1 : ∀ v ∈ cs, v.oneCell' = true)
    (h : ∀ w', Blk w' g t (splice cur off cs.toArray) → w.grownBy w' (some g) → w'.heap.size = w.heap.size → w'.drawn = w.drawn → wpList P ops Q rest (a.put o.dst (goInt cs.length)) w') :
    wpList P ops Q (o :: rest) a w := by
  by_cases h0 : cs.length = 0
  · obtain rfl : cs = [] := List.eq_nil_of_length_eq_zero h0
    refine wpList_copy_nothing hgd d s dT sT ho elem hu hsz _ sp dLen dCap sLen sCap hd hs (by simpa using hn.symm) ?_
    refine h w ?_ ⟨rfl, rfl, rfl, Nat.le_refl _, fun _ _ _ => rfl⟩ rfl rfl
    unfold splice
    simpa using hg
  · obtain ⟨ad, rfl, hsrc⟩ := hr (by omega)
    refine wpList_copy_own hgd d s dT sT ho elem hu hsz g off dLen dCap ad sLen sCap hd hs cur t hg cs hn hsrc hfit h1 ?_
    refine h _ ?_ (setRow_grown w g _) (by simp) rfl
    have := setRow_blk w g t cur (splice cur off cs.toArray) hg
    unfold splice at this ⊢
    simpa using this

theorem run_index_agg {t e : TypeId} {n : Nat} {d : TypeDesc} {i : TypeInfo} (hu : P.underlying t = some (.array n e)) (he : P.underlying e = some d) (hd : (match d with | .struct _ | .array _ _ => true | _ => false) = false)
    (hi : P.info? e = some i) (hsz : i.size = 1) (cs : Array Value) (k : IntKind) (j : Nat) (hj : j < n) (v : Value) (hv : cs[j]? = some v) (w : World) :
    (Instr.index t (.agg cs) (.int k (j : Int))).run P w = .ok v w := by
  have hagg : (isAgg e).run P w = .ok false w := by
    unfold isAgg
    rw [Sem.run_bind, run_underlying he w]
    cases d <;> simp_all
  have h1 : (0 : Int) ≤ (j : Int) ∧ (j : Int) < (n : Int) := by omega
  simp [Instr.index, asIntOf, run_underlying hu, h1, hj, sizeOf, typeInfo, hi, hsz, part, hagg, hv]

/-- a new variable: its block is g, which was not there -/
theorem wpA (hgd : o.guard = none) (ty : TypeId) (ho : o.op = .alloc ty) (z : Value) (hz : (P.info? ty).bind (·.zero) = some z)
    (h : ∀ (g : Nat) (w' : World), w.heap.size ≤ g → Blk w' g ty z.cells → Kept [] w w' → wpList P ops Q rest (a.put o.dst (.pointer (some ⟨g, 0, none⟩))) w') : wpList P ops Q (o :: rest) a w :=
  wpList_alloc_row hgd ty ho z hz fun w' h2 h3 _ _ => h _ w' (Nat.le_refl _) h2 (Kept.of_grown h3 (by simp))
/-- a value is boxed -/
theorem wpB (hgd : o.guard = none) (ty : TypeId) (x : Operand) (ho : o.op = .box ty x) (v : Value) (hx : a.eval x = v)
    (h : ∀ (g : Nat) (w' : World), w.heap.size ≤ g → Blk w' g ty v.cells → Kept [] w w' → wpList P ops Q rest (a.put o.dst (.pointer (some ⟨g, 0, none⟩))) w') : wpList P ops Q (o :: rest) a w :=
  wpList_plain hgd fun _ hK => by
    unfold Oper.wp execOp
    simp only [ho, hx, Instr.box, newVar, newRow]
    simp
    exact hK _ _ (h _ _ (Nat.le_refl _) (Blk.new w ty v.cells) ((Kept.refl [] w).alloc _))

/-- a whole variable is stored -/
theorem wpS (hgd : o.guard = none) (ty : TypeId) (x y : Operand) (ho : o.op = .store ty x y)
    (g : Nat) (hx : a.eval x = .pointer (some ⟨g, 0, none⟩)) (v : Value) (hy : a.eval y = v) (t : TypeId) (cs : Array Value) (hg : Blk w g t cs)
    (hi : (P.info? ty).map (·.size) = some v.cells.size) (hfit : v.cells.size = cs.size) (h1 : ∀ u ∈ v.cells.toList, u.oneCell' = true)
    (h : ∀ w', Blk w' g t v.cells → Kept [g] w w' → wpList P ops Q rest (a.put o.dst undef) w') : wpList P ops Q (o :: rest) a w :=
  wpList_store_row hgd ty x y ho g 0 hx v hy t cs hg hi (by omega) h1 fun w' h2 h3 _ _ => h w' (by rwa [splice_all _ _ hfit.symm] at h2) (Kept.of_grown h3 (by simp))
/-- a whole variable is loaded -/
theorem wpL (hgd : o.guard = none) (ty : TypeId) (x : Operand) (ho : o.op = .load ty x)
    (g : Nat) (hx : a.eval x = .pointer (some ⟨g, 0, none⟩)) (t : TypeId) (cs : Array Value) (d : TypeDesc) (hg : Blk w g t cs)
    (hu : P.underlying ty = some d) (hd : (match d with | .struct _ | .array _ _ => true | _ => false) = true) (hi : (P.info? ty).map (·.size) = some cs.size)
    (h : wpList P ops Q rest (a.put o.dst (.agg cs)) w) : wpList P ops Q (o :: rest) a w :=
  wpList_load_row hgd ty x ho g hx t cs (0, 0) d hg hu hd hi h
/-- copy -/
theorem wpC (hgd : o.guard = none) (d s : Operand) (dT sT : TypeId)
    (ho : o.op = .call { callee := .builtin .copy, args := #[d, s], argTypes := #[dT, sT] }) (elem : TypeId) (hu : P.underlying dT = some (.slice elem)) (hsz : (P.info? elem).map (·.size) = some 1)
    (sp : Option Addr) (g off dLen dCap sLen sCap : Nat) (hd : a.eval d = .slice (some ⟨g, off, none⟩) dLen dCap) (hs : a.eval s = .slice sp sLen sCap)
    (cur : Array Value) (t : TypeId) (hg : Blk w g t cur) (cs : List Value) (hn : cs.length = Nat.min sLen dLen)
    (hr : Rd w sp cs) (hfit : off + cs.length ≤ cur.size) (h1 : ∀ v ∈ cs, v.oneCell' = true) (m : Nat) (hm : cs.length = m)
    (h : ∀ w', Blk w' g t (splice cur off cs.toArray) → Kept [g] w w' → wpList P ops Q rest (a.put o.dst (.int .i64 (m : Int))) w') :
    wpList P ops Q (o :: rest) a w := by
  subst hm
  exact wpList_copy_row hgd d s dT sT ho elem hu hsz sp g off dLen dCap sLen sCap hd hs cur t hg cs hn hr hfit h1 fun w' h2 h3 _ _ => h w' h2 (Kept.of_grown h3 (by simp))
end
end Go.Proofs.Ytbkmmelhfkcmgaa
