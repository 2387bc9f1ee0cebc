/- append onto a row of one's own; slices that are built. -/
import Derived.Test.YtbkmmelhfkcmgaaProg
import Derived.Test.YtbkmmelhfkcmgaaRow
open Go Go.RowKit
namespace Go.Proofs.Ytbkmmelhfkcmgaa

/-- what an element type is: its zero, its cells, its bytes -/
structure ElemT (P : Program) (t e : TypeId) (z : Value) (size bytes : Nat) : Prop where
  slice : P.underlying t = some (.slice e)
  info : ∃ i, P.info? e = some i ∧ i.zero = some z ∧ i.size = size ∧ i.bytes = bytes
  zsize : z.cells.size = size
  pos : 0 < size

theorem ElemT.mk' {P : Program} {t e : TypeId} {z : Value} {size bytes : Nat} (h1 : P.underlying t = some (.slice e))
    (h2 : (P.info? e).map (fun i => (i.zero, i.size, i.bytes)) = some (some z, size, bytes)) (h3 : z.cells.size = size) (h4 : 0 < size) : ElemT P t e z size bytes := by
  refine ⟨h1, ?_, h3, h4⟩
  cases hq : P.info? e with
  | none => rw [hq] at h2; cases h2
  | some i =>
    rw [hq] at h2
    simp only [Option.map_some, Option.some.injEq, Prod.mk.injEq] at h2
    exact ⟨i, rfl, h2.1, h2.2.1, h2.2.2⟩

section
variable {P : Program} {ops : Array Oper} {rest : List Oper} {o : Oper} {a : Act} {w : World} {Q : Exit → Act → World → Prop}

theorem run_append_gen (w : World) {t ty e : TypeId} {z : Value} {size bytes : Nat} (ht : ElemT P t e z size bytes) (base : Nat)
    (v : Value) (n : Nat) (xs : List Value) (hown : w.ownsRow base e size v n xs)
    (A : Option Addr) (m c : Nat) (news : List Value) (hl : news.length = m * size) (hr : Rd w A news) (h1 : ∀ u ∈ news, u.oneCell' = true)
    (h63 : n + m ≤ maxLen) (hbytes : (n + m) * bytes ≤ 140737488355328) (hbase : base ≤ w.heap.size) :
    ∃ v' w', (Builtin.append_ #[t, t] ty #[v, .slice A m c]).run P w = .ok v' w' ∧ w'.ownsRow base e size v' (n + m) (xs ++ news) ∧ w.grownBy w' v.ownBlock ∧
      (v'.ownBlock = v.ownBlock ∨ v'.ownBlock = some w.heap.size) := by
  obtain ⟨i, hi, hz, hsz, hby⟩ := ht.info
  rcases Nat.eq_zero_or_pos news.length with h0 | h0
  · have hm : m = 0 := by
      rcases Nat.eq_zero_or_pos m with h | h
      · exact h
      · have := Nat.mul_pos h ht.pos; omega
    subst hm
    have hn : news = [] := List.eq_nil_of_length_eq_zero h0
    subst hn
    cases A with
    | none =>
      refine ⟨v, w, ?_, by simpa using hown, World.grownBy.refl w _, .inl rfl⟩
      rcases hown.2 with ⟨rfl, rfl⟩ | ⟨g, cap, cur, rfl, _, _, hnc, _⟩
      · simp [Builtin.append_, run_underlying ht.slice, sizeOf, typeInfo, hi, Builtin.lenOf, Builtin.firstCells]
      · simp [Builtin.append_, run_underlying ht.slice, sizeOf, typeInfo, hi, Builtin.lenOf, Builtin.firstCells, hnc, storeCells]
    | some ad =>
      obtain ⟨v', w', hrun, h2, h3, _, h5⟩ := run_append_own_at (P := P) w base t ty e i z size bytes ht.slice hi hz hsz hby ht.zsize ht.pos v n xs hown ad 0 c [] (by simp) (by simp) (by simp) h63 hbytes hbase
      exact ⟨v', w', hrun, h2, h3, h5⟩
  · obtain ⟨ad, rfl, hc⟩ := hr h0
    obtain ⟨v', w', hrun, h2, h3, _, h5⟩ := run_append_own_at (P := P) w base t ty e i z size bytes ht.slice hi hz hsz hby ht.zsize ht.pos v n xs hown ad m c news hl hc h1 h63 hbytes hbase
    exact ⟨v', w', hrun, h2, h3, h5⟩

theorem wpAp_gen (hgd : o.guard = none) (s x : Operand) (t : TypeId)
    (ho : o.op = .call { callee := .builtin .append, args := #[s, x], argTypes := #[t, t] }) {e : TypeId} {z : Value} {size bytes : Nat} (ht : ElemT P t e z size bytes) (base : Nat)
    (v : Value) (n : Nat) (xs : List Value) (hs : a.eval s = v) (hown : w.ownsRow base e size v n xs)
    (A : Option Addr) (m c : Nat) (news : List Value) (hx : a.eval x = .slice A m c) (hl : news.length = m * size) (hr : Rd w A news) (h1 : ∀ u ∈ news, u.oneCell' = true)
    (h63 : n + m ≤ maxLen) (hbytes : (n + m) * bytes ≤ 140737488355328) (hbase : base ≤ w.heap.size)
    (h : ∀ v' w', w'.ownsRow base e size v' (n + m) (xs ++ news) → Kept v.ownBlock.toList w w' → (∀ g, v'.ownBlock = some g → v.ownBlock = some g ∨ w.heap.size ≤ g) → wpList P ops Q rest (a.put o.dst v') w') :
    wpList P ops Q (o :: rest) a w := by
  obtain ⟨v', w', hrun, h2, h3, h4⟩ := run_append_gen (P := P) (ty := o.type) w ht base v n xs hown A m c news hl hr h1 h63 hbytes hbase
  refine wpList_plain hgd fun _ hK => ?_
  unfold Oper.wp execOp
  simp only [ho, resolve, invoke, builtin, Sem.run_bind, Sem.run_pure, Result.andThen_ok, List.map_toArray, List.map_cons, List.map_nil, hs, hx, hrun]
  refine hK _ _ (h v' w' h2 (Kept.of_grown h3 (fun k hk => .inl (by simp [hk]))) (fun g hg => ?_))
  rcases h4 with h4 | h4
  · exact .inl (h4 ▸ hg)
  · rw [h4] at hg; injection hg with hg; exact .inr (by omega)

/-- a slice that is built -/
theorem wpBS (hgd : o.guard = none) (t : TypeId) (n : Nat) (parts : Array (Nat × Operand)) (ho : o.op = .buildSlice t n parts) (cs : Array Value) (e : TypeId)
    (vs : Array (Nat × Value)) (hvs : (parts.map fun (i, x) => (i, a.eval x)) = vs) (hrun : ∀ w, (Instr.buildSlice t n vs).run P w = .ok (.slice (some ⟨w.heap.size, 0, none⟩) n n) (w.alloc (.cells cs e)))
    (h : ∀ (g : Nat) (w' : World), w.heap.size ≤ g → Blk w' g e cs → Kept [] w w' → wpList P ops Q rest (a.put o.dst (.slice (some ⟨g, 0, none⟩) n n)) w') : wpList P ops Q (o :: rest) a w :=
  wpList_plain hgd fun _ hK => by
    unfold Oper.wp execOp
    simp only [ho, hvs, Sem.run_bind, hrun]
    exact hK _ _ (h _ _ (Nat.le_refl _) (Blk.new w e cs) ((Kept.refl [] w).alloc _))
end

/-- where a cut of a slice begins -/
def cutA (A : Option Addr) (c l size : Nat) : Option Addr := if c = l then A else A.map (·.add (l * size))
theorem Rd.cut {w : World} {A : Option Addr} {xs : List Value} (h : Rd w A xs) (c l : Nat) (hc : xs.length ≤ c) : Rd w (cutA A c l 1) (xs.drop l) := by
  intro hl
  rw [List.length_drop] at hl
  have h2 := h.drop l c (by omega) hc
  unfold cutA
  rw [Nat.mul_one]
  exact h2 (by rw [List.length_drop]; omega)
theorem RdB.cut {B : Nat} {w : World} {A : Option Addr} {xs : List Value} (h : RdB B w A xs) (c l : Nat) (hc : xs.length ≤ c) : RdB B w (cutA A c l 1) (xs.drop l) := by
  intro hl
  rw [List.length_drop] at hl
  have h2 := h.drop l c (by omega) hc
  unfold cutA
  rw [Nat.mul_one]
  exact h2 (by rw [List.length_drop]; omega)
theorem cutA_block {A : Option Addr} {c l size : Nat} {a : Addr} (h : cutA A c l size = some a) : ∃ b, A = some b ∧ a.block = b.block := by
  unfold cutA at h
  split at h
  · exact ⟨a, h, rfl⟩
  · cases A with
    | none => simp at h
    | some b => simp only [Option.map_some, Option.some.injEq] at h; subst h; exact ⟨b, rfl, block_of_add _ _⟩

section
variable {P : Program}
theorem run_cut (w : World) {t e : TypeId} {z : Value} {size bytes : Nat} (ht : ElemT P t e z size bytes) (A : Option Addr) (n c : Nat) (kl kh : IntKind) (l h : Nat) (hl : l ≤ h) (hh : h ≤ c) :
    (Instr.sliceAt t (.slice A n c) (some (.int kl (l : Int))) (some (.int kh (h : Int))) none).run P w = .ok (.slice (cutA A c l size) (h - l) (c - l)) w := by
  obtain ⟨i, hi, _, hsz, _⟩ := ht.info
  have a1 : (0 : Int) ≤ (h : Int) ∧ (h : Int) ≤ (c : Int) := by omega
  have a2 : (0 : Int) ≤ (l : Int) ∧ (l : Int) ≤ (h : Int) := by omega
  simp [Instr.sliceAt, Instr.slice, run_underlying ht.slice, Instr.sliceBounds, Instr.sliceBound, asIntOf, hl, hh, sizeOf, typeInfo, hi, hsz, cutA]
theorem run_cutL (w : World) {t e : TypeId} {z : Value} {size bytes : Nat} (ht : ElemT P t e z size bytes) (A : Option Addr) (n c : Nat) (kl : IntKind) (l : Nat) (hl : l ≤ n) :
    (Instr.sliceAt t (.slice A n c) (some (.int kl (l : Int))) none none).run P w = .ok (.slice (cutA A c l size) (n - l) (c - l)) w := by
  obtain ⟨i, hi, _, hsz, _⟩ := ht.info
  simp [Instr.sliceAt, Instr.slice, run_underlying ht.slice, Instr.sliceBounds, Instr.sliceBound, asIntOf, hl, sizeOf, typeInfo, hi, hsz, cutA]
theorem run_cutH (w : World) {t e : TypeId} {z : Value} {size bytes : Nat} (ht : ElemT P t e z size bytes) (A : Option Addr) (n c : Nat) (kh : IntKind) (h : Nat) (hh : h ≤ c) :
    (Instr.sliceAt t (.slice A n c) none (some (.int kh (h : Int))) none).run P w = .ok (.slice A h c) w := by
  obtain ⟨i, hi, _, _, _⟩ := ht.info
  have e : (if c = 0 then A else A.map (fun a => a.add 0)) = A := by
    split
    · rfl
    · cases A <;> simp [Addr.add]
  simp [Instr.sliceAt, Instr.slice, run_underlying ht.slice, Instr.sliceBounds, Instr.sliceBound, asIntOf, hh, sizeOf, typeInfo, hi, e]
end

/-! ### bytes -/
theorem byteT : ElemT Try.prog 22 5 (.int .u8 0) 1 1 := ElemT.mk' Try.underlying22 (by kernel_rfl) rfl (by omega)

/-- a slice of bytes of one's own, in a block from N on -/
def OwnS (N : Nat) (w : World) (v : Value) (xs : List UInt8) : Prop := w.ownsRow N 5 1 v xs.length (xs.map BV)
theorem OwnS.nil (N : Nat) (w : World) : OwnS N w (.slice none 0 0) [] := World.ownsRow_nil w N _ 1
theorem OwnS.of_blk {N g : Nat} {w : World} {xs : List UInt8} (h : Blk w g 5 (bcells xs)) (hN : N ≤ g) (hm : xs.length ≤ maxLen) : OwnS N w (.slice (some ⟨g, 0, none⟩) xs.length xs.length) xs :=
  ⟨by simp, .inr ⟨g, xs.length, bcells xs, rfl, hN, h, Nat.le_refl _, hm, by simp [bcells], by rw [bcells]; exact List.take_of_length_le (by simp)⟩⟩
theorem OwnS.kept {N : Nat} {w w' : World} {v : Value} {xs : List UInt8} {S : List Nat} (h : OwnS N w v xs) (hk : Kept S w w') (hS : ∀ g, v.ownBlock = some g → g ∉ S) : OwnS N w' v xs := by
  refine ⟨h.1, ?_⟩
  rcases h.2 with h2 | ⟨g, cap, cur, rfl, hb, hg, r⟩
  · exact .inl h2
  · exact .inr ⟨g, cap, cur, rfl, hb, Blk.kept (t := 5) hg hk (hS g rfl), r⟩
theorem OwnS.lo {N : Nat} {w : World} {v : Value} {xs : List UInt8} (h : OwnS N w v xs) {g : Nat} (hg : v.ownBlock = some g) : N ≤ g := (h.lt g hg).1
theorem OwnS.keptLo {N : Nat} {w w' : World} {v : Value} {xs : List UInt8} {S : List Nat} (h : OwnS N w v xs) (hk : Kept S w w') (hS : ∀ g, g ∈ S → g < N) : OwnS N w' v xs :=
  h.kept hk (fun g hg hm => by have := h.lo hg; have := hS g hm; omega)
theorem OwnS.form {N : Nat} {w : World} {v : Value} {xs : List UInt8} (h : OwnS N w v xs) : ∃ A c, v = .slice A xs.length c ∧ Rd w A (xs.map BV) ∧ xs.length ≤ c ∧ c ≤ maxLen ∧ (∀ a, A = some a → N ≤ a.block) := by
  rcases h.2 with ⟨rfl, h0⟩ | ⟨g, cap, cur, rfl, hb, hg, hnc, hcm, hcs, htake⟩
  · refine ⟨none, 0, by rw [h0], fun hl => ?_, by omega, by simp [maxLen], by simp⟩
    rw [List.length_map] at hl; omega
  · refine ⟨some ⟨g, 0, none⟩, cap, rfl, fun _ => ⟨_, rfl, fun i v hv => ?_⟩, hnc, hcm, fun a ha => by injection ha with ha; subst ha; exact hb⟩
    exact World.ownsRow.cells h (g := g) rfl i v hv
theorem OwnS.mono {N N' : Nat} {w : World} {v : Value} {xs : List UInt8} (h : OwnS N w v xs) (hN : N' ≤ N) : OwnS N' w v xs := by
  refine ⟨h.1, ?_⟩
  rcases h.2 with h2 | ⟨g, cap, cur, rfl, hb, r⟩
  · exact .inl h2
  · exact .inr ⟨g, cap, cur, rfl, by omega, r⟩
theorem OwnS.inKept {N : Nat} {w : World} {v : Value} {xs : List UInt8} {S : List Nat} {M : Nat} (h : OwnS N w v xs) (hM : M ≤ N) : ∀ i, i ∈ v.ownBlock.toList → i ∈ S ∨ M ≤ i := by
  intro i hi
  have := h.lo (g := i) (by simpa using hi)
  exact .inr (by omega)

section
variable {ops : Array Oper} {rest : List Oper} {o : Oper} {a : Act} {w : World} {Q : Exit → Act → World → Prop}
theorem wpAp (hgd : o.guard = none) (s x : Operand)
    (ho : o.op = .call { callee := .builtin .append, args := #[s, x], argTypes := #[22, 22] }) (base : Nat)
    (v : Value) (xs : List UInt8) (hs : a.eval s = v) (hown : OwnS base w v xs)
    (A : Option Addr) (m c : Nat) (ys : List UInt8) (hx : a.eval x = .slice A m c) (hl : ys.length = m) (hr : Rd w A (ys.map BV))
    (hbytes : xs.length + ys.length ≤ 140737488355328) (hbase : base ≤ w.heap.size)
    (h : ∀ v' w', OwnS base w' v' (xs ++ ys) → Kept v.ownBlock.toList w w' → (∀ g, v'.ownBlock = some g → v.ownBlock = some g ∨ w.heap.size ≤ g) → wpList Try.prog ops Q rest (a.put o.dst v') w') :
    wpList Try.prog ops Q (o :: rest) a w := by
  subst hl
  refine wpAp_gen hgd s x _ ho byteT base v xs.length (xs.map BV) hs hown A ys.length c (ys.map BV) hx (by simp) hr (bv_one _) (by simp only [maxLen]; omega) (by omega) hbase ?_
  intro v' w' h2 h3 h4
  refine h v' w' ?_ h3 h4
  unfold OwnS
  rw [List.length_append, List.map_append]
  exact h2
end
theorem run_cut8 (w : World) (A : Option Addr) (n c : Nat) (kl kh : IntKind) (l h : Int) (h0 : 0 ≤ l) (h1 : l ≤ h) (h2 : h ≤ (c : Int)) :
    (Instr.sliceAt 22 (.slice A n c) (some (.int kl l)) (some (.int kh h)) none).run Try.prog w = .ok (.slice (cutA A c l.toNat 1) (h.toNat - l.toNat) (c - l.toNat)) w := by
  obtain ⟨l, rfl⟩ := Int.eq_ofNat_of_zero_le h0
  obtain ⟨h, rfl⟩ := Int.eq_ofNat_of_zero_le (Int.le_trans h0 h1)
  exact run_cut w byteT A n c kl kh l h (by omega) (by omega)
theorem run_cutL8 (w : World) (A : Option Addr) (n c : Nat) (kl : IntKind) (l : Int) (h0 : 0 ≤ l) (h1 : l ≤ (n : Int)) :
    (Instr.sliceAt 22 (.slice A n c) (some (.int kl l)) none none).run Try.prog w = .ok (.slice (cutA A c l.toNat 1) (n - l.toNat) (c - l.toNat)) w := by
  obtain ⟨l, rfl⟩ := Int.eq_ofNat_of_zero_le h0
  exact run_cutL w byteT A n c kl l (by omega)
theorem run_cutH8 (w : World) (A : Option Addr) (n c : Nat) (kh : IntKind) (h : Int) (h0 : 0 ≤ h) (h2 : h ≤ (c : Int)) :
    (Instr.sliceAt 22 (.slice A n c) none (some (.int kh h)) none).run Try.prog w = .ok (.slice A h.toNat c) w := by
  obtain ⟨h, rfl⟩ := Int.eq_ofNat_of_zero_le h0
  exact run_cutH w byteT A n c kh h (by omega)
/-- a slice is made -/
theorem wpMk {ops : Array Oper} {rest : List Oper} {o : Oper} {a : Act} {w : World} {Q : Exit → Act → World → Prop} (hgd : o.guard = none) (x y : Operand)
    (ho : o.op = .makeSlice 22 x y) (kl kc : IntKind) (l c : Int) (hx : a.eval x = .int kl l) (hy : a.eval y = .int kc c) (h0 : 0 ≤ l) (hlc : l ≤ c) (hc : c ≤ 140737488355328) (N : Nat) (hN : N ≤ w.heap.size)
    (h : ∀ (g : Nat) (w' : World), w.heap.size ≤ g → OwnS N w' (.slice (some ⟨g, 0, none⟩) l.toNat c.toNat) (List.replicate l.toNat 0) → Kept [] w w' → wpList Try.prog ops Q rest (a.put o.dst (.slice (some ⟨g, 0, none⟩) l.toNat c.toNat)) w') :
    wpList Try.prog ops Q (o :: rest) a w := by
  obtain ⟨i, hi, hz, hsz, hby⟩ := byteT.info
  refine wpList_plain hgd fun _ hK => ?_
  have hr := run_make (P := Try.prog) w 22 5 i _ byteT.slice hi hz kl kc l c h0 hlc (by rw [hby]; omega) (by omega)
  unfold Oper.wp execOp
  simp only [ho, hx, hy, Sem.run_bind, hr, hsz]
  refine hK _ _ (h _ _ (Nat.le_refl _) ⟨by simp, .inr ⟨w.heap.size, c.toNat, _, by rw [List.length_replicate], hN, heap_alloc_new w _, by rw [List.length_replicate]; omega, by simp only [maxLen]; omega, by rw [size_madeCells], ?_⟩⟩ ((Kept.refl [] w).alloc _))
  have e : madeCells (Value.int .u8 0).cells (c.toNat * 1) = madeCells #[.int .u8 0] c.toNat := by rw [Nat.mul_one]; rfl
  rw [e, toList_madeCells_one, List.take_replicate, List.length_replicate, List.map_replicate, Nat.mul_one, Nat.min_eq_left (by omega)]
  rfl

/-- append onto a slice that is full: what is read behind it -/
theorem wpApF {ops : Array Oper} {rest : List Oper} {o : Oper} {a : Act} {w : World} {Q : Exit → Act → World → Prop} (hgd : o.guard = none) (s x : Operand)
    (ho : o.op = .call { callee := .builtin .append, args := #[s, x], argTypes := #[22, 22] })
    (b : Addr) (n : Nat) (xs : List UInt8) (hs : a.eval s = .slice (some b) n n) (hn : xs.length = n) (hb : ∀ j v, (xs.map BV)[j]? = some v → w.cell? (b.add j) = some v)
    (A : Option Addr) (m c : Nat) (ys : List UInt8) (hx : a.eval x = .slice A m c) (hl : ys.length = m) (hr : Rd w A (ys.map BV))
    (hbytes : n + m ≤ 140737488355328)
    (h : ∀ A' c' w', Rd w' A' ((xs ++ ys).map BV) → n + m ≤ c' → Kept [] w w' → c' ≤ maxLen → wpList Try.prog ops Q rest (a.put o.dst (.slice A' (n + m) c')) w') :
    wpList Try.prog ops Q (o :: rest) a w := by
  obtain ⟨i, hi, hz, hsz, hby⟩ := byteT.info
  subst hn hl
  refine wpList_plain hgd fun _ hK => ?_
  rcases Nat.eq_zero_or_pos ys.length with h0 | h0
  · have hy : ys = [] := List.eq_nil_of_length_eq_zero h0
    subst hy
    have hrun : (Builtin.append_ #[22, 22] o.type #[.slice (some b) xs.length xs.length, .slice A 0 c]).run Try.prog w = .ok (.slice (some b) (xs.length + 0) xs.length) w := by
      cases A <;> simp [Builtin.append_, run_underlying byteT.slice, sizeOf, typeInfo, hi, Builtin.lenOf, Builtin.firstCells, storeCells, loadCells, loadCellsFrom]
    unfold Oper.wp execOp
    simp only [ho, resolve, invoke, builtin, Sem.run_bind, Sem.run_pure, Result.andThen_ok, List.map_toArray, List.map_cons, List.map_nil, hs, hx, hrun, List.length_nil]
    exact hK _ _ (h _ _ _ (by rw [List.append_nil]; exact fun _ => ⟨b, rfl, hb⟩) (by simp) (Kept.refl [] w) (by simp only [maxLen, List.length_nil] at *; omega))
  · obtain ⟨ad, rfl, hc⟩ := hr (by simpa using h0)
    have hrun := run_append_grow (P := Try.prog) w 22 o.type 5 i _ byteT.slice hi hz b xs.length xs.length (xs.map BV) (by simp [hsz]) hb ad ys.length c (ys.map BV) (by simp [hsz]) hc (by omega) (by omega) (growslice_fits (by omega) (by rw [hby]; omega))
    have hge := grownCap_ge w (xs.length + ys.length) xs.length 5
    have hcm : grownCap w (xs.length + ys.length) xs.length 5 ≤ maxLen := grownCap_le_maxLen w _ _ _ (by simp only [maxLen]; omega)
    unfold Oper.wp execOp
    simp only [ho, resolve, invoke, builtin, Sem.run_bind, Sem.run_pure, Result.andThen_ok, List.map_toArray, List.map_cons, List.map_nil, hs, hx, hrun]
    refine hK _ _ (h _ _ _ (fun _ => ⟨_, rfl, fun j v hj => ?_⟩) hge (((Kept.refl [] w).drew).alloc _) hcm)
    rw [add_mk, Nat.zero_add, Blk.cell (g := w.heap.size) (Blk.new w.drew _ _)]
    have hlt : j < ((xs ++ ys).map BV).length := (List.getElem?_eq_some_iff.1 hj).1
    rw [Array.getElem?_append_left (by simpa using hlt)]
    simpa using hj
/-- as one step of a region that draws: a slice is built -/
theorem stBS {P : Program} {ops : Array Oper} {o : Oper} {a : Act} {w : World} {K : Act → World → Prop} {Q : Exit → Act → World → Prop} {E : Prop} (hgd : o.guard = none) (t : TypeId) (n : Nat) (parts : Array (Nat × Operand)) (ho : o.op = .buildSlice t n parts) (cs : Array Value) (e : TypeId)
    (vs : Array (Nat × Value)) (hvs : (parts.map fun (i, x) => (i, a.eval x)) = vs) (hrun : ∀ w, (Instr.buildSlice t n vs).run P w = .ok (.slice (some ⟨w.heap.size, 0, none⟩) n n) (w.alloc (.cells cs e)))
    (h : ∀ (g : Nat) (w' : World), w.heap.size ≤ g → Blk w' g e cs → Kept [] w w' → K (a.put o.dst (.slice (some ⟨g, 0, none⟩) n n)) w') :
    if Region.wanted o (yielded ops a.tmps) = true then Oper.wp P o a w K Q else E := by
  have hw : Region.wanted o (yielded ops a.tmps) = true := by simp [Region.wanted, hgd]
  rw [if_pos hw]
  unfold Oper.wp execOp
  simp only [ho, hvs, Sem.run_bind, hrun]
  exact h _ _ (Nat.le_refl _) (Blk.new w e cs) ((Kept.refl [] w).alloc _)
theorem stAp {ops : Array Oper} {o : Oper} {a : Act} {w : World} {K : Act → World → Prop} {Q : Exit → Act → World → Prop} {E : Prop} (hgd : o.guard = none) (s x : Operand)
    (ho : o.op = .call { callee := .builtin .append, args := #[s, x], argTypes := #[22, 22] }) (base : Nat)
    (v : Value) (xs : List UInt8) (hs : a.eval s = v) (hown : OwnS base w v xs)
    (A : Option Addr) (m c : Nat) (ys : List UInt8) (hx : a.eval x = .slice A m c) (hl : ys.length = m) (hr : Rd w A (ys.map BV))
    (hbytes : xs.length + ys.length ≤ 140737488355328) (hbase : base ≤ w.heap.size)
    (h : ∀ v' w', OwnS base w' v' (xs ++ ys) → Kept v.ownBlock.toList w w' → (∀ g, v'.ownBlock = some g → v.ownBlock = some g ∨ w.heap.size ≤ g) → K (a.put o.dst v') w') :
    if Region.wanted o (yielded ops a.tmps) = true then Oper.wp Try.prog o a w K Q else E := by
  have hw : Region.wanted o (yielded ops a.tmps) = true := by simp [Region.wanted, hgd]
  rw [if_pos hw]
  subst hl
  obtain ⟨v', w', hrun, h2, h3, h4⟩ := run_append_gen (P := Try.prog) (ty := o.type) w byteT base v xs.length (xs.map BV) hown A ys.length c (ys.map BV) (by simp) hr (bv_one _) (by simp only [maxLen]; omega) (by omega) hbase
  unfold Oper.wp execOp
  simp only [ho, resolve, invoke, builtin, Sem.run_bind, Sem.run_pure, Result.andThen_ok, List.map_toArray, List.map_cons, List.map_nil, hs, hx, hrun]
  refine h v' w' ?_ (Kept.of_grown h3 (fun k hk => .inl (by simp [hk]))) (fun g hg => ?_)
  · unfold OwnS
    rw [List.length_append, List.map_append]
    exact h2
  · rcases h4 with h4 | h4
    · exact .inl (h4 ▸ hg)
    · rw [h4] at hg; injection hg with hg; exact .inr (by omega)
theorem bs2 (x y : UInt8) (w : World) : (Instr.buildSlice 22 2 #[(0, .int .u8 (U8 x)), (1, .int .u8 (U8 y))]).run Try.prog w = .ok (.slice (some ⟨w.heap.size, 0, none⟩) 2 2) (w.alloc (.cells #[.int .u8 (U8 x), .int .u8 (U8 y)] 5)) := by
  go_simp
theorem bs0 (w : World) : (Instr.buildSlice 22 0 #[]).run Try.prog w = .ok (.slice (some ⟨w.heap.size, 0, none⟩) 0 0) (w.alloc (.cells #[] 5)) := by
  go_simp
theorem bs1 (x : UInt8) (w : World) : (Instr.buildSlice 22 1 #[(0, .int .u8 (U8 x))]).run Try.prog w = .ok (.slice (some ⟨w.heap.size, 0, none⟩) 1 1) (w.alloc (.cells #[.int .u8 (U8 x)] 5)) := by
  go_simp
end Go.Proofs.Ytbkmmelhfkcmgaa
