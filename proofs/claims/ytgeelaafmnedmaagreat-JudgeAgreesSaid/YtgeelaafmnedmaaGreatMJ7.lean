/- Parts of a proof: Laws of the walk over whole rows: a variable of several cells that is made, stored, handed back, digest: the small functions, digest: a block is taken in, digest.Sum, the reference's digest: r, k, block, append onto a row of one's own; slices that are built, The reference's way of padding gives the same digest: plain lists, the reference's Sum, Link, Mac: the program's and the reference's, From walks that keep all of memory to the logic's contracts; chapter 2's digest, Verdicts: an opaque row of cells, and its rules, Chapters 10, 21 in the logic: a state's digest, in both, Chapter 21 in the logic: the verdict, in both, Chapter 21 in the logic: the document's verdict, Chapter 21 in the logic: does what is written down agree?, Chapter 21 in the logic: does what is written down agree, by the document?, Chapter 18: does a game take long?. -/
import Derived.Test.YtgeelaafmnedmaaGreatMJ2
import Derived.Laws.CopyOwn
import Derived.Test.YtgeelaafmnedmaaGreatProg
import Derived.Test.YtgeelaafmnedmaaGreatMJ6
import Derived.Deep.DeepCutAuto
import Derived.Test.YtgeelaafmnedmaaGreatMJ3
set_option linter.unusedSimpArgs false
set_option linter.unusedVariables false
open Go Go.RowKit
namespace Go.Proofs.YtgeelaafmnedmaaGreat
section
/-- cs with vs laid over it from o on -/
def splice (cs : Array Value) (o : Nat) (vs : Array Value) : Array Value := (cs.toList.take o ++ vs.toList ++ cs.toList.drop (o + vs.size)).toArray

theorem splice_all (cs vs : Array Value) (h : cs.size = vs.size) : splice cs 0 vs = vs := by
  unfold splice
  rw [List.drop_eq_nil_of_le (by simp [h])]
  simp

section
variable {P : Program} {ops : Array Oper} {rest : List Oper} {o : Oper} {a : Go.Act} {w : World} {Q : Exit → Go.Act → World → Prop}

theorem run_store_row (w : World) (ty : TypeId) (g off : Nat) (v : Value) (t : TypeId) (cs : Array Value) (hg : Blk w g t cs)
    (hi : (P.info? ty).map (·.size) = some v.cells.size) (hfit : off + v.cells.size ≤ cs.size) (h1 : ∀ u ∈ v.cells.toList, u.oneCell' = true) :
    (storeVar ty ⟨g, off, none⟩ v).run P w = .ok () (w.setRow g (splice cs off v.cells)) := by
  cases hq : P.info? ty with
  | none => simp [hq] at hi
  | some i =>
    have hs : i.size = v.cells.size := by simpa [hq] using hi
    have := run_storeCells_at P g off t v.cells.toList 0 cs w hg (by simpa using hfit) h1
    simp only [Nat.add_zero, Array.length_toList] at this
    simp [storeVar, sizeOf, typeInfo, hq, hs, this, splice]

theorem setRow_blk (w : World) (g : Nat) (t : TypeId) (cs cs' : Array Value) (h : Blk w g t cs) : Blk (w.setRow g cs') g t cs' := setRow_heap w g cs cs' t _ h
theorem setRow_grown (w : World) (g : Nat) (cs' : Array Value) : w.grownBy (w.setRow g cs') (some g) :=
  ⟨rfl, rfl, rfl, by simp, fun k _ hk => setRow_other w g k _ (fun e => hk (by simp [e]))⟩

theorem wp_store_row {K : Go.Act → World → Prop} (ty : TypeId) (x y : Operand) (ho : o.op = .store ty x y)
    (g off : Nat) (hx : a.eval x = .pointer (some ⟨g, off, none⟩)) (v : Value) (hy : a.eval y = v) (t : TypeId) (cs : Array Value) (hg : Blk w g t cs)
    (hi : (P.info? ty).map (·.size) = some v.cells.size) (hfit : off + v.cells.size ≤ cs.size) (h1 : ∀ u ∈ v.cells.toList, u.oneCell' = true)
    (h : ∀ w', Blk w' g t (splice cs off v.cells) → w.grownBy w' (some g) → w'.heap.size = w.heap.size → w'.drawn = w.drawn → K (a.put o.dst undef) w') : o.wp P a w K Q := by
  unfold Oper.wp execOp
  simp only [ho, hx, hy, Instr.storeAt, Instr.sureAddr, Sem.run_bind, Sem.run_pure, Result.andThen_ok, run_store_row w ty g off v t cs hg hi hfit h1]
  exact h _ (setRow_blk w g t cs _ hg) (setRow_grown w g _) (by simp) rfl

theorem wpList_store_row (hgd : o.guard = none) (ty : TypeId) (x y : Operand) (ho : o.op = .store ty x y)
    (g off : Nat) (hx : a.eval x = .pointer (some ⟨g, off, none⟩)) (v : Value) (hy : a.eval y = v) (t : TypeId) (cs : Array Value) (hg : Blk w g t cs)
    (hi : (P.info? ty).map (·.size) = some v.cells.size) (hfit : off + v.cells.size ≤ cs.size) (h1 : ∀ u ∈ v.cells.toList, u.oneCell' = true)
    (h : ∀ w', Blk w' g t (splice cs off v.cells) → w.grownBy w' (some g) → w'.heap.size = w.heap.size → w'.drawn = w.drawn → wpList P ops Q rest (a.put o.dst undef) w') : wpList P ops Q (o :: rest) a w :=
  wpList_plain hgd fun _ hK => wp_store_row ty x y ho g off hx v hy t cs hg hi hfit h1 fun w' h2 h3 h4 h5 => hK _ _ (h w' h2 h3 h4 h5)

theorem wp_alloc_row {K : Go.Act → World → Prop} (ty : TypeId) (ho : o.op = .alloc ty) (z : Value) (hz : (P.info? ty).bind (·.zero) = some z)
    (h : ∀ w', Blk w' w.heap.size ty z.cells → w.grownBy w' none → w'.heap.size = w.heap.size + 1 → w'.drawn = w.drawn → K (a.put o.dst (.pointer (some ⟨w.heap.size, 0, none⟩))) w') : o.wp P a w K Q := by
  cases hq : P.info? ty with
  | none => simp [hq] at hz
  | some i =>
    have hz' : i.zero = some z := by simpa [hq] using hz
    unfold Oper.wp execOp
    simp only [ho, Instr.alloc, zeroValue, typeInfo, newVar, newRow]
    simp [hq, hz']
    exact h _ (Blk.new w ty z.cells) (World.grownBy_alloc w _ none) (by simp) rfl

theorem wpList_alloc_row (hgd : o.guard = none) (ty : TypeId) (ho : o.op = .alloc ty) (z : Value) (hz : (P.info? ty).bind (·.zero) = some z)
    (h : ∀ w', Blk w' w.heap.size ty z.cells → w.grownBy w' none → w'.heap.size = w.heap.size + 1 → w'.drawn = w.drawn → wpList P ops Q rest (a.put o.dst (.pointer (some ⟨w.heap.size, 0, none⟩))) w') : wpList P ops Q (o :: rest) a w :=
  wpList_plain hgd fun _ hK => wp_alloc_row ty ho z hz fun w' h2 h3 h4 h5 => hK _ _ (h w' h2 h3 h4 h5)

theorem wpList_copy_row (hgd : o.guard = none) (d s : Operand) (dT sT : TypeId)
    (ho : o.op = .call { callee := .builtin .copy, args := #[d, s], argTypes := #[dT, sT] }) (elem : TypeId) (hu : P.underlying dT = some (.slice elem)) (hsz : (P.info? elem).map (·.size) = some 1)
    (sp : Option Addr) (g off dLen dCap sLen sCap : Nat) (hd : a.eval d = .slice (some ⟨g, off, none⟩) dLen dCap) (hs : a.eval s = .slice sp sLen sCap)
    (cur : Array Value) (t : TypeId) (hg : Blk w g t cur) (cs : List Value) (hn : cs.length = Nat.min sLen dLen)
    (hr : Rd w sp cs) (hfit : off + cs.length ≤ cur.size) (h1 : ∀ v ∈ cs, v.oneCell' = true)
    (h : ∀ w', Blk w' g t (splice cur off cs.toArray) → w.grownBy w' (some g) → w'.heap.size = w.heap.size → w'.drawn = w.drawn → wpList P ops Q rest (a.put o.dst (goInt cs.length)) w') :
    wpList P ops Q (o :: rest) a w := by
  by_cases h0 : cs.length = 0
  · obtain rfl : cs = [] := List.eq_nil_of_length_eq_zero h0
    refine wpList_copy_nothing hgd d s dT sT ho elem hu hsz _ sp dLen dCap sLen sCap hd hs (by simpa using hn.symm) ?_
    refine h w ?_ ⟨rfl, rfl, rfl, Nat.le_refl _, fun _ _ _ => rfl⟩ rfl rfl
    unfold splice
    simpa using hg
  obtain ⟨ad, rfl, hsrc⟩ := hr (by omega)
  refine wpList_copy_own hgd d s dT sT ho elem hu hsz g off dLen dCap ad sLen sCap hd hs cur t hg cs hn hsrc hfit h1 ?_
  refine h _ ?_ (setRow_grown w g _) (by simp) rfl
  have := setRow_blk w g t cur (splice cur off cs.toArray) hg
  unfold splice at this ⊢
  simpa using this

theorem run_index_agg {t e : TypeId} {n : Nat} {d : TypeDesc} {i : TypeInfo} (hu : P.underlying t = some (.array n e)) (he : P.underlying e = some d) (hd : (match d with | .struct _ | .array _ _ => true | _ => false) = false)
    (hi : P.info? e = some i) (hsz : i.size = 1) (cs : Array Value) (k : IntKind) (j : Nat) (hj : j < n) (v : Value) (hv : cs[j]? = some v) (w : World) :
    (Instr.index t (.agg cs) (.int k (j : Int))).run P w = .ok v w := by
  have hagg : (isAgg e).run P w = .ok false w := by
    unfold isAgg
    rw [Sem.run_bind, run_underlying he w]
    cases d <;> simp_all
  have h1 : (0 : Int) ≤ (j : Int) ∧ (j : Int) < (n : Int) := by omega
  simp [Instr.index, asIntOf, run_underlying hu, h1, hj, sizeOf, typeInfo, hi, hsz, part, hagg, hv]

/-- a new variable: its block is g, which was not there -/
theorem wpA (hgd : o.guard = none) (ty : TypeId) (ho : o.op = .alloc ty) (z : Value) (hz : (P.info? ty).bind (·.zero) = some z)
    (h : ∀ (g : Nat) (w' : World), w.heap.size ≤ g → Blk w' g ty z.cells → Kept [] w w' → wpList P ops Q rest (a.put o.dst (.pointer (some ⟨g, 0, none⟩))) w') : wpList P ops Q (o :: rest) a w :=
  wpList_alloc_row hgd ty ho z hz fun w' h2 h3 _ _ => h _ w' (Nat.le_refl _) h2 (Kept.of_grown h3 (by simp))
/-- a value is boxed -/
theorem wpB (hgd : o.guard = none) (ty : TypeId) (x : Operand) (ho : o.op = .box ty x) (v : Value) (hx : a.eval x = v)
    (h : ∀ (g : Nat) (w' : World), w.heap.size ≤ g → Blk w' g ty v.cells → Kept [] w w' → wpList P ops Q rest (a.put o.dst (.pointer (some ⟨g, 0, none⟩))) w') : wpList P ops Q (o :: rest) a w :=
  wpList_plain hgd fun _ hK => by
    unfold Oper.wp execOp
    simp only [ho, hx, Instr.box, newVar, newRow]
    simp
    exact hK _ _ (h _ _ (Nat.le_refl _) (Blk.new w ty v.cells) ((Kept.refl [] w).alloc _))

/-- a whole variable is stored -/
theorem wpS (hgd : o.guard = none) (ty : TypeId) (x y : Operand) (ho : o.op = .store ty x y)
    (g : Nat) (hx : a.eval x = .pointer (some ⟨g, 0, none⟩)) (v : Value) (hy : a.eval y = v) (t : TypeId) (cs : Array Value) (hg : Blk w g t cs)
    (hi : (P.info? ty).map (·.size) = some v.cells.size) (hfit : v.cells.size = cs.size) (h1 : ∀ u ∈ v.cells.toList, u.oneCell' = true)
    (h : ∀ w', Blk w' g t v.cells → Kept [g] w w' → wpList P ops Q rest (a.put o.dst undef) w') : wpList P ops Q (o :: rest) a w :=
  wpList_store_row hgd ty x y ho g 0 hx v hy t cs hg hi (by omega) h1 fun w' h2 h3 _ _ => h w' (by rwa [splice_all _ _ hfit.symm] at h2) (Kept.of_grown h3 (by simp))
/-- a whole variable is loaded -/
theorem wpL (hgd : o.guard = none) (ty : TypeId) (x : Operand) (ho : o.op = .load ty x)
    (g : Nat) (hx : a.eval x = .pointer (some ⟨g, 0, none⟩)) (t : TypeId) (cs : Array Value) (d : TypeDesc) (hg : Blk w g t cs)
    (hu : P.underlying ty = some d) (hd : (match d with | .struct _ | .array _ _ => true | _ => false) = true) (hi : (P.info? ty).map (·.size) = some cs.size)
    (h : wpList P ops Q rest (a.put o.dst (.agg cs)) w) : wpList P ops Q (o :: rest) a w :=
  wpList_load_row hgd ty x ho g hx t cs (0, 0) d hg hu hd hi h
/-- copy -/
theorem wpC (hgd : o.guard = none) (d s : Operand) (dT sT : TypeId)
    (ho : o.op = .call { callee := .builtin .copy, args := #[d, s], argTypes := #[dT, sT] }) (elem : TypeId) (hu : P.underlying dT = some (.slice elem)) (hsz : (P.info? elem).map (·.size) = some 1)
    (sp : Option Addr) (g off dLen dCap sLen sCap : Nat) (hd : a.eval d = .slice (some ⟨g, off, none⟩) dLen dCap) (hs : a.eval s = .slice sp sLen sCap)
    (cur : Array Value) (t : TypeId) (hg : Blk w g t cur) (cs : List Value) (hn : cs.length = Nat.min sLen dLen)
    (hr : Rd w sp cs) (hfit : off + cs.length ≤ cur.size) (h1 : ∀ v ∈ cs, v.oneCell' = true) (m : Nat) (hm : cs.length = m)
    (h : ∀ w', Blk w' g t (splice cur off cs.toArray) → Kept [g] w w' → wpList P ops Q rest (a.put o.dst (.int .i64 (m : Int))) w') :
    wpList P ops Q (o :: rest) a w := by
  subst hm
  exact wpList_copy_row hgd d s dT sT ho elem hu hsz sp g off dLen dCap sLen sCap hd hs cur t hg cs hn hr hfit h1 fun w' h2 h3 _ _ => h w' h2 (Kept.of_grown h3 (by simp))
end
end
section
set_option maxHeartbeats 400000 in
theorem dTurn (w : World) (x : UInt32) (n : Int) (h0 : 0 ≤ n) (hn : n ≤ 32) :
    Calls Tryz.prog 103 #[.int .u32 (U32 x), .int .u64 n] w fun e w' => e = .returned (.int .u32 (U32 (rot x n.toNat))) ∧ w = w' := by
  obtain ⟨n, rfl⟩ := Int.eq_ofNat_of_zero_le h0
  go_enter Tryz.func103, Tryz.ntmps103
  have h2 : IntKind.u64.wrap (32 - (n : Int)) = 32 - (n : Int) := IntWalk.u64_in _ (by omega)
  have h3 : (32 - (n : Int)).toNat = 32 - n := by omega
  go_wp2
  go_ret
  exact ⟨rfl, rfl⟩

set_option maxHeartbeats 400000 in
theorem dS0 (w : World) (x : UInt32) :
    Calls Tryz.prog 86 #[.int .u32 (U32 x)] w fun e w' => e = .returned (.int .u32 (U32 (shaS0 x))) ∧ w = w' := by
  go_enter Tryz.func86, Tryz.ntmps86
  go_wp2_with fail
  (with_reducible refine (dTurn _ x 7 (by omega) (by omega)).mono ?_); rintro e w' ⟨rfl, rfl⟩
  go_wp2_with fail
  (with_reducible refine (dTurn _ x 18 (by omega) (by omega)).mono ?_); rintro e w' ⟨rfl, rfl⟩
  go_wp2_with fail
  go_ret
  exact ⟨rfl, rfl⟩

set_option maxHeartbeats 400000 in
theorem dS1 (w : World) (x : UInt32) :
    Calls Tryz.prog 87 #[.int .u32 (U32 x)] w fun e w' => e = .returned (.int .u32 (U32 (shaS1 x))) ∧ w = w' := by
  go_enter Tryz.func87, Tryz.ntmps87
  go_wp2_with fail
  (with_reducible refine (dTurn _ x 17 (by omega) (by omega)).mono ?_); rintro e w' ⟨rfl, rfl⟩
  go_wp2_with fail
  (with_reducible refine (dTurn _ x 19 (by omega) (by omega)).mono ?_); rintro e w' ⟨rfl, rfl⟩
  go_wp2_with fail
  go_ret
  exact ⟨rfl, rfl⟩

set_option maxHeartbeats 400000 in
theorem dB0 (w : World) (x : UInt32) :
    Calls Tryz.prog 90 #[.int .u32 (U32 x)] w fun e w' => e = .returned (.int .u32 (U32 (shaB0 x))) ∧ w = w' := by
  go_enter Tryz.func90, Tryz.ntmps90
  go_wp2_with fail
  (with_reducible refine (dTurn _ x 2 (by omega) (by omega)).mono ?_); rintro e w' ⟨rfl, rfl⟩
  go_wp2_with fail
  (with_reducible refine (dTurn _ x 13 (by omega) (by omega)).mono ?_); rintro e w' ⟨rfl, rfl⟩
  go_wp2_with fail
  (with_reducible refine (dTurn _ x 22 (by omega) (by omega)).mono ?_); rintro e w' ⟨rfl, rfl⟩
  go_wp2_with fail
  go_ret
  exact ⟨rfl, rfl⟩

set_option maxHeartbeats 400000 in
theorem dB1 (w : World) (x : UInt32) :
    Calls Tryz.prog 88 #[.int .u32 (U32 x)] w fun e w' => e = .returned (.int .u32 (U32 (shaB1 x))) ∧ w = w' := by
  go_enter Tryz.func88, Tryz.ntmps88
  go_wp2_with fail
  (with_reducible refine (dTurn _ x 6 (by omega) (by omega)).mono ?_); rintro e w' ⟨rfl, rfl⟩
  go_wp2_with fail
  (with_reducible refine (dTurn _ x 11 (by omega) (by omega)).mono ?_); rintro e w' ⟨rfl, rfl⟩
  go_wp2_with fail
  (with_reducible refine (dTurn _ x 25 (by omega) (by omega)).mono ?_); rintro e w' ⟨rfl, rfl⟩
  go_wp2_with fail
  go_ret
  exact ⟨rfl, rfl⟩

set_option maxHeartbeats 400000 in
theorem dCh (w : World) (x y z : UInt32) :
    Calls Tryz.prog 89 #[.int .u32 (U32 x), .int .u32 (U32 y), .int .u32 (U32 z)] w fun e w' => e = .returned (.int .u32 (U32 (shaCh x y z))) ∧ w = w' := by
  go_enter Tryz.func89, Tryz.ntmps89
  go_wp2
  go_ret
  exact ⟨rfl, rfl⟩

set_option maxHeartbeats 400000 in
theorem dMaj (w : World) (x y z : UInt32) :
    Calls Tryz.prog 91 #[.int .u32 (U32 x), .int .u32 (U32 y), .int .u32 (U32 z)] w fun e w' => e = .returned (.int .u32 (U32 (shaMaj x y z))) ∧ w = w' := by
  go_enter Tryz.func91, Tryz.ntmps91
  go_wp2
  go_ret
  exact ⟨rfl, rfl⟩

theorem info64 : (Tryz.prog.info? 103).bind (·.zero) = some (.agg (wcells (List.replicate 64 0))) := by kernel_rfl
theorem size64 : (Tryz.prog.info? 103).map (·.size) = some 64 := by kernel_rfl
theorem wcells_size (xs : List UInt32) : (wcells xs).size = xs.length := by simp [wcells]
theorem wcells_one (xs : List UInt32) : ∀ u ∈ (wcells xs).toList, u.oneCell' = true := by
  intro u hu
  simp [wcells, WV] at hu
  obtain ⟨a, _, rfl⟩ := hu
  rfl
theorem litK : shaK.map WV = [.int .u32 1116352408,
  .int .u32 1899447441,
  .int .u32 3049323471,
  .int .u32 3921009573,
  .int .u32 961987163,
  .int .u32 1508970993,
  .int .u32 2453635748,
  .int .u32 2870763221,
  .int .u32 3624381080,
  .int .u32 310598401,
  .int .u32 607225278,
  .int .u32 1426881987,
  .int .u32 1925078388,
  .int .u32 2162078206,
  .int .u32 2614888103,
  .int .u32 3248222580,
  .int .u32 3835390401,
  .int .u32 4022224774,
  .int .u32 264347078,
  .int .u32 604807628,
  .int .u32 770255983,
  .int .u32 1249150122,
  .int .u32 1555081692,
  .int .u32 1996064986,
  .int .u32 2554220882,
  .int .u32 2821834349,
  .int .u32 2952996808,
  .int .u32 3210313671,
  .int .u32 3336571891,
  .int .u32 3584528711,
  .int .u32 113926993,
  .int .u32 338241895,
  .int .u32 666307205,
  .int .u32 773529912,
  .int .u32 1294757372,
  .int .u32 1396182291,
  .int .u32 1695183700,
  .int .u32 1986661051,
  .int .u32 2177026350,
  .int .u32 2456956037,
  .int .u32 2730485921,
  .int .u32 2820302411,
  .int .u32 3259730800,
  .int .u32 3345764771,
  .int .u32 3516065817,
  .int .u32 3600352804,
  .int .u32 4094571909,
  .int .u32 275423344,
  .int .u32 430227734,
  .int .u32 506948616,
  .int .u32 659060556,
  .int .u32 883997877,
  .int .u32 958139571,
  .int .u32 1322822218,
  .int .u32 1537002063,
  .int .u32 1747873779,
  .int .u32 1955562222,
  .int .u32 2024104815,
  .int .u32 2227730452,
  .int .u32 2361852424,
  .int .u32 2428436474,
  .int .u32 2756734187,
  .int .u32 3204031479,
  .int .u32 3329325298] := by kernel_rfl
theorem oneK : ∀ u ∈ (Value.cells (.agg #[.int .u32 1116352408,
  .int .u32 1899447441,
  .int .u32 3049323471,
  .int .u32 3921009573,
  .int .u32 961987163,
  .int .u32 1508970993,
  .int .u32 2453635748,
  .int .u32 2870763221,
  .int .u32 3624381080,
  .int .u32 310598401,
  .int .u32 607225278,
  .int .u32 1426881987,
  .int .u32 1925078388,
  .int .u32 2162078206,
  .int .u32 2614888103,
  .int .u32 3248222580,
  .int .u32 3835390401,
  .int .u32 4022224774,
  .int .u32 264347078,
  .int .u32 604807628,
  .int .u32 770255983,
  .int .u32 1249150122,
  .int .u32 1555081692,
  .int .u32 1996064986,
  .int .u32 2554220882,
  .int .u32 2821834349,
  .int .u32 2952996808,
  .int .u32 3210313671,
  .int .u32 3336571891,
  .int .u32 3584528711,
  .int .u32 113926993,
  .int .u32 338241895,
  .int .u32 666307205,
  .int .u32 773529912,
  .int .u32 1294757372,
  .int .u32 1396182291,
  .int .u32 1695183700,
  .int .u32 1986661051,
  .int .u32 2177026350,
  .int .u32 2456956037,
  .int .u32 2730485921,
  .int .u32 2820302411,
  .int .u32 3259730800,
  .int .u32 3345764771,
  .int .u32 3516065817,
  .int .u32 3600352804,
  .int .u32 4094571909,
  .int .u32 275423344,
  .int .u32 430227734,
  .int .u32 506948616,
  .int .u32 659060556,
  .int .u32 883997877,
  .int .u32 958139571,
  .int .u32 1322822218,
  .int .u32 1537002063,
  .int .u32 1747873779,
  .int .u32 1955562222,
  .int .u32 2024104815,
  .int .u32 2227730452,
  .int .u32 2361852424,
  .int .u32 2428436474,
  .int .u32 2756734187,
  .int .u32 3204031479,
  .int .u32 3329325298])).toList, u.oneCell' = true := by decide
set_option maxHeartbeats 400000 in
set_option maxRecDepth 100000 in
theorem dNumbers (w : World) :
    Calls Tryz.prog 57 #[] w fun e w' => e = .returned (.agg (wcells shaK)) ∧ Kept [] w w' := by
  go_enter Tryz.func57, Tryz.ntmps57
  go_wp2_with (first
    | (refine wpList_alloc_row rfl _ rfl _ info64 ?_; intro w1 hb1 hg1 hz1 hd1)
    | (refine wpList_store_row rfl _ _ _ rfl _ _ rfl _ rfl _ _ hb1 size64 (Nat.le_of_eq (by kernel_rfl)) oneK ?_
       intro w2 hb2 hg2 hz2 hd2))
  rw [splice_all _ _ (by kernel_rfl)] at hb2
  refine bodyPost_ret (results_cell_row rfl _ _ _ _ _ _ _ rfl hb2 Tryz.underlying103 rfl size64) rfl ⟨?_, ?_⟩
  · show Ending.returned (.agg _) = _
    rw [wcells, litK]; rfl
  exact (Kept.of_grown hg1 (by simp)).then_ (Kept.of_grown (S := [w.heap.size]) hg2 (by simp)) (by simp)
end
section
theorem rd_byte {w : World} {a : Addr} {bs : List UInt8} (h : ∀ i v, (bs.map BV)[i]? = some v → w.cell? (a.add i) = some v) (i : Nat) (hi : i < bs.length) :
    w.cell? (a.add i) = some (.int .u8 (U8 (b8 bs i))) := by
  have := h i (.int .u8 (U8 (b8 bs i)))
  simp [BV, hi, b8] at this
  simpa [b8, hi] using this
theorem flip_ {P : Program} {f : FuncId} {args : Array Value} {w w0 : World} {E : Ending} (h : Calls P f args w fun e w' => e = E ∧ w = w') (hw : w = w0) : Calls P f args w fun e w' => e = E ∧ w' = w0 :=
  h.mono fun _ _ ⟨a, b⟩ => ⟨a, b ▸ hw⟩
theorem Blk.word' {w : World} {g : Nat} {t : TypeId} {xs : List UInt32} (h : Blk w g t (wcells xs)) {i o : Nat} (hi : i < xs.length) (ho : o = i) :
    w.cell? ⟨g, o, none⟩ = some (.int .u32 (U32 (w32 xs i))) := by subst ho; exact h.word hi
theorem Blk.words8 {w : World} {g : Nat} {t : TypeId} {xs : List UInt32} (h : Blk w g t (wcells xs)) (hl : xs.length = 8) :
    w.cell? ⟨g, 0, none⟩ = some (.int .u32 (U32 (w32 xs 0))) ∧ w.cell? ⟨g, 1, none⟩ = some (.int .u32 (U32 (w32 xs 1))) ∧
    w.cell? ⟨g, 2, none⟩ = some (.int .u32 (U32 (w32 xs 2))) ∧ w.cell? ⟨g, 3, none⟩ = some (.int .u32 (U32 (w32 xs 3))) ∧
    w.cell? ⟨g, 4, none⟩ = some (.int .u32 (U32 (w32 xs 4))) ∧ w.cell? ⟨g, 5, none⟩ = some (.int .u32 (U32 (w32 xs 5))) ∧
    w.cell? ⟨g, 6, none⟩ = some (.int .u32 (U32 (w32 xs 6))) ∧ w.cell? ⟨g, 7, none⟩ = some (.int .u32 (U32 (w32 xs 7))) :=
  ⟨h.word (by omega), h.word (by omega), h.word (by omega), h.word (by omega), h.word (by omega), h.word (by omega), h.word (by omega), h.word (by omega)⟩
theorem shaExt_step (w0 : List UInt32) (k : Nat) (hk : 16 ≤ k) : shaExt w0 (k + 1 - 16) = (shaExt w0 (k - 16)).set k (extVal (shaExt w0 (k - 16)) (k - 16)) := by
  obtain ⟨j, rfl⟩ : ∃ j, k = j + 16 := ⟨k - 16, by omega⟩
  rw [show j + 16 + 1 - 16 = j + 1 by omega, show j + 16 - 16 = j by omega]; rfl
theorem size8 {s : List UInt32} (h : s.length = 8) : (Tryz.prog.info? 131).map (·.size) = some (wcells s).size := by
  rw [wcells_size, h]; kernel_rfl
theorem info8 : (Tryz.prog.info? 131).bind (·.zero) = some (.agg (wcells (List.replicate 8 0))) := by kernel_rfl
theorem fit8 {s : List UInt32} (h : s.length = 8) : 0 + (wcells s).size ≤ (wcells (List.replicate 8 0)).size := by
  rw [wcells_size, wcells_size, h]; decide
theorem fit88 {s s' : List UInt32} (h : s.length = 8) (h' : s'.length = 8) : 0 + (wcells s).size ≤ (wcells s').size := by
  rw [wcells_size, wcells_size, h, h']; decide
theorem rd_byteS {w : World} {a : Addr} {bs : List UInt8} (h : ∀ i v, (bs.map BV)[i]? = some v → w.cell? (a.add i) = some v) (i : Nat) (hi : i < bs.length) (h0 : i ≠ 0) :
    w.cell? ⟨a.block, a.off + i, none⟩ = some (.int .u8 (U8 (b8 bs i))) := by
  have := rd_byte h i hi
  simpa [Addr.add, h0] using this

set_option maxRecDepth 100000 in
set_option maxHeartbeats 4000000 in
theorem dTake (w : World) (sb kb : Nat) (s : List UInt32) (a : Addr) (c : Nat) (bs : List UInt8) (hs8 : s.length = 8)
    (hs : Blk w sb 131 (wcells s)) (hk : Blk w kb 103 (wcells shaK)) (hr : ∀ i v, (bs.map BV)[i]? = some v → w.cell? (a.add i) = some v)
    (hl : 64 ≤ bs.length) (hm : bs.length ≤ maxLen) :
    Calls Tryz.prog 58 #[.pointer (some ⟨sb, 0, none⟩), .slice (some a) bs.length c, .pointer (some ⟨kb, 0, none⟩)] w
      fun e w' => e = .returned (.tuple #[]) ∧ Blk w' sb 131 (wcells (shaBlock s bs)) ∧ Kept [sb] w w' := by
  unfold maxLen at hm
  have HS8 := hide hs8; clear hs8
  have HS := hide hs; have HK := hide hk; have HR := hide hr; clear hs hk hr
  go_enter Tryz.func58, Tryz.ntmps58
  go_wp2_with (first
    | (refine wpList_alloc_row rfl _ rfl _ info64 ?_; intro w1 hb1 hg1 hz1 hd1))
  have HB := hide (p := Blk w1 w.heap.size 103 (wcells (shaFill bs 0))) hb1
  have HG := hide (Kept.of_grown (S := []) hg1 (by simp))
  clear hb1 hg1 hd1 hz1
  go_loopw [14] (fun i wr => ∃ k : Nat, k ≤ 16 ∧ i = .int .i64 k ∧ Blk wr w.heap.size 103 (wcells (shaFill bs k)) ∧ Kept [] w wr) (fun i _ => 16 - (intOf i).toNat)
  case atStart => exact ⟨0, by omega, rfl, HB.out, HG.out⟩
  case round =>
    obtain ⟨k, hk16, rfl, hbk, hkk⟩ := hrel
    have HBK := hide hbk; have HKK := hide hkk; clear hbk hkk HB HG
    by_cases hlt : k < 16
    ·
      -- <<
      have hsz : wr.heap.size ≥ w.heap.size := HKK.out.size
      have c0 := HKK.out.cell_some (rd_byte HR.out (4 * k) (by omega)) (by simp)
      have c1 := HKK.out.cell_some (rd_byteS HR.out (4 * k + 1) (by omega) (by omega)) (by simp)
      have c2 := HKK.out.cell_some (rd_byteS HR.out (4 * k + 2) (by omega) (by omega)) (by simp)
      have c3 := HKK.out.cell_some (rd_byteS HR.out (4 * k + 3) (by omega) (by omega)) (by simp)
      have cw := HBK.out.word (i := k) (by rw [shaFill_len]; omega)
      have fw := HBK.out.frozen k
      have w0 : IntKind.i64.wrap (4 * (k : Int)) = 4 * (k : Int) := IntWalk.i64_in _ (by omega)
      have l0 : 0 ≤ 4 * (k : Int) := by omega
      have u0 : 4 * (k : Int) < (bs.length : Int) := by omega
      have n0 : (4 * (k : Int)).toNat = 4 * k := by omega
      have w1 : IntKind.i64.wrap (4 * (k : Int) + 1) = 4 * (k : Int) + 1 := IntWalk.i64_in _ (by omega)
      have l1 : 0 ≤ 4 * (k : Int) + 1 := by omega
      have u1 : 4 * (k : Int) + 1 < (bs.length : Int) := by omega
      have n1 : (4 * (k : Int) + 1).toNat = 4 * k + 1 := by omega
      have w2 : IntKind.i64.wrap (4 * (k : Int) + 2) = 4 * (k : Int) + 2 := IntWalk.i64_in _ (by omega)
      have l2 : 0 ≤ 4 * (k : Int) + 2 := by omega
      have u2 : 4 * (k : Int) + 2 < (bs.length : Int) := by omega
      have n2 : (4 * (k : Int) + 2).toNat = 4 * k + 2 := by omega
      have w3 : IntKind.i64.wrap (4 * (k : Int) + 3) = 4 * (k : Int) + 3 := IntWalk.i64_in _ (by omega)
      have l3 : 0 ≤ 4 * (k : Int) + 3 := by omega
      have u3 : 4 * (k : Int) + 3 < (bs.length : Int) := by omega
      have n3 : (4 * (k : Int) + 3).toNat = 4 * k + 3 := by omega
      have k64 : (k : Int) < 64 := by omega
      go_wp2
      go_still_tail 35, (by kernel_rfl)
      change wpList _ _ _ _ _ wr.drew
      go_wp2
      go_roundw
      case rel => exact ⟨k + 1, by omega, by go_num, (HBK.out.setWord k _).drew, (HKK.out.setCell (.inr (Nat.le_refl _)) _).drew⟩
      case measure => simp [intOf]; omega
      -- >>
    have hk16 : k = 16 := by omega
    have HBX := hide (p := Blk wr w.heap.size 103 (wcells (shaExt (shaFill bs 16) 0))) (hk16 ▸ HBK.out)
    have hd : decide ((k : Int) < 16) = false := by simp; omega
    clear hk16
    go_wp2
    generalize HW0 : shaFill bs 16 = ws0 at *
    have hw0l : Hid (ws0.length = 64) := hide (by rw [← HW0]; exact shaFill_len _ _)
    have HW0' := hide HW0; clear HW0 HBK
    obtain ⟨wo, rfl⟩ : ∃ wo : World, wo = wr := ⟨_, rfl⟩
    go_loopw [8] (fun i wq => ∃ k : Nat, 16 ≤ k ∧ k ≤ 64 ∧ i = .int .i64 k ∧ Blk wq w.heap.size 103 (wcells (shaExt ws0 (k - 16))) ∧ Kept [] w wq) (fun i _ => 64 - (intOf i).toNat)
    case atStart => exact ⟨16, by omega, by omega, rfl, HBX.out, HKK.out⟩
    case round =>
      obtain ⟨k, hk1, hk2, rfl, hbk, hkk⟩ := hrel
      have HBK := hide hbk; have HKQ := hide hkk; clear hbk hkk HBX
      by_cases hlt : k < 64
      ·
        -- <<
        have hlen : (shaExt ws0 (k - 16)).length = 64 := shaExt_len _ hw0l.out _
        have d0 := HBK.out.word' (i := k - 16) (o := k - 16) (by omega) rfl
        have d1 := HBK.out.word' (i := k - 16 + 1) (o := k - 15) (by omega) (by omega)
        have d2 := HBK.out.word' (i := k - 16 + 9) (o := k - 7) (by omega) (by omega)
        have d3 := HBK.out.word' (i := k - 16 + 14) (o := k - 2) (by omega) (by omega)
        have d4 := HBK.out.word' (i := k) (o := k) (by omega) rfl
        have fw := HBK.out.frozen k
        have HLEN := hide hlen; clear hlen
        have q16 : IntKind.i64.wrap ((k : Int) - 16) = k - 16 := IntWalk.i64_in _ (by omega)
        have q15 : IntKind.i64.wrap ((k : Int) - 15) = k - 15 := IntWalk.i64_in _ (by omega)
        have q7 : IntKind.i64.wrap ((k : Int) - 7) = k - 7 := IntWalk.i64_in _ (by omega)
        have q2 : IntKind.i64.wrap ((k : Int) - 2) = k - 2 := IntWalk.i64_in _ (by omega)
        have p16 : (16 : Int) ≤ k := by omega
        have p15 : (15 : Int) ≤ k := by omega
        have p7 : (7 : Int) ≤ k := by omega
        have p2 : (2 : Int) ≤ k := by omega
        have r16 : (k : Int) - 16 < 64 := by omega
        have r15 : (k : Int) - 15 < 64 := by omega
        have r7 : (k : Int) - 7 < 64 := by omega
        have r2 : (k : Int) - 2 < 64 := by omega
        have k64 : (k : Int) < 64 := by omega
        have t16 : ((k : Int) - 16).toNat = k - 16 := by omega
        have t15 : ((k : Int) - 15).toNat = k - 15 := by omega
        have t7 : ((k : Int) - 7).toNat = k - 7 := by omega
        have t2 : ((k : Int) - 2).toNat = k - 2 := by omega
        go_wp2
        go_still_tail 23, (by kernel_rfl)
        still_call (flip_ (dS0 _ _) rfl)
        repeat still_step
        still_call (flip_ (dS1 _ _) rfl)
        repeat still_step
        refine wpStill_nil ?_
        change wpList _ _ _ _ _ wr.drew
        go_wp2
        go_roundw
        case rel => exact ⟨k + 1, by omega, by omega, by go_num, by rw [shaExt_step _ _ hk1]; exact (HBK.out.setWord k _).drew, (HKQ.out.setCell (.inr (Nat.le_refl _)) _).drew⟩
        case measure => simp [intOf]; omega
        -- >>
      have hk64 : k = 64 := by omega
      generalize hws : shaExt ws0 (k - 16) = ws at *
      have HWS := hide (p := ws = shaExt ws0 48) (by rw [← hws, hk64]); clear hws
      have hd2 : decide ((k : Int) < 64) = false := by simp; omega
      clear hk64
      have HSQ := hide (HS.out.kept HKQ.out (by simp))
      have HWL := hide (p := ws.length = 64) (by rw [HWS.out]; exact shaExt_len _ hw0l.out _)
      go_wp2_with (first
        | (refine wpList_load_row rfl 131 _ rfl sb rfl _ _ _ _ HSQ.out Tryz.underlying131 rfl (size8 HS8.out) ?_)
        | (refine wpList_alloc_row rfl _ rfl _ info8 ?_; intro w2 hb2 hg2 hz2 hd2)
        | (refine wpList_store_row rfl _ _ _ rfl _ _ rfl (.agg (wcells s)) rfl _ _ hb2 (size8 HS8.out) (fit8 HS8.out) (wcells_one s) ?_
           intro w3 hb3 hg3 hz3 hd3))
      rw [splice_all _ _ (by rw [Value.cells, Value.cells, wcells_size, wcells_size, HS8.out]; rfl)] at hb3
      have HV := hide (p := Blk w3 wr.heap.size 131 (wcells (shaRounds ws s 0))) hb3
      have K13 : Kept [] wr w3 := (Kept.of_grown hg2 (by simp)).then_ (Kept.of_grown (S := [wr.heap.size]) hg3 (by simp)) (by simp)
      have HKW := hide (HKQ.out.then_ K13 (by simp))
      have HWB := hide (HBK.out.kept K13 (by simp))
      have hv0 : w.heap.size < wr.heap.size := HBK.out.lt
      clear hb3 hb2 hg2 hz2 hd2 hg3 hz3 hd3 K13
      generalize wr.heap.size = V0 at *
      go_loopw [83] (fun i wv => ∃ j : Nat, j ≤ 64 ∧ i = .int .i64 j ∧ Blk wv V0 131 (wcells (shaRounds ws s j)) ∧ Blk wv w.heap.size 103 (wcells ws) ∧ Kept [] w wv) (fun i _ => 64 - (intOf i).toNat)
      case atStart => exact ⟨0, by omega, rfl, HV.out, HWB.out, HKW.out⟩
      case round =>
        obtain ⟨j, hj, rfl, hbv, hbw, hkv⟩ := hrel
        by_cases hlt : j < 64
        ·
          -- <<
          have hvl : (shaRounds ws s j).length = 8 := shaRounds_len _ _ HS8.out _
          have HSR := hide (p := shaRounds ws s (j + 1) = shaStep ws (shaRounds ws s j) j) rfl
          generalize shaRounds ws s j = v at *
          obtain ⟨c0, c1, c2, c3, c4, c5, c6, c7⟩ := hbv.words8 hvl
          have cw := hbw.word (i := j) (by rw [HWL.out]; omega)
          have ck := (HK.out.kept hkv (by simp)).word (i := j) (by show j < 64; omega)
          have j64 : (j : Int) < 64 := by omega
          have HBV := hide hbv; have HBW := hide hbw; have HKV := hide hkv; have HVL := hide hvl
          clear hbv hbw hkv hvl HV HWB HKW HKQ HSQ
          go_wp2
          refine wp_region_still_lit (by kernel_rfl) (by kernel_rfl) ?_
          repeat still_step
          still_call (flip_ (dB1 _ _) rfl)
          repeat still_step
          still_call (flip_ (dCh _ _ _ _) rfl)
          repeat still_step
          refine wpStill_nil ?_
          change Exit.then _ _ Exit.normal _ wr.drew
          have HBV1 := hide HBV.out.drew; have HBW1 := hide HBW.out.drew; have HKV1 := hide HKV.out.drew
          clear c0 c1 c2 c3 c4 c5 c6 c7 cw ck HBV HBW HKV
          generalize wr.drew = wd at *
          obtain ⟨c0, c1, c2, c3, c4, c5, c6, c7⟩ := HBV1.out.words8 HVL.out
          go_wp2
          refine wp_region_still_lit (by kernel_rfl) (by kernel_rfl) ?_
          repeat still_step
          still_call (flip_ (dB0 _ _) rfl)
          repeat still_step
          still_call (flip_ (dMaj _ _ _ _) rfl)
          repeat still_step
          refine wpStill_nil ?_
          change Exit.then _ _ Exit.normal _ wd.drew
          have HBV2 := hide HBV1.out.drew; have HBW2 := hide HBW1.out.drew; have HKV2 := hide HKV1.out.drew
          clear c0 c1 c2 c3 c4 c5 c6 c7 HBV1 HBW1 HKV1
          generalize wd.drew = we at *
          obtain ⟨c0, c1, c2, c3, c4, c5, c6, c7⟩ := HBV2.out.words8 HVL.out
          go_wp2_with (change wpList _ _ _ ({ dst := none, op := .store _ _ _, type := _, pos := _, after := _, guard := _ } :: _) _ _
                       generalize hG : wpList _ _ _ _ _ _ = G)
          rw [← hG]; clear hG G
          refine wpList_store_row rfl _ _ _ rfl V0 0 rfl (.agg (wcells (shaStep ws v j))) rfl _ _ HBV2.out (size8 rfl) (fit88 rfl HVL.out) (wcells_one _) ?_
          intro w3 hb3 hg3 hz3 hd3
          rw [splice_all _ _ (by rw [Value.cells, wcells_size, wcells_size, HVL.out]; rfl)] at hb3
          have K13 : Kept [V0] we w3 := Kept.of_grown hg3 (by simp)
          have HB3 := hide hb3
          clear hb3 hg3 hz3 hd3 c0 c1 c2 c3 c4 c5 c6 c7
          go_wp2
          go_roundw
          case rel => exact ⟨j + 1, by omega, by go_num, by rw [HSR.out]; exact HB3.out, HBW2.out.kept K13 (by simp; omega), HKV2.out.then_ K13 (by simp; omega)⟩
          case measure => simp [intOf]; omega
          -- >>
        have hj64 : j = 64 := by omega
        have HADD := hide (p := shaAdd (shaRounds ws s 64) s 8 = shaBlock s bs) (by unfold shaBlock; rw [HW0'.out, ← HWS.out])
        have hvl : (shaRounds ws s j).length = 8 := shaRounds_len _ _ HS8.out _
        rw [← hj64] at HADD
        generalize shaRounds ws s j = v at *
        have hd3 : decide ((j : Int) < 64) = false := by simp; omega
        clear hj64
        have HBV := hide hbv; have HVL := hide hvl
        have HSB := hide (HS.out.kept hkv (by simp))
        have HKV := hide (hkv.mono (S' := [sb]) (by simp))
        have hsb0 : sb < w.heap.size := HS.out.lt
        clear hbv hvl hbw hkv HV HWB HKW HKQ HSQ
        go_wp2
        obtain ⟨wp, rfl⟩ : ∃ wo : World, wo = wr := ⟨_, rfl⟩
        go_loopw [142] (fun i wz => ∃ j : Nat, j ≤ 8 ∧ i = .int .i64 j ∧ Blk wz V0 131 (wcells v) ∧ Blk wz sb 131 (wcells (shaAdd v s j)) ∧ Kept [sb] w wz) (fun i _ => 8 - (intOf i).toNat)
        case atStart => exact ⟨0, by omega, rfl, HBV.out, HSB.out, HKV.out⟩
        case round =>
          obtain ⟨j, hj, rfl, hbv, hbs, hkv⟩ := hrel
          have hal : (shaAdd v s j).length = 8 := shaAdd_len _ _ HS8.out _
          by_cases hlt : j < 8
          · have cv := hbv.word (i := j) (by rw [HVL.out]; omega)
            have cs := hbs.word (i := j) (by rw [hal]; omega)
            have fs := hbs.frozen j
            have j8 : (j : Int) < 8 := by omega
            have HBV2 := hide hbv; have HBS2 := hide hbs; have HKV2 := hide hkv
            clear hbv hbs hkv hal HBV HSB HKV
            go_wp2
            go_still_tail 11, (by kernel_rfl)
            change wpList _ _ _ _ _ wr.drew
            go_wp2
            go_roundw
            case rel => exact ⟨j + 1, by omega, by go_num, (HBV2.out.far (by simp; omega) _).drew, (HBS2.out.setWord j _).drew, (HKV2.out.setCell (.inl (by simp)) _).drew⟩
            case measure => simp [intOf]; omega
          have hj8 : j = 8 := by omega
          have HBS2 := hide hbs; have HKV2 := hide hkv
          rw [hj8, HADD.out] at HBS2
          clear hbv hbs hkv hal HBV HSB HKV
          have hd4 : decide ((j : Int) < 8) = false := by simp; omega
          clear hj8
          go_wp2
          go_end0
          exact ⟨rfl, HBS2.out, HKV2.out⟩
end
section
def shaInit : List UInt32 := [0x6a09e667, 0xbb67ae85, 0x3c6ef372, 0xa54ff53a, 0x510e527f, 0x9b05688c, 0x1f83d9ab, 0x5be0cd19]
def shaRun : Nat → List UInt32 → List UInt8 → List UInt32
  | 0, s, _ => s
  | k+1, s, m => shaRun k (shaBlock s m) (m.drop 64)
theorem shaBlock_len (s : List UInt32) (b : List UInt8) (h : s.length = 8) : (shaBlock s b).length = 8 := shaAdd_len _ _ h _
theorem shaRun_len : ∀ (k : Nat) (s : List UInt32) (m : List UInt8), s.length = 8 → (shaRun k s m).length = 8
  | 0, _, _, h => h
  | k+1, s, m, h => shaRun_len k _ _ (shaBlock_len s m h)
theorem shaRun_succ : ∀ (k : Nat) (s : List UInt32) (m : List UInt8), shaRun (k+1) s m = shaBlock (shaRun k s m) (m.drop (64 * k))
  | 0, _, _ => by simp [shaRun]
  | k+1, s, m => by
    rw [shaRun, shaRun_succ k, List.drop_drop, shaRun]
    congr 2
    omega
/-- the last block or two -/
def shaLast0 (rest : List UInt8) : List UInt8 := (rest ++ List.replicate (128 - rest.length) 0).set rest.length 0x80
def shaBits (n : Nat) : UInt64 := shl64 (UInt64.ofNat n) 3
def shaLast (L : List UInt8) (e : Nat) (d : UInt64) : Nat → List UInt8
  | 0 => L
  | i+1 => (shaLast L e d i).set (e - 1 - i) (c64to8 (shr64 d (8 * i)))
theorem shaLast_len (L : List UInt8) (e : Nat) (d : UInt64) (k : Nat) : (shaLast L e d k).length = L.length := by
  induction k with
  | zero => rfl
  | succ k ih => simp [shaLast, ih]
def shaOut (s : List UInt32) : Nat → List UInt8 → List UInt8
  | 0, h => h
  | i+1, h => ((((shaOut s i h).set (4*i) (c32to8 (shr32 (w32 s i) 24))).set (4*i+1) (c32to8 (shr32 (w32 s i) 16))).set (4*i+2) (c32to8 (shr32 (w32 s i) 8))).set (4*i+3) (c32to8 (w32 s i))
theorem shaOut_len (s : List UInt32) (h : List UInt8) (k : Nat) : (shaOut s k h).length = h.length := by
  induction k with
  | zero => rfl
  | succ k ih => simp [shaOut, ih]
def sha (p : List UInt8) : List UInt8 :=
  let a := p.length / 64
  let rest := p.drop (64 * a)
  let e := if rest.length < 56 then 64 else 128
  let L := shaLast (shaLast0 rest) e (shaBits p.length) 8
  shaOut (shaRun (e / 64) (shaRun a shaInit p) L) 8 (List.replicate 32 0)
theorem sha_len (p : List UInt8) : (sha p).length = 32 := by unfold sha; simp [shaOut_len]

theorem infoHash : (Tryz.prog.info? 36).bind (·.zero) = some (.agg (bcells (List.replicate 32 0))) := by kernel_rfl
theorem sizeHash : (Tryz.prog.info? 36).map (·.size) = some 32 := by kernel_rfl
theorem info128 : (Tryz.prog.info? 133).bind (·.zero) = some (.agg (bcells (List.replicate 128 0))) := by kernel_rfl
theorem initCells : wcells shaInit = #[.int .u32 1779033703, .int .u32 3144134277, .int .u32 1013904242, .int .u32 2773480762, .int .u32 1359893119, .int .u32 2600822924, .int .u32 528734635, .int .u32 1541459225] := by kernel_rfl

def lenV : Value → Nat | .slice _ n _ => n | _ => 0
theorem dTakeN (w : World) (sb kb : Nat) (s : List UInt32) (a : Addr) (n c : Nat) (bs : List UInt8) (hs8 : s.length = 8)
    (hs : Blk w sb 131 (wcells s)) (hk : Blk w kb 103 (wcells shaK)) (hr : ∀ i v, (bs.map BV)[i]? = some v → w.cell? (a.add i) = some v)
    (hn : bs.length = n) (hl : 64 ≤ n) (hm : n ≤ 140737488355328) :
    Calls Tryz.prog 58 #[.pointer (some ⟨sb, 0, none⟩), .slice (some a) n c, .pointer (some ⟨kb, 0, none⟩)] w
      fun e w' => e = .returned (.tuple #[]) ∧ Blk w' sb 131 (wcells (shaBlock s bs)) ∧ Kept [sb] w w' := by
  subst hn
  exact dTake w sb kb s a c bs hs8 hs hk hr hl (by unfold maxLen; omega)
theorem RdB.step64 {B k c' : Nat} {w : World} {a : Addr} {p : List UInt8} (h : RdB B w (some a) ((p.drop (64 * k)).map BV)) (hk : 64 * k + 64 ≤ p.length) (hc : p.length - 64 * k ≤ c') :
    RdB B w (if c' = 64 then some a else some ⟨a.block, a.off + 64, none⟩) ((p.drop (64 * (k + 1))).map BV) := by
  have h2 := h.drop 64 c' (by simp; omega) (by simp; omega)
  rw [← List.map_drop, List.drop_drop] at h2
  rw [show 64 * (k + 1) = 64 * k + 64 by omega]
  exact h2
theorem last0_cells (rest : List UInt8) :
    splice (bcells (List.replicate 128 0)) 0 (rest.map BV).toArray = bcells (rest ++ List.replicate (128 - rest.length) 0) := by
  unfold splice
  have e : (bcells (List.replicate 128 0)).toList = List.replicate 128 (BV 0) := by unfold bcells; rw [List.map_replicate]
  rw [e, List.drop_replicate]
  unfold bcells
  rw [List.map_append, List.map_replicate]
  simp only [List.take_zero, List.nil_append, Nat.zero_add, List.size_toArray, List.length_map]
theorem size1 : (Tryz.prog.info? 5).map (·.size) = some 1 := by kernel_rfl
theorem idxW (s : List UInt32) (hs : s.length = 8) (j : Nat) (hj : j < 8) (w : World) :
    (Instr.index 131 (.agg (wcells s)) (.int .i64 (j : Int))).run Tryz.prog w = .ok (.int .u32 (U32 (w32 s j))) w := by
  obtain ⟨i, hi, hz⟩ : ∃ i, Tryz.prog.info? 45 = some i ∧ i.size = 1 := by
    have h : (Tryz.prog.info? 45).map (·.size) = some 1 := by kernel_rfl
    cases hq : Tryz.prog.info? 45 with
    | none => rw [hq] at h; cases h
    | some i => rw [hq] at h; exact ⟨i, rfl, by simpa using h⟩
  exact run_index_agg (n := 8) Tryz.underlying131 Tryz.underlying45 rfl hi hz _ _ j hj _ (wcells_get _ _ (by omega)) w
theorem rd_at {w : World} {g : Nat} {t : TypeId} {L : List UInt8} (h : Blk w g t (bcells L)) (o : Nat) :
    ∀ i v, ((L.drop o).map BV)[i]? = some v → w.cell? ((⟨g, o, none⟩ : Addr).add i) = some v := by
  intro i v hv
  rw [add_mk, h.cell]
  rw [List.map_drop, List.getElem?_drop] at hv
  simpa [bcells] using hv
theorem sha_of (p rest L : List UInt8) (r E : Nat) (D : UInt64) (s1 s2 : List UInt32) (h1 : rest = p.drop (64 * (p.length / 64))) (hr : rest.length = r)
    (hE : E = if r < 56 then 64 else 128) (hD : D = shl64 (UInt64.ofNat p.length) 3) (hL : L = shaLast (shaLast0 rest) E D 8)
    (hs1 : s1 = shaRun (p.length / 64) shaInit p) (hs2 : s2 = shaRun (E / 64) s1 L) : shaOut s2 8 (List.replicate 32 0) = sha p := by
  subst hr hE hD hL hs2 hs1 h1; rfl
theorem initCellsV : Value.agg #[.int .u32 1779033703, .int .u32 3144134277, .int .u32 1013904242, .int .u32 2773480762, .int .u32 1359893119, .int .u32 2600822924, .int .u32 528734635, .int .u32 1541459225] = .agg (wcells shaInit) := by rw [initCells]
set_option maxRecDepth 100000 in
set_option maxHeartbeats 4000000 in
theorem dSum (w : World) (A : Option Addr) (c : Nat) (p : List UInt8) (hr : Rd w A (p.map BV)) (hc : p.length ≤ c) (hm : p.length ≤ 140737488355328) :
    Calls Tryz.prog 42 #[.slice A p.length c] w fun e w' => e = .returned (.agg (bcells (sha p))) ∧ Kept [] w w' := by
  have HR := hide hr.bound; clear hr
  go_enter Tryz.func42, Tryz.ntmps42
  go_wp2_with (first
    | (change wpList _ _ _ ({ dst := some 2, op := .alloc _, type := _, pos := _, after := _, guard := _ } :: _) _ _
       refine wpA rfl _ rfl _ infoHash ?_; intro H0 w1 hH hbH hk1)
    | (change wpList _ _ _ ({ dst := some 3, op := .alloc _, type := _, pos := _, after := _, guard := _ } :: _) _ _
       refine wpA rfl _ rfl _ info8 ?_; intro S0 w2 hS hbS hk2)
    | (change wpList _ _ _ ({ dst := none, op := .store 131 _ _, type := _, pos := _, after := _, guard := _ } :: _) _ _
       refine wpS rfl _ _ _ rfl S0 rfl (.agg (wcells shaInit)) initCellsV _ _ hbS (size8 rfl) rfl (wcells_one _) ?_
       intro w3 hbS3 hk3)
    | (go_at_call 57; refine (dNumbers _).mono ?_; rintro e w4 ⟨rfl, hk4⟩)
    | (change wpList _ _ _ ({ dst := some 4, op := .alloc _, type := _, pos := _, after := _, guard := _ } :: _) _ _
       refine wpA rfl _ rfl _ info64 ?_; intro K0 w5 hK hbK hk5)
    | (change wpList _ _ _ ({ dst := none, op := .store 103 _ _, type := _, pos := _, after := _, guard := _ } :: _) _ _
       refine wpS rfl _ _ _ rfl K0 rfl (.agg (wcells shaK)) rfl _ _ hbK size64 rfl (wcells_one _) ?_
       intro w6 hbK6 hk6))
  have hHS : H0 < S0 := Nat.lt_of_lt_of_le hbH.lt hS
  have hSK : S0 < K0 := Nat.lt_of_lt_of_le (Nat.lt_of_lt_of_le hbS3.lt hk4.size) hK
  have BH := hide (((((hbH.kept hk2 (by simp)).kept hk3 (by simp; omega)).kept hk4 (by simp)).kept hk5 (by simp)).kept hk6 (by simp; omega))
  have BS := hide (p := Blk w6 S0 131 (wcells (shaRun 0 shaInit p))) ((((hbS3.kept hk4 (by simp)).kept hk5 (by simp)).kept hk6 (by simp; omega)))
  have BK := hide hbK6
  have KW := hide ((((((hk1.trans hk2).then_ hk3 (by simp; omega)).trans hk4).trans hk5).then_ hk6 (by simp; omega)))
  have RP := hide (p := RdB w.heap.size w6 A ((p.drop (64 * 0)).map BV)) (HR.out.kept KW.out (by simp))
  clear hbH hbS hbS3 hbK hbK6 hk1 hk2 hk3 hk4 hk5 hk6 hS hK HR
  go_loopw [5] (fun v wr => ∃ (k : Nat) (A' : Option Addr), 64 * k ≤ p.length ∧ v = .slice A' (p.length - 64 * k) (c - 64 * k) ∧ RdB w.heap.size wr A' ((p.drop (64 * k)).map BV) ∧
      Blk wr S0 131 (wcells (shaRun k shaInit p)) ∧ Blk wr K0 103 (wcells shaK) ∧ Blk wr H0 36 (bcells (List.replicate 32 0)) ∧ Kept [] w wr) (fun v _ => lenV v)
  case atStart => exact ⟨0, A, by omega, rfl, RP.out, BS.out, BK.out, BH.out, KW.out⟩
  case round =>
    obtain ⟨k, A', hk, rfl, hrp, hbS, hbK, hbH, hkw⟩ := hrel
    clear BH BS BK KW RP
    by_cases hlt : 64 ≤ p.length - 64 * k
    · obtain ⟨a, rfl, hab, hcell⟩ := hrp (by simp; omega)
      have RP := hide hrp; have BS := hide hbS; have BK := hide hbK; have BH := hide hbH; have KW := hide hkw; have HC := hide hcell
      clear hrp hbS hbK hbH hkw hcell
      have l1 : (64 : Int) ≤ ((p.length - 64 * k : Nat) : Int) := by omega
      have l2 : (p.length - 64 * k) ≤ c - 64 * k := by omega
      go_wp2_with (go_at_call 58; refine (dTakeN _ _ _ _ _ _ _ (p.drop (64 * k)) (shaRun_len _ _ _ rfl) BS.out BK.out HC.out (by simp) hlt (by omega)).mono ?_; rintro e w7 ⟨rfl, hbS7, hk7⟩)
      go_roundw
      case rel =>
        exact ⟨k + 1, _, by omega, by rw [show p.length - 64 * (k + 1) = p.length - 64 * k - 64 by omega, show c - 64 * (k + 1) = c - 64 * k - 64 by omega],
          RdB.step64 (RP.out.kept hk7 (by simp; omega)) (by omega) (by omega), by rw [shaRun_succ]; exact hbS7, BK.out.kept hk7 (by simp; omega), BH.out.kept hk7 (by simp; omega), KW.out.then_ hk7 (by simp; omega)⟩
      case measure => simp [lenV]; omega
    obtain ⟨r, hr⟩ : ∃ r, p.length - 64 * k = r := ⟨_, rfl⟩
    have HR64 := hide (p := (p.drop (64 * k)).length = r) (by simp; exact hr)
    have hka : k = p.length / 64 := by omega
    have HS := hide (p := shaRun k shaInit p = shaRun (p.length / 64) shaInit p) (by rw [← hka])
    generalize hrest : p.drop (64 * k) = rest at *
    have HREST := hide (p := rest = p.drop (64 * (p.length / 64))) (by rw [← hrest, hka])
    clear hrest hka
    generalize shaRun k shaInit p = s1 at *
    have hs1 := hide (p := s1.length = 8) (by rw [HS.out]; exact shaRun_len _ _ _ rfl)
    have RP := hide hrp; have BS := hide hbS; have BK := hide hbK; have BH := hide hbH; have KW := hide hkw
    clear hrp hbS hbK hbH hkw
    have hr63 : r < 64 := by omega
    have hd : decide ((64 : Int) ≤ (r : Int)) = false := by simp; omega
    rw [hr]
    have HRR := hide hr; clear hr
    go_upto_if 30 with (first
      | (change wpList _ _ _ ({ dst := some 6, op := .alloc _, type := _, pos := _, after := _, guard := _ } :: _) _ _
         refine wpA rfl _ rfl _ info128 ?_; intro L0 w8 hL hbL hk8)
      | (at_builtin; fail)
      | (change wpList _ _ _ ({ dst := some 26, op := _, type := _, pos := _, after := _, guard := _ } :: _) _ _
         generalize hG : wpList _ _ _ _ _ _ = G))
    rw [← hG]; clear hG G
    have hK0 : K0 < L0 := Nat.lt_of_lt_of_le BK.out.lt hL
    refine wpC rfl _ _ _ _ rfl 5 Tryz.underlying82 size1 A' L0 0 128 128 r _ rfl rfl _ _ hbL (rest.map BV) (by rw [List.length_map, HR64.out]; exact (Nat.min_eq_left (by omega)).symm) (RP.out.rd.kept hk8 (by simp)) (by rw [List.length_map, HR64.out, show Value.cells (.agg (bcells (List.replicate 128 0))) = bcells (List.replicate 128 0) from rfl, bcells_size, List.length_replicate]; omega) (bv_one _) r (by simp [HR64.out]) ?_
    intro w9 hbL9 hk9
    rw [show Value.cells (.agg (bcells (List.replicate 128 0))) = bcells (List.replicate 128 0) from rfl, last0_cells] at hbL9
    have k9 : Kept [] wr w9 := hk8.then_ hk9 (by simp; omega)
    have BL := hide hbL9
    have BS9 := hide (BS.out.kept k9 (by simp)); have BK9 := hide (BK.out.kept k9 (by simp)); have BH9 := hide (BH.out.kept k9 (by simp)); have KW9 := hide (KW.out.then_ k9 (by simp))
    clear hbL9 hbL hk8 hk9 k9 BS BK BH KW RP
    have hll : (rest ++ List.replicate (128 - rest.length) (0 : UInt8)).length = 128 := by simp [HR64.out]; omega
    have cl := BL.out.byte' (i := r) (o := r) (by rw [hll]; omega) rfl
    have fl := BL.out.frozen r
    have hr128 : (r : Int) < 128 := by omega
    have HLL := hide hll; clear hll
    go_upto_if 30 with fail
    have BL0 := hide (p := Blk (w9.setCell ⟨L0, r, none⟩ (.int .u8 128)) L0 133 (bcells (shaLast0 rest))) (by
      have := BL.out.setByte r 128
      unfold shaLast0
      rw [HR64.out] at this ⊢
      exact this)
    have hll : (shaLast0 rest).length = 128 := by unfold shaLast0; rw [List.length_set]; exact HLL.out
    have BS9' := hide (BS9.out.far (p := ⟨L0, r, none⟩) (by simp; omega) (.int .u8 128))
    have BK9' := hide (BK9.out.far (p := ⟨L0, r, none⟩) (by simp; omega) (.int .u8 128))
    have BH9' := hide (BH9.out.far (p := ⟨L0, r, none⟩) (by simp; omega) (.int .u8 128))
    have KW9' := hide (KW9.out.setCell (p := ⟨L0, r, none⟩) (.inr (by show w.heap.size ≤ L0; omega)) (.int .u8 128))
    have HL2 := hide hll
    clear hll BS9 BK9 BH9 KW9 cl fl BL HLL
    generalize w9.setCell ⟨L0, r, none⟩ (.int .u8 128) = wa at *
    go_cut [8] (fun v8 w' => ∃ E : Nat, v8 = .int .i64 (E : Int) ∧ Hid (E = if r < 56 then 64 else 128) ∧ w' = wa)
    case first =>
      by_cases h56 : (56 : Int) ≤ r
      · go_wp2
        go_meet
        case rel => exact ⟨128, rfl, hide (by rw [if_neg (by omega)]), rfl⟩
      go_wp2
      go_meet
      case rel => exact ⟨64, rfl, hide (by rw [if_pos (by omega)]), rfl⟩
    case rest =>
      obtain ⟨E, rfl, HE, rfl⟩ := hcut
      have he1 : 64 ≤ E := by rw [HE.out]; split <;> omega
      have he2 : E ≤ 128 := by rw [HE.out]; split <;> omega
      have HE3 := hide (p := E = 64 ∨ E = 128) (by rw [HE.out]; split <;> omega)
      have hpl : p.length ≤ 140737488355328 := by omega
      have hconv : IntKind.u64.wrap (p.length : Int) = U64 (UInt64.ofNat p.length) := by
        rw [U64_lit _ (by omega)]; exact IntWalk.u64_in _ (by omega)
      go_wp2
      clear hconv
      obtain ⟨D, hD⟩ : ∃ D, D = shl64 (UInt64.ofNat p.length) 3 := ⟨_, rfl⟩
      rw [← hD]
      have HD := hide hD; clear hD
      obtain ⟨wo, rfl⟩ : ∃ wo : World, wo = wc := ⟨_, rfl⟩
      go_loopw [35] (fun v wq => ∃ j : Nat, j ≤ 8 ∧ v = .int .i64 (j : Int) ∧ Blk wq L0 133 (bcells (shaLast (shaLast0 rest) E D j)) ∧ Kept [L0] wo wq) (fun v _ => 8 - (intOf v).toNat)
      case atStart => exact ⟨0, by omega, rfl, BL0.out, Kept.refl _ _⟩
      case round =>
        obtain ⟨j, hj, rfl, hbl, hkl⟩ := hrel
        have hsl : (shaLast (shaLast0 rest) E D j).length = 128 := by rw [shaLast_len]; exact HL2.out
        by_cases hlt8 : j < 8
        · have x1 : IntKind.i64.wrap ((E : Int) - 1) = E - 1 := IntWalk.i64_in _ (by omega)
          have x2 : IntKind.i64.wrap ((E : Int) - 1 - j) = E - 1 - j := IntWalk.i64_in _ (by omega)
          have x3 : IntKind.i64.wrap (8 * (j : Int)) = 8 * j := IntWalk.i64_in _ (by omega)
          have x4 : (0 : Int) ≤ E - 1 - j := by omega
          have x5 : (E : Int) - 1 - j < 128 := by omega
          have x6 : ((E : Int) - 1 - j).toNat = E - 1 - j := by omega
          have x7 : (8 * (j : Int)).toNat = 8 * j := by omega
          have x8 : (0 : Int) ≤ 8 * (j : Int) := by omega
          have cl := hbl.byte' (i := E - 1 - j) (o := E - 1 - j) (by omega) rfl
          have fl := hbl.frozen (E - 1 - j)
          have HBL := hide hbl; have HKL := hide hkl; clear hbl hkl hsl
          go_wp2
          go_roundw
          case rel => exact ⟨j + 1, by omega, by go_num, HBL.out.setByte _ _, HKL.out.setCell (.inl (by simp)) _⟩
          case measure => simp [intOf]; omega
        have hj8 : j = 8 := by omega
        obtain ⟨L, hL⟩ : ∃ L, shaLast (shaLast0 rest) E D j = L := ⟨_, rfl⟩
        rw [hL] at hbl hsl
        have HL8 := hide (p := L = shaLast (shaLast0 rest) E D 8) (by rw [← hL, hj8])
        have hd8 : decide ((j : Int) < 8) = false := by simp; omega
        clear hL hj8
        have HBL := hide hbl; have HSL := hide hsl
        have BS2 := hide (BS9'.out.kept hkl (by simp; omega)); have BK2 := hide (BK9'.out.kept hkl (by simp; omega)); have BH2 := hide (BH9'.out.kept hkl (by simp; omega)); have KW2 := hide (KW9'.out.then_ hkl (by simp; omega))
        clear hbl hsl hkl BL0 BS9' BK9' BH9' KW9'
        go_wp2
        obtain ⟨wo2, rfl⟩ : ∃ wo : World, wo = wr := ⟨_, rfl⟩
        go_loopw [11] (fun v wq => ∃ j : Nat, 64 * j ≤ E ∧ v = .int .i64 (64 * (j : Int)) ∧ Blk wq S0 131 (wcells (shaRun j s1 L)) ∧ Kept [S0] wo2 wq) (fun v _ => E - (intOf v).toNat)
        case atStart => exact ⟨0, by omega, rfl, BS2.out, Kept.refl _ _⟩
        case round =>
          obtain ⟨j2, hj2, rfl, hbs, hks⟩ := hrel
          by_cases hlt9 : 64 * j2 < E
          · have y1 : 64 * (j2 : Int) < E := by omega
            have y2 : 0 ≤ 64 * (j2 : Int) := by omega
            have y3 : 64 * (j2 : Int) ≤ 128 := by omega
            have y4 : (64 * (j2 : Int)).toNat = 64 * j2 := by omega
            have HBS := hide hbs; have HKS := hide hks
            have HBL2 := hide (HBL.out.kept hks (by simp; omega)); have HBK2 := hide (BK2.out.kept hks (by simp; omega))
            clear hbs hks
            have hE64 : 64 * j2 + 64 ≤ 128 := by omega
            go_wp2_with fail
            (with_reducible refine (dTakeN _ _ _ _ _ _ _ (L.drop (64 * j2)) (shaRun_len _ _ _ hs1.out) HBS.out HBK2.out (rd_at HBL2.out _) (by rw [List.length_drop, HSL.out]) (by omega) (by omega)).mono ?_)
            rintro e w10 ⟨rfl, hbS10, hk10⟩
            go_wp2
            go_roundw
            case rel => exact ⟨j2 + 1, by have := HE3.out; omega, by rw [show 64 * ((j2 + 1 : Nat) : Int) = 64 * (j2 : Int) + 64 by omega], by rw [shaRun_succ]; exact hbS10, HKS.out.then_ hk10 (by simp)⟩
            case measure => simp [intOf]; omega
          have hjE : j2 = E / 64 := by
            rcases Nat.lt_or_ge r 56 with h | h
            · have := HE.out; rw [if_pos h] at this; omega
            have := HE.out; rw [if_neg (by omega)] at this; omega
          obtain ⟨s2, hs2⟩ : ∃ s2, shaRun j2 s1 L = s2 := ⟨_, rfl⟩
          have HS2 := hide (p := s2 = shaRun (E / 64) s1 L) (by rw [← hs2, hjE])
          have HS2L := hide (p := s2.length = 8) (by rw [← hs2]; exact shaRun_len _ _ _ hs1.out)
          rw [hs2] at hbs
          have hd9 : decide (64 * (j2 : Int) < E) = false := by simp; omega
          have y2 : 0 ≤ 64 * (j2 : Int) := by omega
          have BS3 := hide hbs
          have BH3 := hide (BH2.out.kept hks (by simp; omega)); have KW3 := hide (KW2.out.then_ hks (by simp; omega))
          clear hs2 hjE hbs hks BS2 BK2 BH2 KW2 HBL
          go_wp2_with (change wpList _ _ _ ({ dst := some 57, op := .load _ _, type := _, pos := _, after := _, guard := _ } :: _) _ _
                       refine wpL rfl _ _ rfl S0 rfl _ _ _ BS3.out Tryz.underlying131 rfl (size8 HS2L.out) ?_)
          obtain ⟨wo3, rfl⟩ : ∃ wo : World, wo = wr := ⟨_, rfl⟩
          go_loopw [58] (fun v wq => ∃ j : Nat, j ≤ 8 ∧ v = .int .i64 (j : Int) ∧ Blk wq H0 36 (bcells (shaOut s2 j (List.replicate 32 0))) ∧ Kept [H0] wo3 wq) (fun v _ => 8 - (intOf v).toNat)
          case atStart => exact ⟨0, by omega, rfl, BH3.out, Kept.refl _ _⟩
          case round =>
            obtain ⟨j3, hj3, rfl, hbh, hkh⟩ := hrel
            have hol : (shaOut s2 j3 (List.replicate 32 0)).length = 32 := by rw [shaOut_len, List.length_replicate]
            by_cases hlt10 : j3 < 8
            · have z0 : IntKind.i64.wrap (4 * (j3 : Int)) = 4 * j3 := IntWalk.i64_in _ (by omega)
              have z1 : IntKind.i64.wrap (4 * (j3 : Int) + 1) = 4 * j3 + 1 := IntWalk.i64_in _ (by omega)
              have z2 : IntKind.i64.wrap (4 * (j3 : Int) + 2) = 4 * j3 + 2 := IntWalk.i64_in _ (by omega)
              have z3 : IntKind.i64.wrap (4 * (j3 : Int) + 3) = 4 * j3 + 3 := IntWalk.i64_in _ (by omega)
              have a0 : 0 ≤ 4 * (j3 : Int) := by omega
              have a1 : 0 ≤ 4 * (j3 : Int) + 1 := by omega
              have a2 : 0 ≤ 4 * (j3 : Int) + 2 := by omega
              have a3 : 0 ≤ 4 * (j3 : Int) + 3 := by omega
              have b0 : 4 * (j3 : Int) < 32 := by omega
              have b1 : 4 * (j3 : Int) + 1 < 32 := by omega
              have b2 : 4 * (j3 : Int) + 2 < 32 := by omega
              have b3 : 4 * (j3 : Int) + 3 < 32 := by omega
              have t0 : (4 * (j3 : Int)).toNat = 4 * j3 := by omega
              have t1 : (4 * (j3 : Int) + 1).toNat = 4 * j3 + 1 := by omega
              have t2 : (4 * (j3 : Int) + 2).toNat = 4 * j3 + 2 := by omega
              have t3 : (4 * (j3 : Int) + 3).toNat = 4 * j3 + 3 := by omega
              have c0 := hbh.byte' (i := 4 * j3) (o := 4 * j3) (by omega) rfl
              have c1 := hbh.byte' (i := 4 * j3 + 1) (o := 4 * j3 + 1) (by omega) rfl
              have c2 := hbh.byte' (i := 4 * j3 + 2) (o := 4 * j3 + 2) (by omega) rfl
              have c3 := hbh.byte' (i := 4 * j3 + 3) (o := 4 * j3 + 3) (by omega) rfl
              have f0 := hbh.frozen (4 * j3)
              have f1 := hbh.frozen (4 * j3 + 1)
              have f2 := hbh.frozen (4 * j3 + 2)
              have f3 := hbh.frozen (4 * j3 + 3)
              have hidx := idxW s2 HS2L.out j3 hlt10
              have HBH := hide hbh; have HKH := hide hkh; clear hbh hkh hol
              go_wp2
              go_roundw
              case rel => exact ⟨j3 + 1, by omega, by go_num, (((HBH.out.setByte _ _).setByte _ _).setByte _ _).setByte _ _, (((HKH.out.setCell (.inl (by simp)) _).setCell (.inl (by simp)) _).setCell (.inl (by simp)) _).setCell (.inl (by simp)) _⟩
              case measure => simp [intOf]; omega
            have hj8' : j3 = 8 := by omega
            have HOUT := hide (p := shaOut s2 j3 (List.replicate 32 0) = sha p) (by
              rw [hj8']; exact sha_of p rest L r E D s1 s2 HREST.out HR64.out HE.out HD.out HL8.out HS.out HS2.out)
            rw [HOUT.out] at hbh
            have HBH := hide hbh
            have HKW := hide (KW3.out.then_ hkh (by simp; omega))
            have hd10 : decide ((j3 : Int) < 8) = false := by simp; omega
            clear hbh hkh hol hj8'
            go_wp2_with (first
              | (change wpList _ _ _ ({ dst := some 89, op := .load _ _, type := _, pos := _, after := _, guard := _ } :: _) _ _
                 refine wpL rfl _ _ rfl H0 rfl _ _ _ HBH.out Tryz.underlying36 rfl (by rw [bcells_size, sha_len]; exact sizeHash) ?_)
              | (change wpList _ _ _ ({ dst := none, op := .store 36 _ _, type := _, pos := _, after := _, guard := _ } :: _) _ _
                 refine wpS rfl _ _ _ rfl H0 rfl (.agg (bcells (sha p))) rfl _ _ HBH.out (by rw [Value.cells, bcells_size, sha_len]; exact sizeHash) rfl (bcells_one _) ?_
                 intro w11 hb11 hk11))
            refine bodyPost_ret (results_cell_row rfl _ _ _ _ _ _ _ rfl hb11 Tryz.underlying36 rfl (by rw [Value.cells, bcells_size, sha_len]; exact sizeHash)) rfl ⟨rfl, ?_⟩
            exact HKW.out.then_ hk11 (by simp; omega)
end
section
set_option maxHeartbeats 400000 in
theorem rR (w : World) (x : UInt32) (n : Int) (h0 : 0 ≤ n) (hn : n ≤ 32) :
    Calls Tryz.prog 63 #[.int .u32 (U32 x), .int .u64 n] w fun e w' => e = .returned (.int .u32 (U32 (rot x n.toNat))) ∧ w = w' := by
  obtain ⟨n, rfl⟩ := Int.eq_ofNat_of_zero_le h0
  go_enter Tryz.func63, Tryz.ntmps63
  have h2 : IntKind.u64.wrap (32 - (n : Int)) = 32 - (n : Int) := IntWalk.u64_in _ (by omega)
  have h3 : (32 - (n : Int)).toNat = 32 - n := by omega
  go_wp2
  go_ret
  exact ⟨rfl, rfl⟩
set_option maxHeartbeats 400000 in
set_option maxRecDepth 100000 in
theorem rKs (w : World) :
    Calls Tryz.prog 44 #[] w fun e w' => e = .returned (.agg (wcells shaK)) ∧ Kept [] w w' := by
  go_enter Tryz.func44, Tryz.ntmps44
  go_wp2_with (first
    | (refine wpList_alloc_row rfl _ rfl _ info64 ?_; intro w1 hb1 hg1 hz1 hd1)
    | (refine wpList_store_row rfl _ _ _ rfl _ _ rfl _ rfl _ _ hb1 size64 (Nat.le_of_eq (by kernel_rfl)) oneK ?_
       intro w2 hb2 hg2 hz2 hd2))
  rw [splice_all _ _ (by kernel_rfl)] at hb2
  refine bodyPost_ret (results_cell_row rfl _ _ _ _ _ _ _ rfl hb2 Tryz.underlying103 rfl size64) rfl ⟨?_, ?_⟩
  · show Ending.returned (.agg _) = _
    rw [wcells, litK]; rfl
  exact (Kept.of_grown hg1 (by simp)).then_ (Kept.of_grown (S := [w.heap.size]) hg2 (by simp)) (by simp)

theorem size8r {s : List UInt32} (h : s.length = 8) : (Tryz.prog.info? 102).map (·.size) = some (wcells s).size := by
  rw [wcells_size, h]; kernel_rfl
theorem info8r : (Tryz.prog.info? 102).bind (·.zero) = some (.agg (wcells (List.replicate 8 0))) := by kernel_rfl

set_option maxRecDepth 100000 in
set_option maxHeartbeats 4000000 in
theorem rBlock (w : World) (kb : Nat) (s : List UInt32) (a : Addr) (n c : Nat) (bs : List UInt8) (hs8 : s.length = 8)
    (hk : Blk w kb 103 (wcells shaK)) (hr : ∀ i v, (bs.map BV)[i]? = some v → w.cell? (a.add i) = some v)
    (hn : bs.length = n) (hl : 64 ≤ n) (hm : n ≤ 140737488355328) :
    Calls Tryz.prog 45 #[.agg (wcells s), .slice (some a) n c, .pointer (some ⟨kb, 0, none⟩)] w
      fun e w' => e = .returned (.agg (wcells (shaBlock s bs))) ∧ Kept [] w w' := by
  subst hn
  have HS8 := hide hs8; clear hs8
  have HK := hide hk; have HR := hide hr; clear hk hr
  go_enter Tryz.func45, Tryz.ntmps45
  go_wp2_with (first
    | (change wpList _ _ _ ({ dst := some 3, op := .box _ _, type := _, pos := _, after := _, guard := _ } :: _) _ _
       refine wpB rfl _ _ rfl (.agg (wcells s)) rfl ?_; intro S0 w1 hS0 hbs1 hk1)
    | (change wpList _ _ _ ({ dst := some 6, op := .alloc _, type := _, pos := _, after := _, guard := _ } :: _) _ _
       refine wpA rfl _ rfl _ info8r ?_; intro R0 w2 hR0 hbr2 hk2)
    | (change wpList _ _ _ ({ dst := some 7, op := .alloc _, type := _, pos := _, after := _, guard := _ } :: _) _ _
       refine wpA rfl _ rfl _ info64 ?_; intro W0 w3 hW0 hbw3 hk3))
  have o1 : S0 < R0 := Nat.lt_of_lt_of_le hbs1.lt hR0
  have o2 : R0 < W0 := Nat.lt_of_lt_of_le hbr2.lt hW0
  have HB := hide (p := Blk w3 W0 103 (wcells (shaFill bs 0))) hbw3
  have HSB := hide (p := Blk w3 S0 102 (wcells s)) ((hbs1.kept hk2 (by simp)).kept hk3 (by simp))
  have HRB := hide (p := Blk w3 R0 102 (wcells (List.replicate 8 0))) (hbr2.kept hk3 (by simp))
  have HG := hide ((hk1.trans hk2).trans hk3)
  clear hbw3 hbs1 hbr2 hk1 hk2 hk3 hR0 hW0
  go_loopw [8] (fun i wr => ∃ k : Nat, k ≤ 16 ∧ i = .int .i64 k ∧ Blk wr W0 103 (wcells (shaFill bs k)) ∧ Kept [W0] w3 wr) (fun i _ => 16 - (intOf i).toNat)
  case atStart => exact ⟨0, by omega, rfl, HB.out, Kept.refl _ _⟩
  case round =>
    obtain ⟨k, hk16, rfl, hbk, hkk⟩ := hrel
    have HBK := hide hbk; have HKK := hide hkk; clear hbk hkk HB
    have HWK := hide (HG.out.then_ HKK.out (by simp; omega))
    by_cases hlt : k < 16
    ·
      -- <<
      have c0 := HWK.out.cell_some (rd_byte HR.out (4 * k) (by omega)) (by simp)
      have c1 := HWK.out.cell_some (rd_byteS HR.out (4 * k + 1) (by omega) (by omega)) (by simp)
      have c2 := HWK.out.cell_some (rd_byteS HR.out (4 * k + 2) (by omega) (by omega)) (by simp)
      have c3 := HWK.out.cell_some (rd_byteS HR.out (4 * k + 3) (by omega) (by omega)) (by simp)
      have cw := HBK.out.word (i := k) (by rw [shaFill_len]; omega)
      have fw := HBK.out.frozen k
      have w0 : IntKind.i64.wrap (4 * (k : Int)) = 4 * (k : Int) := IntWalk.i64_in _ (by omega)
      have l0 : 0 ≤ 4 * (k : Int) := by omega
      have u0 : 4 * (k : Int) < (bs.length : Int) := by omega
      have n0 : (4 * (k : Int)).toNat = 4 * k := by omega
      have w1 : IntKind.i64.wrap (4 * (k : Int) + 1) = 4 * (k : Int) + 1 := IntWalk.i64_in _ (by omega)
      have l1 : 0 ≤ 4 * (k : Int) + 1 := by omega
      have u1 : 4 * (k : Int) + 1 < (bs.length : Int) := by omega
      have n1 : (4 * (k : Int) + 1).toNat = 4 * k + 1 := by omega
      have w2 : IntKind.i64.wrap (4 * (k : Int) + 2) = 4 * (k : Int) + 2 := IntWalk.i64_in _ (by omega)
      have l2 : 0 ≤ 4 * (k : Int) + 2 := by omega
      have u2 : 4 * (k : Int) + 2 < (bs.length : Int) := by omega
      have n2 : (4 * (k : Int) + 2).toNat = 4 * k + 2 := by omega
      have w3 : IntKind.i64.wrap (4 * (k : Int) + 3) = 4 * (k : Int) + 3 := IntWalk.i64_in _ (by omega)
      have l3 : 0 ≤ 4 * (k : Int) + 3 := by omega
      have u3 : 4 * (k : Int) + 3 < (bs.length : Int) := by omega
      have n3 : (4 * (k : Int) + 3).toNat = 4 * k + 3 := by omega
      have k64 : (k : Int) < 64 := by omega
      go_wp2
      go_still_tail 35, (by kernel_rfl)
      change wpList _ _ _ _ _ wr.drew
      go_wp2
      go_roundw
      case rel => exact ⟨k + 1, by omega, by go_num, (HBK.out.setWord k _).drew, (HKK.out.setCell (.inl (by simp)) _).drew⟩
      case measure => simp [intOf]; omega
      -- >>
    have hk16 : k = 16 := by omega
    obtain ⟨ws0, hws0⟩ : ∃ ws0, shaFill bs k = ws0 := ⟨_, rfl⟩
    have HW0' := hide (p := ws0 = shaFill bs 16) (by rw [← hws0, hk16])
    have hw0l := hide (p := ws0.length = 64) (by rw [← hws0]; exact shaFill_len _ _)
    have hd : decide ((k : Int) < 16) = false := by simp; omega
    rw [hws0] at HBK
    clear hws0 hk16
    have HSB2 := hide (HSB.out.kept HKK.out (by simp; omega)); have HRB2 := hide (HRB.out.kept HKK.out (by simp; omega))
    clear HSB HRB HG
    go_wp2
    obtain ⟨wo, rfl⟩ : ∃ wo : World, wo = wr := ⟨_, rfl⟩
    go_loopw [9] (fun i wq => ∃ k : Nat, 16 ≤ k ∧ k ≤ 64 ∧ i = .int .i64 k ∧ Blk wq W0 103 (wcells (shaExt ws0 (k - 16))) ∧ Kept [W0] wo wq) (fun i _ => 64 - (intOf i).toNat)
    case atStart => exact ⟨16, by omega, by omega, rfl, HBK.out, Kept.refl _ _⟩
    case round =>
      obtain ⟨k, hk1, hk2, rfl, hbk, hkk⟩ := hrel
      have HBK := hide hbk; have HKQ := hide hkk; clear hbk hkk
      by_cases hlt : k < 64
      ·
        -- <<
        have hlen : (shaExt ws0 (k - 16)).length = 64 := shaExt_len _ hw0l.out _
        have d0 := HBK.out.word' (i := k - 16) (o := k - 16) (by omega) rfl
        have d1 := HBK.out.word' (i := k - 16 + 1) (o := k - 15) (by omega) (by omega)
        have d2 := HBK.out.word' (i := k - 16 + 9) (o := k - 7) (by omega) (by omega)
        have d3 := HBK.out.word' (i := k - 16 + 14) (o := k - 2) (by omega) (by omega)
        have d4 := HBK.out.word' (i := k) (o := k) (by omega) rfl
        have fw := HBK.out.frozen k
        have HLEN := hide hlen; clear hlen
        have q16 : IntKind.i64.wrap ((k : Int) - 16) = k - 16 := IntWalk.i64_in _ (by omega)
        have q15 : IntKind.i64.wrap ((k : Int) - 15) = k - 15 := IntWalk.i64_in _ (by omega)
        have q7 : IntKind.i64.wrap ((k : Int) - 7) = k - 7 := IntWalk.i64_in _ (by omega)
        have q2 : IntKind.i64.wrap ((k : Int) - 2) = k - 2 := IntWalk.i64_in _ (by omega)
        have p16 : (16 : Int) ≤ k := by omega
        have p15 : (15 : Int) ≤ k := by omega
        have p7 : (7 : Int) ≤ k := by omega
        have p2 : (2 : Int) ≤ k := by omega
        have r16 : (k : Int) - 16 < 64 := by omega
        have r15 : (k : Int) - 15 < 64 := by omega
        have r7 : (k : Int) - 7 < 64 := by omega
        have r2 : (k : Int) - 2 < 64 := by omega
        have k64 : (k : Int) < 64 := by omega
        have t16 : ((k : Int) - 16).toNat = k - 16 := by omega
        have t15 : ((k : Int) - 15).toNat = k - 15 := by omega
        have t7 : ((k : Int) - 7).toNat = k - 7 := by omega
        have t2 : ((k : Int) - 2).toNat = k - 2 := by omega
        go_wp2
        go_still_tail 29, (by kernel_rfl)
        still_call (flip_ (rR _ _ _ (by omega) (by omega)) rfl)
        repeat still_step
        still_call (flip_ (rR _ _ _ (by omega) (by omega)) rfl)
        repeat still_step
        still_call (flip_ (rR _ _ _ (by omega) (by omega)) rfl)
        repeat still_step
        still_call (flip_ (rR _ _ _ (by omega) (by omega)) rfl)
        repeat still_step
        refine wpStill_nil ?_
        change wpList _ _ _ _ _ wr.drew
        go_wp2
        go_roundw
        case rel => exact ⟨k + 1, by omega, by omega, by go_num, by rw [shaExt_step _ _ hk1]; exact (HBK.out.setWord k _).drew, (HKQ.out.setCell (.inl (by simp)) _).drew⟩
        case measure => simp [intOf]; omega
        -- >>
      have hk64 : k = 64 := by omega
      obtain ⟨ws, hws⟩ : ∃ ws, shaExt ws0 (k - 16) = ws := ⟨_, rfl⟩
      have HWS := hide (p := ws = shaExt ws0 48) (by rw [← hws, hk64])
      have HWL := hide (p := ws.length = 64) (by rw [← hws]; exact shaExt_len _ hw0l.out _)
      rw [hws] at HBK
      have hd2 : decide ((k : Int) < 64) = false := by simp; omega
      clear hws hk64
      have HSB3 := hide (HSB2.out.kept HKQ.out (by simp; omega)); have HRB3 := hide (HRB2.out.kept HKQ.out (by simp; omega))
      have HWQ := hide (HWK.out.then_ HKQ.out (by simp; omega))
      clear HSB2 HRB2 HWK HKQ HKK
      go_wp2_with (first
        | (change wpList _ _ _ ({ dst := some 99, op := .load _ _, type := _, pos := _, after := _, guard := _ } :: _) _ _
           refine wpL rfl _ _ rfl S0 rfl _ _ _ HSB3.out Tryz.underlying102 rfl (size8r HS8.out) ?_)
        | (change wpList _ _ _ ({ dst := some 12, op := .alloc _, type := _, pos := _, after := _, guard := _ } :: _) _ _
           refine wpA rfl _ rfl _ info8r ?_; intro V0 w5 hV0 hbv5 hk5)
        | (change wpList _ _ _ ({ dst := none, op := .store _ _ _, type := _, pos := _, after := _, guard := _ } :: _) _ _
           refine wpS rfl _ _ _ rfl V0 rfl (.agg (wcells s)) rfl _ _ hbv5 (size8r HS8.out) (by rw [Value.cells, Value.cells, wcells_size, wcells_size, HS8.out]; rfl) (wcells_one s) ?_
           intro w6 hbv6 hk6))
      have o3 : W0 < V0 := Nat.lt_of_lt_of_le HBK.out.lt hV0
      have k6 := hk5.then_ hk6 (by simp; omega)
      have HV := hide (p := Blk w6 V0 102 (wcells (shaRounds ws s 0))) hbv6
      have HWB := hide (HBK.out.kept k6 (by simp)); have HSB4 := hide (HSB3.out.kept k6 (by simp)); have HRB4 := hide (HRB3.out.kept k6 (by simp))
      have HW6 := hide (HWQ.out.then_ k6 (by simp))
      clear hbv5 hbv6 hk5 hk6 k6 hV0 HSB3 HRB3 HWQ HBK
      go_loopw [13] (fun i wv => ∃ j : Nat, j ≤ 64 ∧ i = .int .i64 j ∧ Blk wv V0 102 (wcells (shaRounds ws s j)) ∧ Kept [V0] w6 wv) (fun i _ => 64 - (intOf i).toNat)
      case atStart => exact ⟨0, by omega, rfl, HV.out, Kept.refl _ _⟩
      case round =>
        obtain ⟨j, hj, rfl, hbv, hkv⟩ := hrel
        by_cases hlt : j < 64
        ·
          have hvl : (shaRounds ws s j).length = 8 := shaRounds_len _ _ HS8.out _
          have HSR := hide (p := shaRounds ws s (j + 1) = shaStep ws (shaRounds ws s j) j) rfl
          generalize shaRounds ws s j = v at *
          have HBV := hide hbv; have HKV := hide hkv; have HVL := hide hvl
          clear hbv hkv hvl HV
          have j64 : (j : Int) < 64 := by omega
          obtain ⟨c0, c1, c2, c3, c4, c5, c6, c7⟩ := HBV.out.words8 HVL.out
          go_wp2
          refine wp_region_still_lit (by kernel_rfl) (by kernel_rfl) ?_
          repeat still_step
          refine wpStill_nil ?_
          change Exit.then _ _ Exit.normal _ wr.drew
          have HBV1 := hide HBV.out.drew; have HKV1 := hide HKV.out.drew
          clear c0 c1 c2 c3 c4 c5 c6 c7 HBV HKV
          generalize wr.drew = wd at *
          obtain ⟨c0, c1, c2, c3, c4, c5, c6, c7⟩ := HBV1.out.words8 HVL.out
          have cw := (HWB.out.kept HKV1.out (by simp; omega)).word (i := j) (by rw [HWL.out]; omega)
          have ck := ((HK.out.kept HW6.out (by simp)).kept HKV1.out (by simp; have := HK.out.lt; omega)).word (i := j) (by show j < 64; omega)
          go_wp2
          refine wp_region_still_lit (by kernel_rfl) (by kernel_rfl) ?_
          repeat still_step
          still_call (flip_ (rR _ _ _ (by omega) (by omega)) rfl)
          repeat still_step
          still_call (flip_ (rR _ _ _ (by omega) (by omega)) rfl)
          repeat still_step
          still_call (flip_ (rR _ _ _ (by omega) (by omega)) rfl)
          repeat still_step
          refine wpStill_nil ?_
          change Exit.then _ _ Exit.normal _ wd.drew
          have HBV2 := hide HBV1.out.drew; have HKV2 := hide HKV1.out.drew
          clear c0 c1 c2 c3 c4 c5 c6 c7 cw ck HBV1 HKV1
          generalize wd.drew = we at *
          obtain ⟨c0, c1, c2, c3, c4, c5, c6, c7⟩ := HBV2.out.words8 HVL.out
          go_wp2
          refine wp_region_still_lit (by kernel_rfl) (by kernel_rfl) ?_
          repeat still_step
          still_call (flip_ (rR _ _ _ (by omega) (by omega)) rfl)
          repeat still_step
          still_call (flip_ (rR _ _ _ (by omega) (by omega)) rfl)
          repeat still_step
          still_call (flip_ (rR _ _ _ (by omega) (by omega)) rfl)
          repeat still_step
          refine wpStill_nil ?_
          change Exit.then _ _ Exit.normal _ we.drew
          have HBV3 := hide HBV2.out.drew; have HKV3 := hide HKV2.out.drew
          clear c0 c1 c2 c3 c4 c5 c6 c7 HBV2 HKV2
          generalize we.drew = wf at *
          obtain ⟨c0, c1, c2, c3, c4, c5, c6, c7⟩ := HBV3.out.words8 HVL.out
          go_wp2_with (change wpList _ _ _ ({ dst := none, op := .store _ _ _, type := _, pos := _, after := _, guard := _ } :: _) _ _
                       refine wpS rfl _ _ _ rfl V0 rfl (.agg (wcells (shaStep ws v j))) rfl _ _ HBV3.out (size8r rfl) (by rw [Value.cells, wcells_size, wcells_size, HVL.out]; rfl) (wcells_one _) ?_
                       intro w9 hb9 hk9)
          have HB9 := hide hb9
          clear hb9 c0 c1 c2 c3 c4 c5 c6 c7
          go_roundw
          case rel => exact ⟨j + 1, by omega, by go_num, by rw [HSR.out]; exact HB9.out, HKV3.out.then_ hk9 (by simp)⟩
          case measure => simp [intOf]; omega
        have hj64 : j = 64 := by omega
        have HADD := hide (p := shaAdd (shaRounds ws s 64) s 8 = shaBlock s bs) (by unfold shaBlock; rw [← HW0'.out, ← HWS.out])
        have hvl : (shaRounds ws s j).length = 8 := shaRounds_len _ _ HS8.out _
        rw [← hj64] at HADD
        generalize shaRounds ws s j = v at *
        have hd3 : decide ((j : Int) < 64) = false := by simp; omega
        clear hj64
        have HBV := hide hbv; have HVL := hide hvl
        have HSB5 := hide (HSB4.out.kept hkv (by simp; omega)); have HRB5 := hide (HRB4.out.kept hkv (by simp; omega))
        have HW7 := hide (HW6.out.then_ hkv (by simp; omega))
        clear hbv hvl hkv HV HWB HW6 HSB4 HRB4
        go_wp2
        obtain ⟨wp, rfl⟩ : ∃ wo : World, wo = wr := ⟨_, rfl⟩
        go_loopw [18] (fun i wz => ∃ j : Nat, j ≤ 8 ∧ i = .int .i64 j ∧ Blk wz S0 102 (wcells (shaAdd v s j)) ∧ Kept [S0] wp wz) (fun i _ => 8 - (intOf i).toNat)
        case atStart => exact ⟨0, by omega, rfl, HSB5.out, Kept.refl _ _⟩
        case round =>
          obtain ⟨j, hj, rfl, hbs, hkv⟩ := hrel
          have hal : (shaAdd v s j).length = 8 := shaAdd_len _ _ HS8.out _
          by_cases hlt : j < 8
          · have cv := (HBV.out.kept hkv (by simp; omega)).word (i := j) (by rw [HVL.out]; omega)
            have cs := hbs.word (i := j) (by rw [hal]; omega)
            have fs := hbs.frozen j
            have j8 : (j : Int) < 8 := by omega
            have HBS2 := hide hbs; have HKV2 := hide hkv
            clear hbs hkv hal HSB5
            go_wp2
            go_still_tail 9, (by kernel_rfl)
            change wpList _ _ _ _ _ wr.drew
            go_wp2
            go_roundw
            case rel => exact ⟨j + 1, by omega, by go_num, (HBS2.out.setWord j _).drew, (HKV2.out.setCell (.inl (by simp)) _).drew⟩
            case measure => simp [intOf]; omega
          have hj8 : j = 8 := by omega
          rw [hj8, HADD.out] at hbs
          have HBS2 := hide hbs
          have HRB6 := hide (HRB5.out.kept hkv (by simp; omega))
          have HW8 := hide (HW7.out.then_ hkv (by simp; omega))
          have hd4 : decide ((j : Int) < 8) = false := by simp; omega
          clear hj8 hbs hkv hal
          have HOL := hide (p := (shaBlock s bs).length = 8) (shaBlock_len _ _ HS8.out)
          go_wp2_with (first
            | (change wpList _ _ _ ({ dst := some 195, op := .load _ _, type := _, pos := _, after := _, guard := _ } :: _) _ _
               refine wpL rfl _ _ rfl S0 rfl _ _ _ HBS2.out Tryz.underlying102 rfl (size8r HOL.out) ?_)
            | (change wpList _ _ _ ({ dst := none, op := .store _ _ _, type := _, pos := _, after := _, guard := _ } :: _) _ _
               refine wpS rfl _ _ _ rfl R0 rfl (.agg (wcells (shaBlock s bs))) rfl _ _ HRB6.out (size8r HOL.out) (by rw [Value.cells, wcells_size, wcells_size, HOL.out]; rfl) (wcells_one _) ?_
               intro w11 hb11 hk11))
          refine bodyPost_ret (results_cell_row rfl _ _ _ _ _ _ _ rfl hb11 Tryz.underlying102 rfl (size8r HOL.out)) rfl ⟨rfl, ?_⟩
          exact HW8.out.then_ hk11 (by simp; omega)
end
section
/-- what an element type is: its zero, its cells, its bytes -/
structure ElemT (P : Program) (t e : TypeId) (z : Value) (size bytes : Nat) : Prop where
  slice : P.underlying t = some (.slice e)
  info : ∃ i, P.info? e = some i ∧ i.zero = some z ∧ i.size = size ∧ i.bytes = bytes
  zsize : z.cells.size = size
  pos : 0 < size

theorem ElemT.mk' {P : Program} {t e : TypeId} {z : Value} {size bytes : Nat} (h1 : P.underlying t = some (.slice e))
    (h2 : (P.info? e).map (fun i => (i.zero, i.size, i.bytes)) = some (some z, size, bytes)) (h3 : z.cells.size = size) (h4 : 0 < size) : ElemT P t e z size bytes := by
  refine ⟨h1, ?_, h3, h4⟩
  cases hq : P.info? e with
  | none => rw [hq] at h2; cases h2
  | some i =>
    rw [hq] at h2
    simp only [Option.map_some, Option.some.injEq, Prod.mk.injEq] at h2
    exact ⟨i, rfl, h2.1, h2.2.1, h2.2.2⟩

section
variable {P : Program} {ops : Array Oper} {rest : List Oper} {o : Oper} {a : Go.Act} {w : World} {Q : Exit → Go.Act → World → Prop}

theorem run_append_gen (w : World) {t ty e : TypeId} {z : Value} {size bytes : Nat} (ht : ElemT P t e z size bytes) (base : Nat)
    (v : Value) (n : Nat) (xs : List Value) (hown : w.ownsRow base e size v n xs)
    (A : Option Addr) (m c : Nat) (news : List Value) (hl : news.length = m * size) (hr : Rd w A news) (h1 : ∀ u ∈ news, u.oneCell' = true)
    (h63 : n + m ≤ maxLen) (hbytes : (n + m) * bytes ≤ 140737488355328) (hbase : base ≤ w.heap.size) :
    ∃ v' w', (Builtin.append_ #[t, t] ty #[v, .slice A m c]).run P w = .ok v' w' ∧ w'.ownsRow base e size v' (n + m) (xs ++ news) ∧ w.grownBy w' v.ownBlock ∧
      (v'.ownBlock = v.ownBlock ∨ v'.ownBlock = some w.heap.size) := by
  obtain ⟨i, hi, hz, hsz, hby⟩ := ht.info
  rcases Nat.eq_zero_or_pos news.length with h0 | h0
  · have hm : m = 0 := by
      rcases Nat.eq_zero_or_pos m with h | h
      · exact h
      have := Nat.mul_pos h ht.pos; omega
    subst hm
    have hn : news = [] := List.eq_nil_of_length_eq_zero h0
    subst hn
    cases A with
    | none =>
      refine ⟨v, w, ?_, by simpa using hown, World.grownBy.refl w _, .inl rfl⟩
      rcases hown.2 with ⟨rfl, rfl⟩ | ⟨g, cap, cur, rfl, _, _, hnc, _⟩
      · simp [Builtin.append_, run_underlying ht.slice, sizeOf, typeInfo, hi, Builtin.lenOf, Builtin.firstCells]
      simp [Builtin.append_, run_underlying ht.slice, sizeOf, typeInfo, hi, Builtin.lenOf, Builtin.firstCells, hnc, storeCells]
    | some ad =>
      obtain ⟨v', w', hrun, h2, h3, _, h5⟩ := run_append_own_at (P := P) w base t ty e i z size bytes ht.slice hi hz hsz hby ht.zsize ht.pos v n xs hown ad 0 c [] (by simp) (by simp) (by simp) h63 hbytes hbase
      exact ⟨v', w', hrun, h2, h3, h5⟩
  obtain ⟨ad, rfl, hc⟩ := hr h0
  obtain ⟨v', w', hrun, h2, h3, _, h5⟩ := run_append_own_at (P := P) w base t ty e i z size bytes ht.slice hi hz hsz hby ht.zsize ht.pos v n xs hown ad m c news hl hc h1 h63 hbytes hbase
  exact ⟨v', w', hrun, h2, h3, h5⟩

theorem wpAp_gen (hgd : o.guard = none) (s x : Operand) (t : TypeId)
    (ho : o.op = .call { callee := .builtin .append, args := #[s, x], argTypes := #[t, t] }) {e : TypeId} {z : Value} {size bytes : Nat} (ht : ElemT P t e z size bytes) (base : Nat)
    (v : Value) (n : Nat) (xs : List Value) (hs : a.eval s = v) (hown : w.ownsRow base e size v n xs)
    (A : Option Addr) (m c : Nat) (news : List Value) (hx : a.eval x = .slice A m c) (hl : news.length = m * size) (hr : Rd w A news) (h1 : ∀ u ∈ news, u.oneCell' = true)
    (h63 : n + m ≤ maxLen) (hbytes : (n + m) * bytes ≤ 140737488355328) (hbase : base ≤ w.heap.size)
    (h : ∀ v' w', w'.ownsRow base e size v' (n + m) (xs ++ news) → Kept v.ownBlock.toList w w' → (∀ g, v'.ownBlock = some g → v.ownBlock = some g ∨ w.heap.size ≤ g) → wpList P ops Q rest (a.put o.dst v') w') :
    wpList P ops Q (o :: rest) a w := by
  obtain ⟨v', w', hrun, h2, h3, h4⟩ := run_append_gen (P := P) (ty := o.type) w ht base v n xs hown A m c news hl hr h1 h63 hbytes hbase
  refine wpList_plain hgd fun _ hK => ?_
  unfold Oper.wp execOp
  simp only [ho, resolve, invoke, builtin, Sem.run_bind, Sem.run_pure, Result.andThen_ok, List.map_toArray, List.map_cons, List.map_nil, hs, hx, hrun]
  refine hK _ _ (h v' w' h2 (Kept.of_grown h3 (fun k hk => .inl (by simp [hk]))) (fun g hg => ?_))
  rcases h4 with h4 | h4
  · exact .inl (h4 ▸ hg)
  rw [h4] at hg; injection hg with hg; exact .inr (by omega)

/-- a slice that is built -/
theorem wpBS (hgd : o.guard = none) (t : TypeId) (n : Nat) (parts : Array (Nat × Operand)) (ho : o.op = .buildSlice t n parts) (cs : Array Value) (e : TypeId)
    (vs : Array (Nat × Value)) (hvs : (parts.map fun (i, x) => (i, a.eval x)) = vs) (hrun : ∀ w, (Instr.buildSlice t n vs).run P w = .ok (.slice (some ⟨w.heap.size, 0, none⟩) n n) (w.alloc (.cells cs e)))
    (h : ∀ (g : Nat) (w' : World), w.heap.size ≤ g → Blk w' g e cs → Kept [] w w' → wpList P ops Q rest (a.put o.dst (.slice (some ⟨g, 0, none⟩) n n)) w') : wpList P ops Q (o :: rest) a w :=
  wpList_plain hgd fun _ hK => by
    unfold Oper.wp execOp
    simp only [ho, hvs, Sem.run_bind, hrun]
    exact hK _ _ (h _ _ (Nat.le_refl _) (Blk.new w e cs) ((Kept.refl [] w).alloc _))
end

/-- where a cut of a slice begins -/
def cutA (A : Option Addr) (c l size : Nat) : Option Addr := if c = l then A else A.map (·.add (l * size))
theorem Rd.cut {w : World} {A : Option Addr} {xs : List Value} (h : Rd w A xs) (c l : Nat) (hc : xs.length ≤ c) : Rd w (cutA A c l 1) (xs.drop l) := by
  intro hl
  rw [List.length_drop] at hl
  have h2 := h.drop l c (by omega) hc
  unfold cutA
  rw [Nat.mul_one]
  exact h2 (by rw [List.length_drop]; omega)
theorem RdB.cut {B : Nat} {w : World} {A : Option Addr} {xs : List Value} (h : RdB B w A xs) (c l : Nat) (hc : xs.length ≤ c) : RdB B w (cutA A c l 1) (xs.drop l) := by
  intro hl
  rw [List.length_drop] at hl
  have h2 := h.drop l c (by omega) hc
  unfold cutA
  rw [Nat.mul_one]
  exact h2 (by rw [List.length_drop]; omega)
section
variable {P : Program}
theorem run_cut (w : World) {t e : TypeId} {z : Value} {size bytes : Nat} (ht : ElemT P t e z size bytes) (A : Option Addr) (n c : Nat) (kl kh : IntKind) (l h : Nat) (hl : l ≤ h) (hh : h ≤ c) :
    (Instr.sliceAt t (.slice A n c) (some (.int kl (l : Int))) (some (.int kh (h : Int))) none).run P w = .ok (.slice (cutA A c l size) (h - l) (c - l)) w := by
  obtain ⟨i, hi, _, hsz, _⟩ := ht.info
  have a1 : (0 : Int) ≤ (h : Int) ∧ (h : Int) ≤ (c : Int) := by omega
  have a2 : (0 : Int) ≤ (l : Int) ∧ (l : Int) ≤ (h : Int) := by omega
  simp [Instr.sliceAt, Instr.slice, run_underlying ht.slice, Instr.sliceBounds, Instr.sliceBound, asIntOf, hl, hh, sizeOf, typeInfo, hi, hsz, cutA]
end

/-! ### bytes -/
theorem byteT : ElemT Tryz.prog 82 5 (.int .u8 0) 1 1 := ElemT.mk' Tryz.underlying82 (by kernel_rfl) rfl (by omega)

/-- a slice of bytes of one's own, in a block from N on -/
def OwnS (N : Nat) (w : World) (v : Value) (xs : List UInt8) : Prop := w.ownsRow N 5 1 v xs.length (xs.map BV)
theorem OwnS.nil (N : Nat) (w : World) : OwnS N w (.slice none 0 0) [] := World.ownsRow_nil w N _ 1
theorem OwnS.of_blk {N g : Nat} {w : World} {xs : List UInt8} (h : Blk w g 5 (bcells xs)) (hN : N ≤ g) (hm : xs.length ≤ maxLen) : OwnS N w (.slice (some ⟨g, 0, none⟩) xs.length xs.length) xs :=
  ⟨by simp, .inr ⟨g, xs.length, bcells xs, rfl, hN, h, Nat.le_refl _, hm, by simp [bcells], by rw [bcells]; exact List.take_of_length_le (by simp)⟩⟩
theorem OwnS.kept {N : Nat} {w w' : World} {v : Value} {xs : List UInt8} {S : List Nat} (h : OwnS N w v xs) (hk : Kept S w w') (hS : ∀ g, v.ownBlock = some g → g ∉ S) : OwnS N w' v xs := by
  refine ⟨h.1, ?_⟩
  rcases h.2 with h2 | ⟨g, cap, cur, rfl, hb, hg, r⟩
  · exact .inl h2
  exact .inr ⟨g, cap, cur, rfl, hb, Blk.kept (t := 5) hg hk (hS g rfl), r⟩
theorem OwnS.lo {N : Nat} {w : World} {v : Value} {xs : List UInt8} (h : OwnS N w v xs) {g : Nat} (hg : v.ownBlock = some g) : N ≤ g := (h.lt g hg).1
theorem OwnS.keptLo {N : Nat} {w w' : World} {v : Value} {xs : List UInt8} {S : List Nat} (h : OwnS N w v xs) (hk : Kept S w w') (hS : ∀ g, g ∈ S → g < N) : OwnS N w' v xs :=
  h.kept hk (fun g hg hm => by have := h.lo hg; have := hS g hm; omega)
theorem OwnS.form {N : Nat} {w : World} {v : Value} {xs : List UInt8} (h : OwnS N w v xs) : ∃ A c, v = .slice A xs.length c ∧ Rd w A (xs.map BV) ∧ xs.length ≤ c ∧ c ≤ maxLen ∧ (∀ a, A = some a → N ≤ a.block) := by
  rcases h.2 with ⟨rfl, h0⟩ | ⟨g, cap, cur, rfl, hb, hg, hnc, hcm, hcs, htake⟩
  · refine ⟨none, 0, by rw [h0], fun hl => ?_, by omega, by simp [maxLen], by simp⟩
    rw [List.length_map] at hl; omega
  refine ⟨some ⟨g, 0, none⟩, cap, rfl, fun _ => ⟨_, rfl, fun i v hv => ?_⟩, hnc, hcm, fun a ha => by injection ha with ha; subst ha; exact hb⟩
  exact World.ownsRow.cells h (g := g) rfl i v hv
theorem OwnS.mono {N N' : Nat} {w : World} {v : Value} {xs : List UInt8} (h : OwnS N w v xs) (hN : N' ≤ N) : OwnS N' w v xs := by
  refine ⟨h.1, ?_⟩
  rcases h.2 with h2 | ⟨g, cap, cur, rfl, hb, r⟩
  · exact .inl h2
  exact .inr ⟨g, cap, cur, rfl, by omega, r⟩
theorem OwnS.inKept {N : Nat} {w : World} {v : Value} {xs : List UInt8} {S : List Nat} {M : Nat} (h : OwnS N w v xs) (hM : M ≤ N) : ∀ i, i ∈ v.ownBlock.toList → i ∈ S ∨ M ≤ i := by
  intro i hi
  have := h.lo (g := i) (by simpa using hi)
  exact .inr (by omega)

section
variable {ops : Array Oper} {rest : List Oper} {o : Oper} {a : Go.Act} {w : World} {Q : Exit → Go.Act → World → Prop}
theorem wpAp (hgd : o.guard = none) (s x : Operand)
    (ho : o.op = .call { callee := .builtin .append, args := #[s, x], argTypes := #[82, 82] }) (base : Nat)
    (v : Value) (xs : List UInt8) (hs : a.eval s = v) (hown : OwnS base w v xs)
    (A : Option Addr) (m c : Nat) (ys : List UInt8) (hx : a.eval x = .slice A m c) (hl : ys.length = m) (hr : Rd w A (ys.map BV))
    (hbytes : xs.length + ys.length ≤ 140737488355328) (hbase : base ≤ w.heap.size)
    (h : ∀ v' w', OwnS base w' v' (xs ++ ys) → Kept v.ownBlock.toList w w' → (∀ g, v'.ownBlock = some g → v.ownBlock = some g ∨ w.heap.size ≤ g) → wpList Tryz.prog ops Q rest (a.put o.dst v') w') :
    wpList Tryz.prog ops Q (o :: rest) a w := by
  subst hl
  refine wpAp_gen hgd s x _ ho byteT base v xs.length (xs.map BV) hs hown A ys.length c (ys.map BV) hx (by simp) hr (bv_one _) (by simp only [maxLen]; omega) (by omega) hbase ?_
  intro v' w' h2 h3 h4
  refine h v' w' ?_ h3 h4
  unfold OwnS
  rw [List.length_append, List.map_append]
  exact h2
end
theorem run_cut8 (w : World) (A : Option Addr) (n c : Nat) (kl kh : IntKind) (l h : Int) (h0 : 0 ≤ l) (h1 : l ≤ h) (h2 : h ≤ (c : Int)) :
    (Instr.sliceAt 82 (.slice A n c) (some (.int kl l)) (some (.int kh h)) none).run Tryz.prog w = .ok (.slice (cutA A c l.toNat 1) (h.toNat - l.toNat) (c - l.toNat)) w := by
  obtain ⟨l, rfl⟩ := Int.eq_ofNat_of_zero_le h0
  obtain ⟨h, rfl⟩ := Int.eq_ofNat_of_zero_le (Int.le_trans h0 h1)
  exact run_cut w byteT A n c kl kh l h (by omega) (by omega)
theorem bs0 (w : World) : (Instr.buildSlice 82 0 #[]).run Tryz.prog w = .ok (.slice (some ⟨w.heap.size, 0, none⟩) 0 0) (w.alloc (.cells #[] 5)) := by
  go_simp
theorem bs1 (x : UInt8) (w : World) : (Instr.buildSlice 82 1 #[(0, .int .u8 (U8 x))]).run Tryz.prog w = .ok (.slice (some ⟨w.heap.size, 0, none⟩) 1 1) (w.alloc (.cells #[.int .u8 (U8 x)] 5)) := by
  go_simp
end
section
theorem be32_congr (b b' : List UInt8) (i : Nat) (h : ∀ t, t < 4 * i + 4 → b8 b t = b8 b' t) : be32 b i = be32 b' i := by
  unfold be32
  rw [h (4 * i) (by omega), h (4 * i + 1) (by omega), h (4 * i + 2) (by omega), h (4 * i + 3) (by omega)]
theorem shaFill_congr (b b' : List UInt8) : ∀ (k : Nat), (∀ t, t < 4 * k → b8 b t = b8 b' t) → shaFill b k = shaFill b' k
  | 0, _ => rfl
  | k+1, h => by
    rw [shaFill, shaFill, shaFill_congr b b' k (fun t ht => h t (by omega)), be32_congr b b' k (fun t ht => h t (by omega))]
theorem shaBlock_congr (s : List UInt32) (b b' : List UInt8) (h : ∀ t, t < 64 → b8 b t = b8 b' t) : shaBlock s b = shaBlock s b' := by
  unfold shaBlock; rw [shaFill_congr b b' 16 h]
theorem b8_take (b : List UInt8) (k t : Nat) (h : t < k) : b8 (b.take k) t = b8 b t := by
  unfold b8; simp [List.getD, h]
theorem b8_drop (b : List UInt8) (k t : Nat) : b8 (b.drop k) t = b8 b (k + t) := by
  unfold b8; simp [List.getD, List.getElem?_drop]
theorem shaBlock_take (s : List UInt32) (b : List UInt8) : shaBlock s (b.take 64) = shaBlock s b :=
  shaBlock_congr s _ _ fun t ht => b8_take b 64 t ht
theorem shaRun_congr : ∀ (k : Nat) (s : List UInt32) (m m' : List UInt8), (∀ t, t < 64 * k → b8 m t = b8 m' t) → shaRun k s m = shaRun k s m'
  | 0, _, _, _, _ => rfl
  | k+1, s, m, m', h => by
    rw [shaRun, shaRun, shaBlock_congr s m m' (fun t ht => h t (by omega))]
    exact shaRun_congr k _ _ _ fun t ht => by rw [b8_drop, b8_drop]; exact h _ (by omega)
theorem shaRun_add : ∀ (i j : Nat) (s : List UInt32) (m : List UInt8), shaRun (i + j) s m = shaRun j (shaRun i s m) (m.drop (64 * i))
  | 0, j, s, m => by simp [shaRun]
  | i+1, j, s, m => by
    rw [show i + 1 + j = (i + j) + 1 by omega, shaRun, shaRun_add i j, shaRun, List.drop_drop]
    congr 2
    omega

def lenB (N : UInt64) (j : Nat) : List UInt8 := (List.range j).map fun t => c64to8 (shr64 N (8 * (7 - t)))
theorem lenB_succ (N : UInt64) (j : Nat) : lenB N (j + 1) = lenB N j ++ [c64to8 (shr64 N (8 * (7 - j)))] := by
  unfold lenB; rw [List.range_succ, List.map_append]; rfl
def refZ (n : Nat) : Nat := (119 - n % 64) % 64
def refPad (p : List UInt8) : List UInt8 := p ++ [0x80] ++ List.replicate (refZ p.length) 0 ++ lenB (mul64 (UInt64.ofNat p.length) 8) 8
def refOut (s : List UInt32) : Nat → List UInt8 → List UInt8
  | 0, h => h
  | i+1, h => (refOut s i h).set i (c32to8 (shr32 (w32 s (i / 4)) (24 - 8 * (i % 4))))
theorem refOut_len (s : List UInt32) (h : List UInt8) (k : Nat) : (refOut s k h).length = h.length := by
  induction k with
  | zero => rfl
  | succ k ih => simp [refOut, ih]
def refSha (p : List UInt8) : List UInt8 := refOut (shaRun ((refPad p).length / 64) shaInit (refPad p)) 32 (List.replicate 32 0)

theorem shr32_0 (x : UInt32) : shr32 x 0 = x := by
  unfold shr32; simp
theorem refOut_eq (s : List UInt32) (h : List UInt8) : ∀ k, refOut s (4 * k) h = shaOut s k h
  | 0 => rfl
  | k+1 => by
    rw [show 4 * (k + 1) = 4 * k + 1 + 1 + 1 + 1 by omega]
    simp only [refOut, refOut_eq s h k]
    rw [show (4 * k) / 4 = k by omega, show (4 * k + 1) / 4 = k by omega, show (4 * k + 1 + 1) / 4 = k by omega, show (4 * k + 1 + 1 + 1) / 4 = k by omega,
      show (4 * k) % 4 = 0 by omega, show (4 * k + 1) % 4 = 1 by omega, show (4 * k + 1 + 1) % 4 = 2 by omega, show (4 * k + 1 + 1 + 1) % 4 = 3 by omega]
    rw [show 24 - 8 * 3 = 0 by rfl, shr32_0]
    rfl
theorem bits_eq (n : Nat) : shl64 (UInt64.ofNat n) 3 = mul64 (UInt64.ofNat n) 8 := by
  unfold shl64 mul64
  rw [← UInt64.toNat_inj]
  simp [UInt64.toNat_mul]
theorem b8_append_l (a b : List UInt8) (t : Nat) (h : t < a.length) : b8 (a ++ b) t = b8 a t := by
  unfold b8; simp [List.getD, List.getElem?_append_left h]
theorem b8_append_r (a b : List UInt8) (t : Nat) (h : a.length ≤ t) : b8 (a ++ b) t = b8 b (t - a.length) := by
  unfold b8; simp [List.getD, List.getElem?_append_right h]
theorem b8_rep (n t : Nat) : b8 (List.replicate n 0) t = 0 := by
  unfold b8; simp only [List.getD, List.getElem?_replicate]; split <;> rfl
theorem b8_set (l : List UInt8) (i t : Nat) (x : UInt8) (h : i < l.length) : b8 (l.set i x) t = if i = t then x else b8 l t := by
  unfold b8
  by_cases e : i = t
  · subst e; simp [List.getD, h]
  simp [List.getD, e]
theorem b8_len (N : UInt64) (t : Nat) (h : t < 8) : b8 (lenB N 8) t = c64to8 (shr64 N (8 * (7 - t))) := by
  unfold b8 lenB
  simp [List.getD, h]
theorem b8_last0 (rest : List UInt8) (t : Nat) (h : rest.length < 128) : b8 (shaLast0 rest) t = if rest.length = t then 0x80 else if t < rest.length then b8 rest t else 0 := by
  unfold shaLast0
  rw [b8_set _ _ _ _ (by simp; omega)]
  by_cases e : rest.length = t
  · rw [if_pos e, if_pos e]
  rw [if_neg e, if_neg e]
  by_cases h2 : t < rest.length
  · rw [if_pos h2, b8_append_l _ _ _ h2]
  rw [if_neg h2, b8_append_r _ _ _ (by omega), b8_rep]
theorem b8_last (L : List UInt8) (E : Nat) (D : UInt64) (hE : E ≤ L.length) (h8 : 8 ≤ E) : ∀ (k t : Nat), k ≤ 8 → t < E →
    b8 (shaLast L E D k) t = if E - k ≤ t then c64to8 (shr64 D (8 * (E - 1 - t))) else b8 L t
  | 0, t, _, ht => by rw [if_neg (by omega)]; rfl
  | k+1, t, hk, ht => by
    rw [shaLast, b8_set _ _ _ _ (by rw [shaLast_len]; omega), b8_last L E D hE h8 k t (by omega) ht]
    by_cases e : E - 1 - k = t
    · rw [if_pos e, if_pos (by omega), show E - 1 - t = k by omega]
    rw [if_neg e]
    by_cases h2 : E - k ≤ t
    · rw [if_pos h2, if_pos (by omega)]
    rw [if_neg h2, if_neg (by omega)]

theorem refPad_len (p : List UInt8) : (refPad p).length = p.length + 1 + refZ p.length + 8 := by
  unfold refPad lenB; simp; omega
theorem sha_eq (p : List UInt8) : refSha p = sha p := by
  unfold refSha
  rw [show (32 : Nat) = 4 * 8 by rfl, refOut_eq]
  have hr := List.length_drop (i := 64 * (p.length / 64)) (l := p)
  obtain ⟨r, hr'⟩ : ∃ r, p.length - 64 * (p.length / 64) = r := ⟨_, rfl⟩
  rw [hr'] at hr
  have hr64 : r < 64 := by omega
  refine (congrArg (fun s => shaOut s 8 (List.replicate (4 * 8) 0)) ?_).trans
    (sha_of p _ _ r (if r < 56 then 64 else 128) _ _ _ rfl hr rfl rfl rfl rfl rfl)
  obtain ⟨E, hE⟩ : ∃ E, (if r < 56 then 64 else 128) = E := ⟨_, rfl⟩
  have hE3 : (E = 64 ∧ r < 56) ∨ (E = 128 ∧ 56 ≤ r) := by
    rw [← hE]; split <;> omega
  have hz : refZ p.length = E - 9 - r := by unfold refZ; omega
  rw [hE, refPad_len, hz, show (p.length + 1 + (E - 9 - r) + 8) / 64 = p.length / 64 + E / 64 by omega, shaRun_add]
  have h1 : shaRun (p.length / 64) shaInit (refPad p) = shaRun (p.length / 64) shaInit p :=
    shaRun_congr _ _ _ _ fun t ht => by
      unfold refPad; rw [List.append_assoc, List.append_assoc, b8_append_l _ _ _ (by omega)]
  rw [h1]
  refine shaRun_congr _ _ _ _ fun t ht => ?_
  have htE : t < E := by omega
  rw [b8_drop, b8_last _ _ _ (by unfold shaLast0; simp [hr]; omega) (by omega) 8 t (by omega) htE, b8_last0 _ _ (by omega), hr, bits_eq, b8_drop]
  unfold refPad
  rw [List.append_assoc, List.append_assoc]
  by_cases c1 : t < r
  · rw [b8_append_l _ _ _ (by omega), if_neg (by omega), if_neg (by omega), if_pos c1]
  rw [b8_append_r _ _ _ (by omega)]
  by_cases c2 : r = t
  · rw [if_neg (by omega), if_pos c2, b8_append_l _ _ _ (by simp; omega), show 64 * (p.length / 64) + t - p.length = 0 by omega]; rfl
  rw [b8_append_r _ _ _ (by simp; omega)]
  by_cases c3 : E - 8 ≤ t
  · rw [if_pos c3, b8_append_r _ _ _ (by simp [hz]; omega), b8_len _ _ (by simp [hz]; omega)]
    congr 3
    simp [hz]
    omega
  rw [if_neg c3, if_neg c2, if_neg c1, b8_append_l _ _ _ (by simp [hz]; omega), b8_rep]
end
section
attribute [local go_sem high] run_cut8

theorem wcells8 (s : List UInt32) (h : s.length = 8) : wcells s = #[.int .u32 (U32 (w32 s 0)), .int .u32 (U32 (w32 s 1)), .int .u32 (U32 (w32 s 2)), .int .u32 (U32 (w32 s 3)), .int .u32 (U32 (w32 s 4)), .int .u32 (U32 (w32 s 5)), .int .u32 (U32 (w32 s 6)), .int .u32 (U32 (w32 s 7))] := by
  match s, h with
  | [a, b, c, d, e, f, g, i], _ => rfl
set_option maxRecDepth 100000 in
set_option maxHeartbeats 4000000 in
theorem rSum (w : World) (A : Option Addr) (n c : Nat) (p : List UInt8) (hn : p.length = n) (hr : Rd w A (p.map BV)) (hm : n ≤ 1099511627776) :
    Calls Tryz.prog 29 #[.slice A n c] w fun e w' => e = .returned (.agg (bcells (sha p))) ∧ Kept [] w w' := by
  subst hn
  have HR := hide hr.bound; clear hr
  go_enter Tryz.func29, Tryz.ntmps29
  go_wp2_with (first
    | (change wpList _ _ _ ({ dst := some 2, op := .alloc _, type := _, pos := _, after := _, guard := _ } :: _) _ _
       refine wpA rfl _ rfl _ infoHash ?_; intro H0 w1 hH hbH hk1)
    | (change wpList _ _ _ ({ dst := some 11, op := .buildSlice _ _ _, type := _, pos := _, after := _, guard := _ } :: _) _ _
       refine wpBS rfl _ _ _ rfl #[] _ _ (by simp only [List.map_toArray, List.map_cons, List.map_nil] <;> rfl) bs0 ?_; intro M0 w2 hM hbM hk2
       have own2 : OwnS (H0 + 1) w2 (.slice (some ⟨M0, 0, none⟩) 0 0) [] := OwnS.of_blk (xs := []) hbM (by have := hbH.lt; omega) (by simp))
    | (change wpList _ _ _ ({ dst := some 13, op := _, type := _, pos := _, after := _, guard := _ } :: _) _ _
       refine wpAp rfl _ _ rfl (H0 + 1) (.slice (some ⟨M0, 0, none⟩) 0 0) [] rfl own2 A p.length c p rfl rfl (HR.out.rd.kept (hk1.trans hk2) (by simp)) (by simp; omega) (by have := hbH.lt; have := hk2.size; omega) ?_
       intro v3 w3 own3 hk3 _)
    | (change wpList _ _ _ ({ dst := some 14, op := .buildSlice _ _ _, type := _, pos := _, after := _, guard := _ } :: _) _ _
       refine wpBS rfl _ _ _ rfl #[.int .u8 (U8 0x80)] _ _ (by simp only [List.map_toArray, List.map_cons, List.map_nil] <;> rfl) (bs1 0x80) ?_; intro T0 w4 hT hbT hk4)
    | (change wpList _ _ _ ({ dst := some 15, op := _, type := _, pos := _, after := _, guard := _ } :: _) _ _
       refine wpAp rfl _ _ rfl (H0 + 1) v3 _ rfl (own3.kept hk4 (by simp)) _ 1 _ [0x80] rfl rfl (Blk.rd (xs := [BV 0x80]) hbT) (by simp; omega) (by have := hbH.lt; have := hk2.size; have := hk3.size; have := hk4.size; omega) ?_
       intro v5 w5 own5 hk5 _))
  have hH5 : H0 < w2.heap.size := by have := hbH.lt; have := hk2.size; omega
  have bH := hide ((((hbH.kept hk2 (by simp)).kept hk3 (by simp [Value.ownBlock]; have := hbH.lt; omega)).kept hk4 (by simp)).kept hk5 (by intro hm; have := own3.lo (by simpa using hm); omega))
  have KW := hide ((((hk1.trans hk2).then_ hk3 (own2.inKept (by omega))).trans hk4).then_ hk5 (own3.inKept (by omega)))
  have OW := hide (p := OwnS (H0 + 1) w5 v5 (p ++ [0x80] ++ List.replicate 0 0)) (by simpa using own5)
  clear hbH hk1 hk2 hk3 hk4 hk5 own2 own3 own5 hbM hbT hM hT hH5
  have hzz : refZ p.length < 64 := by unfold refZ; omega
  have hz56 : Hid ((p.length + 1 + refZ p.length) % 64 = 56) := hide (by unfold refZ; omega)
  have hzlt : ∀ z, z < refZ p.length → (p.length + 1 + z) % 64 ≠ 56 := by intro z hz; unfold refZ at hz; omega
  have HZ := hide hzlt; clear hzlt
  go_loopw [3] (fun s3 wr => ∃ z, z ≤ refZ p.length ∧ OwnS (H0 + 1) wr s3 (p ++ [0x80] ++ List.replicate z 0) ∧ Blk wr H0 36 (bcells (List.replicate 32 0)) ∧ Kept [] w wr) (fun v _ => refZ p.length + p.length + 1 - lenV v)
  case atStart => exact ⟨0, by omega, OW.out, bH.out, KW.out⟩
  case round =>
    rename_i s3
    obtain ⟨z, hz, hown, hbh, hkw⟩ := hrel
    clear OW bH KW
    obtain ⟨A3, c3, rfl, hrd, hlc, hcm, hab⟩ := hown.form
    obtain ⟨m, hm⟩ : ∃ m, p ++ [0x80] ++ List.replicate z 0 = m := ⟨_, rfl⟩
    have HM := hide hm
    have hml : m.length = p.length + 1 + z := by rw [← hm]; simp; omega
    rw [hm] at hown hrd hlc ⊢
    clear hm
    obtain ⟨l, hl⟩ : ∃ l, m.length = l := ⟨_, rfl⟩
    rw [hl] at hml hown hlc ⊢
    have HL := hide hl; clear hl
    have OW := hide hown; have RD := hide hrd; have BH := hide hbh; have KW := hide hkw; have HAB := hide hab; have HML := hide hml; have HLC := hide hlc
    clear hown hrd hbh hkw hab hml hlc
    by_cases hlt : z < refZ p.length
    · have hb : ((l : Int) % 64 != 56) = true := by have := HZ.out z hlt; rw [bne_iff_ne]; rw [HML.out]; omega
      have k1 : p.length + 1 + refZ p.length ≤ 1099511627776 + 100 := by omega
      go_wp2_with (first
        | (change wpList _ _ _ ({ dst := some 21, op := .buildSlice _ _ _, type := _, pos := _, after := _, guard := _ } :: _) _ _
           refine wpBS rfl _ _ _ rfl #[.int .u8 (U8 0)] _ _ (by simp only [List.map_toArray, List.map_cons, List.map_nil] <;> rfl) (bs1 0) ?_; intro T1 w6 hT1 hbT1 hk6)
        | (change wpList _ _ _ ({ dst := some 22, op := _, type := _, pos := _, after := _, guard := _ } :: _) _ _
           refine wpAp rfl _ _ rfl (H0 + 1) (.slice A3 l c3) m rfl (OW.out.keptLo hk6 (by simp)) _ 1 _ [0] rfl rfl (Blk.rd (xs := [BV 0]) hbT1) (by rw [HL.out, HML.out]; show _ + 1 ≤ _; omega) (by have := BH.out.lt; have := hk6.size; omega) ?_
           intro v7 w7 own7 hk7 _))
      have HO := hide (show OwnS (H0 + 1) w7 v7 (p ++ [0x80] ++ List.replicate (z + 1) 0) by rw [List.replicate_succ', ← List.append_assoc, HM.out]; exact own7)
      have hbl : ∀ g, g ∈ (Value.slice A3 l c3).ownBlock.toList → H0 < g := by intro g hg; have := OW.out.lo (by simpa using hg); omega
      have HBH7 := hide ((BH.out.kept hk6 (by simp)).kept hk7 (by intro hm; have := hbl _ hm; omega))
      have HK7 := hide ((KW.out.trans hk6).then_ hk7 (by intro g hg; have := hbl _ hg; omega))
      obtain ⟨A7, c7, e7, _, _, _, _⟩ := HO.out.form
      have hlen7 : lenV v7 = p.length + 1 + (z + 1) := by rw [e7]; simp [lenV]; omega
      have HLEN7 := hide hlen7
      clear own7 hk6 hk7 hbl hlen7 e7 hbT1 hT1
      go_roundw
      case rel => exact ⟨z + 1, by omega, HO.out, HBH7.out, HK7.out⟩
      case measure => rw [HLEN7.out]; simp only [lenV]; have := HML.out; omega
    have hze : z = refZ p.length := by omega
    have hb : ((l : Int) % 64 != 56) = false := by have := hz56.out; rw [bne_eq_false_iff_eq]; rw [HML.out, hze]; omega
    have hconv : IntKind.u64.wrap (p.length : Int) = U64 (UInt64.ofNat p.length) := by
      rw [U64_lit _ (by omega)]; exact IntWalk.u64_in _ (by omega)
    have HZE := hide hze; clear hze
    go_wp2
    clear hconv hb
    obtain ⟨N8, hN8⟩ : ∃ N8, N8 = mul64 (UInt64.ofNat p.length) 8 := ⟨_, rfl⟩
    rw [← hN8]
    have HN8 := hide hN8; clear hN8
    have OW2 := hide (p := OwnS (H0 + 1) wr (.slice A3 l c3) (m ++ lenB N8 (8 - 8))) (by rw [show lenB N8 (8 - 8) = [] by rfl, List.append_nil]; exact OW.out)
    obtain ⟨wo, rfl⟩ : ∃ wo : World, wo = wr := ⟨_, rfl⟩
    have hH0 := BH.out.lt
    go_loopw [3, 5] (fun s3 s5 wq => ∃ k : Nat, k ≤ 8 ∧ s5 = .int .i64 ((k : Int) - 1) ∧ OwnS (H0 + 1) wq s3 (m ++ lenB N8 (8 - k)) ∧ Blk wq H0 36 (bcells (List.replicate 32 0)) ∧ Kept [] w wq) (fun _ s5 _ => (intOf s5 + 1).toNat)
    case atStart => exact ⟨8, by omega, rfl, OW2.out, BH.out, KW.out⟩
    case round =>
      rename_i s3 s5
      obtain ⟨k, hk8, rfl, hown, hbh, hkw⟩ := hrel
      obtain ⟨A4, c4, rfl, hrd4, hlc4, hcm4, hab4⟩ := hown.form
      obtain ⟨m4, hm4⟩ : ∃ m4, m ++ lenB N8 (8 - k) = m4 := ⟨_, rfl⟩
      have HM4 := hide hm4
      rw [hm4] at hown hrd4 hlc4 ⊢
      have hml4 : m4.length = l + (8 - k) := by rw [← hm4, List.length_append, HL.out]; simp [lenB]
      clear hm4
      obtain ⟨l4, hl4⟩ : ∃ l4, m4.length = l4 := ⟨_, rfl⟩
      rw [hl4] at hml4 hlc4 hown ⊢
      have HL4 := hide hl4; have HML4 := hide hml4; have OW4 := hide hown; have RD4 := hide hrd4; have BH4 := hide hbh; have KW4 := hide hkw; have HLC4 := hide hlc4; have HAB4 := hide hab4
      clear hown hrd4 hbh hkw hlc4 hml4 hl4 OW2 BH KW hab4
      by_cases hlt : 0 < k
      · obtain ⟨i, rfl⟩ : ∃ i, k = i + 1 := ⟨k - 1, by omega⟩
        have x0 : ((i + 1 : Nat) : Int) - 1 = (i : Int) := by omega
        rw [x0]
        clear x0
        have x1 : (0 : Int) ≤ 8 * (i : Int) := by omega
        have x2 : IntKind.i64.wrap (8 * (i : Int)) = 8 * i := IntWalk.i64_in _ (by omega)
        have x3 : IntKind.u64.wrap (8 * (i : Int)) = 8 * i := IntWalk.u64_in _ (by omega)
        have x4 : (8 * (i : Int)).toNat = 8 * i := by omega
        have x5 : IntKind.i64.wrap ((i : Int) - 1) = i - 1 := IntWalk.i64_in _ (by omega)
        have x6 : p.length + 1 + refZ p.length ≤ 1099511627776 + 100 := by omega
        go_wp2_with (first
          | (change wpList _ _ _ ({ dst := some 38, op := .buildSlice _ _ _, type := _, pos := _, after := _, guard := _ } :: _) _ _
             refine wpBS rfl _ _ _ rfl #[.int .u8 (U8 (c64to8 (shr64 N8 (8 * i))))] _ _ (by simp only [List.map_toArray, List.map_cons, List.map_nil] <;> rfl) (bs1 _) ?_; intro T1 w6 hT1 hbT1 hk6)
          | (change wpList _ _ _ ({ dst := some 39, op := _, type := _, pos := _, after := _, guard := _ } :: _) _ _
             refine wpAp rfl _ _ rfl (H0 + 1) (.slice A4 l4 c4) m4 rfl (OW4.out.keptLo hk6 (by simp)) _ 1 _ [c64to8 (shr64 N8 (8 * i))] rfl rfl (Blk.rd (xs := [BV _]) hbT1) (by rw [HL4.out, HML4.out]; show _ + 1 ≤ _; have := HML.out; omega) (by have := BH4.out.lt; have := hk6.size; omega) ?_
             intro v7 w7 own7 hk7 _))
        have HO := hide (show OwnS (H0 + 1) w7 v7 (m ++ lenB N8 (8 - i)) by
          rw [show 8 - i = (8 - (i + 1)) + 1 by omega, lenB_succ, ← List.append_assoc, HM4.out, show 8 * (7 - (8 - (i + 1))) = 8 * i by omega]; exact own7)
        have hbl : ∀ g, g ∈ (Value.slice A4 l4 c4).ownBlock.toList → H0 < g := by intro g hg; have := OW4.out.lo (by simpa using hg); omega
        have HBH7 := hide ((BH4.out.kept hk6 (by simp)).kept hk7 (by intro hm; have := hbl _ hm; omega))
        have HK7 := hide ((KW4.out.trans hk6).then_ hk7 (by intro g hg; have := hbl _ hg; omega))
        clear own7 hk6 hk7 hbl hbT1 hT1
        go_roundw
        case rel => exact ⟨i, by omega, rfl, HO.out, HBH7.out, HK7.out⟩
        case measure => simp [intOf]
      have hk0 : k = 0 := by omega
      have x0 : decide ((0 : Int) ≤ (k : Int) - 1) = false := by simp; omega
      have HMF := hide (p := m4 = refPad p) (by rw [← HM4.out, ← HM.out, HZE.out, hk0, HN8.out]; rfl)
      clear hk0
      go_wp2_with (first
        | (change wpList _ _ _ ({ dst := some 6, op := .alloc _, type := _, pos := _, after := _, guard := _ } :: _) _ _
           refine wpA rfl _ rfl _ info8r ?_; intro S0 w8 hS0 hbS8 hk8)
        | (change wpList _ _ _ ({ dst := none, op := .store 102 _ _, type := _, pos := _, after := _, guard := _ } :: _) _ _
           refine wpS rfl _ _ _ rfl S0 rfl (.agg (wcells shaInit)) initCellsV _ _ hbS8 (size8r rfl) rfl (wcells_one _) ?_
           intro w9 hbS9 hk9)
        | (go_at_call 44; refine (rKs _).mono ?_; rintro e w10 ⟨rfl, hk10⟩)
        | (change wpList _ _ _ ({ dst := some 7, op := .alloc _, type := _, pos := _, after := _, guard := _ } :: _) _ _
           refine wpA rfl _ rfl _ info64 ?_; intro K0 w11 hK0 hbK hk11)
        | (change wpList _ _ _ ({ dst := none, op := .store 103 _ _, type := _, pos := _, after := _, guard := _ } :: _) _ _
           refine wpS rfl _ _ _ rfl K0 rfl (.agg (wcells shaK)) rfl _ _ hbK size64 rfl (wcells_one _) ?_
           intro w12 hbK12 hk12))
      have hHS : H0 < S0 := Nat.lt_of_lt_of_le BH4.out.lt hS0
      have hSK : S0 < K0 := Nat.lt_of_lt_of_le (Nat.lt_of_lt_of_le hbS9.lt hk10.size) hK0
      have hob : ∀ g, (Value.slice A4 l4 c4).ownBlock = some g → g < S0 := by intro g hg; have := (OW4.out.lt g hg).2; omega
      have BH5 := hide (((((BH4.out.kept hk8 (by simp)).kept hk9 (by simp; omega)).kept hk10 (by simp)).kept hk11 (by simp)).kept hk12 (by simp; omega))
      have BS5 := hide (p := Blk w12 S0 102 (wcells (shaRun 0 shaInit m4))) (((hbS9.kept hk10 (by simp)).kept hk11 (by simp)).kept hk12 (by simp; omega))
      have BK5 := hide hbK12
      have OW5 := hide (((((OW4.out.kept hk8 (by simp)).kept hk9 (by intro g hg; have := hob g hg; simp; omega)).kept hk10 (by simp)).kept hk11 (by simp)).kept hk12 (by intro g hg; have := hob g hg; simp; omega))
      have hws := KW4.out.size
      have KW5 := hide (((((KW4.out.trans hk8).then_ hk9 (by simp; omega)).trans hk10).trans hk11).then_ hk12 (by simp; omega))
      have HOB := hide hob
      clear hbS8 hbS9 hbK hbK12 hk8 hk9 hk10 hk11 hk12 hS0 hK0 hob BH4 KW4 OW4 RD4 x0
      have hl64 : Hid (l4 % 64 = 0) := hide (by have h1 := HML4.out; have h2 := HML.out; have h3 := HZE.out; have h4 := hz56.out; omega)
      have hl4b : l4 ≤ 1099511627776 + 200 := by have h1 := HML4.out; have h2 := HML.out; omega
      obtain ⟨wo2, rfl⟩ : ∃ wo : World, wo = w12 := ⟨_, rfl⟩
      go_loopw [8] (fun s8 wq => ∃ j : Nat, 64 * j ≤ l4 ∧ s8 = .int .i64 (64 * (j : Int)) ∧ Blk wq S0 102 (wcells (shaRun j shaInit m4)) ∧ Kept [S0] wo2 wq) (fun s8 _ => l4 - (intOf s8).toNat)
      case atStart => exact ⟨0, by omega, rfl, BS5.out, Kept.refl _ _⟩
      case round =>
        rename_i s8
        obtain ⟨j, hj, rfl, hbs, hks⟩ := hrel
        have hsl := hide (shaRun_len j shaInit m4 rfl)
        by_cases hlt : 64 * j < l4
        · have hj64 : 64 * j + 64 ≤ l4 := by have := hl64.out; omega
          have RD5 := hide ((OW5.out.kept hks (by intro g hg; have := HOB.out g hg; simp; omega)).form)
          obtain ⟨A5, c5, e5, hrd5, _, _, _⟩ := RD5.out
          simp only [Value.slice.injEq] at e5
          obtain ⟨e51, e52, e53⟩ := e5
          clear e52
          subst e51 e53
          obtain ⟨a4, rfl, hcell⟩ := hrd5 (by rw [List.length_map, HL4.out]; omega)
          have HC := hide hcell; clear hcell hrd5 RD5
          obtain ⟨sv, hsv⟩ : ∃ sv, shaRun j shaInit m4 = sv := ⟨_, rfl⟩
          have HSV := hide hsv
          rw [hsv] at hsl hbs
          clear hsv
          obtain ⟨c0, c1, c2, c3, c4', c5', c6, c7⟩ := hbs.words8 hsl.out
          have HBS := hide hbs; have HKS := hide hks
          have BK6 := hide (BK5.out.kept hks (by simp; omega))
          clear hbs hks
          have y1 : 64 * (j : Int) < (l4 : Int) := by omega
          have y2 : 0 ≤ 64 * (j : Int) := by omega
          have y3 : IntKind.i64.wrap (64 * (j : Int) + 64) = 64 * j + 64 := IntWalk.i64_in _ (by omega)
          have y4 : (64 * (j : Int)).toNat = 64 * j := by omega
          have y5 : (64 * (j : Int) + 64).toNat = 64 * j + 64 := by omega
          have y6 : 64 * (j : Int) + 64 ≤ (l4 : Int) := by omega
          have y7 : 64 * j + 64 ≤ c4 := by have := HLC4.out; omega
          have y8 : 64 * (j : Int) + 64 ≤ (c4 : Int) := by omega
          have y9 : 64 * (j : Int) ≤ 64 * (j : Int) + 64 := by omega
          have y10 : 64 * j + 64 - 64 * j = 64 := by omega
          go_wp2
          go_still_tail 6, (by kernel_rfl)
          change wpList _ _ _ _ _ wr.drew
          have RD6 := hide (((OW5.out.kept HKS.out (by intro g hg; have := HOB.out g hg; simp; omega)).form))
          have HC6 : Rd wr.drew (cutA (some a4) c4 (64 * j) 1) (((m4.drop (64 * j)).take 64).map BV) := by
            have h1 : Rd wr.drew (some a4) (m4.map BV) := fun _ => ⟨a4, rfl, HC.out⟩
            have h2 := (h1.cut c4 (64 * j) (by rw [List.length_map, HL4.out]; exact HLC4.out)).take 64
            rwa [← List.map_drop, ← List.map_take] at h2
          obtain ⟨a5, ha5, hc5⟩ := HC6 (by rw [List.length_map, List.length_take, List.length_drop, HL4.out]; omega)
          have HBS1 := hide HBS.out.drew; have HKS1 := hide HKS.out.drew; have BK7 := hide BK6.out.drew; have HC5 := hide hc5
          clear HC6 hc5 HBS HKS BK6 RD6 c0 c1 c2 c3 c4' c5' c6 c7
          generalize wr.drew = wd at *
          rw [ha5, ← wcells8 sv hsl.out]
          clear ha5
          go_wp2_with fail
          (with_reducible refine (rBlock _ _ sv a5 64 _ ((m4.drop (64 * j)).take 64) hsl.out BK7.out HC5.out (by rw [List.length_take, List.length_drop, HL4.out]; omega) (by omega) (by omega)).mono ?_)
          rintro e w13 ⟨rfl, hk13⟩
          have HB13 := hide (HBS1.out.kept hk13 (by simp))
          have HK13 := hide (HKS1.out.then_ hk13 (by simp))
          clear hk13
          go_wp2_with (change wpList _ _ _ ({ dst := none, op := .store _ _ _, type := _, pos := _, after := _, guard := _ } :: _) _ _
                       refine wpS rfl _ _ _ rfl S0 rfl (.agg (wcells (shaBlock sv ((m4.drop (64 * j)).take 64)))) rfl _ _ HB13.out (size8r (shaBlock_len _ _ hsl.out)) (by rw [Value.cells, wcells_size, wcells_size, shaBlock_len _ _ hsl.out, hsl.out]) (wcells_one _) ?_
                       intro w14 hb14 hk14)
          have HB14 := hide (show Blk w14 S0 102 (wcells (shaRun (j + 1) shaInit m4)) by rw [shaRun_succ, HSV.out, ← shaBlock_take]; exact hb14)
          have HK14 := hide (HK13.out.then_ hk14 (by simp))
          clear hb14 hk14
          go_roundw
          case rel => exact ⟨j + 1, by omega, by rw [show 64 * ((j + 1 : Nat) : Int) = 64 * (j : Int) + 64 by omega], HB14.out, HK14.out⟩
          case measure => simp [intOf]; omega
        have hje : j = l4 / 64 := by have := hl64.out; omega
        have HSV := hide (p := shaRun j shaInit m4 = shaRun ((refPad p).length / 64) shaInit (refPad p)) (by rw [← HMF.out, HL4.out, hje])
        obtain ⟨sv, hsv⟩ : ∃ sv, shaRun j shaInit m4 = sv := ⟨_, rfl⟩
        rw [hsv] at hsl hbs HSV
        have HBS := hide hbs
        have BH6 := hide (BH5.out.kept hks (by simp; omega))
        have KW6 := hide (KW5.out.then_ hks (by simp; have := KW5.out.size; have := BH5.out.lt; omega))
        have x1 : decide (64 * (j : Int) < (l4 : Int)) = false := by simp; omega
        have hSW : S0 < wr.heap.size := hbs.lt
        clear hsv hbs hks hje BS5 BK5 OW5 KW5 BH5
        go_wp2_with (change wpList _ _ _ ({ dst := some 9, op := .alloc _, type := _, pos := _, after := _, guard := _ } :: _) _ _
                     refine wpA rfl _ rfl _ infoHash ?_; intro R0 w15 hR hbR hk15)
        have hSR : S0 < R0 := by omega
        have BR := hide hbR
        have HBS2 := hide (HBS.out.kept hk15 (by simp)); have BH7 := hide (BH6.out.kept hk15 (by simp)); have KW7 := hide (KW6.out.trans hk15)
        clear hbR hk15 hR HBS BH6 KW6
        obtain ⟨wo3, rfl⟩ : ∃ wo : World, wo = w15 := ⟨_, rfl⟩
        go_loopw [10] (fun v wq => ∃ i : Nat, i ≤ 32 ∧ v = .int .i64 (i : Int) ∧ Blk wq R0 36 (bcells (refOut sv i (List.replicate 32 0))) ∧ Kept [R0] wo3 wq) (fun v _ => 32 - (intOf v).toNat)
        case atStart => exact ⟨0, by omega, rfl, BR.out, Kept.refl _ _⟩
        case round =>
          obtain ⟨i, hi, rfl, hbr, hkr⟩ := hrel
          have hol : (refOut sv i (List.replicate 32 0)).length = 32 := by rw [refOut_len, List.length_replicate]
          by_cases hlt : i < 32
          · have cr := hbr.byte' (i := i) (o := i) (by omega) rfl
            have fr := hbr.frozen i
            have cs := (HBS2.out.kept hkr (by simp; omega)).word' (i := i / 4) (o := i / 4) (by rw [hsl.out]; omega) rfl
            have z1 : (0 : Int) ≤ (i : Int) / 4 := by omega
            have z2 : (i : Int) / 4 < 8 := by omega
            have z3 : ((i : Int) / 4).toNat = i / 4 := by omega
            have z4 : IntKind.i64.wrap (8 * ((i : Int) % 4)) = 8 * (i % 4) := IntWalk.i64_in _ (by omega)
            have z5 : IntKind.i64.wrap (24 - 8 * ((i : Int) % 4)) = 24 - 8 * (i % 4) := IntWalk.i64_in _ (by omega)
            have z6 : IntKind.u64.wrap (24 - 8 * ((i : Int) % 4)) = 24 - 8 * (i % 4) := IntWalk.u64_in _ (by omega)
            have z7 : (0 : Int) ≤ 24 - 8 * ((i : Int) % 4) := by omega
            have z7' : 8 * ((i : Int) % 4) ≤ 24 := by omega
            have z8 : (24 - 8 * ((i : Int) % 4)).toNat = 24 - 8 * (i % 4) := by omega
            have z9 : (i : Int) < 32 := by omega
            have HBR := hide hbr; have HKR := hide hkr; clear hbr hkr hol
            go_wp2
            go_roundw
            case rel => exact ⟨i + 1, by omega, by go_num, HBR.out.setByte _ _, HKR.out.setCell (.inl (by simp)) _⟩
            case measure => simp [intOf]; omega
          have hie : i = 32 := by omega
          have HE := hide (p := refOut sv i (List.replicate 32 0) = sha p) (by rw [← sha_eq, refSha, ← HSV.out, hie])
          rw [HE.out] at hbr
          have HBR := hide hbr
          have BH8 := hide (BH7.out.kept hkr (by simp; omega))
          have KW8 := hide (KW7.out.then_ hkr (by simp; have := KW7.out.size; omega))
          have x2 : decide ((i : Int) < 32) = false := by simp; omega
          clear hie hbr hkr hol
          go_wp2_with (first
            | (change wpList _ _ _ ({ dst := some 72, op := .load _ _, type := _, pos := _, after := _, guard := _ } :: _) _ _
               refine wpL rfl _ _ rfl R0 rfl _ _ _ HBR.out Tryz.underlying36 rfl (by rw [bcells_size, sha_len]; exact sizeHash) ?_)
            | (change wpList _ _ _ ({ dst := none, op := .store 36 _ _, type := _, pos := _, after := _, guard := _ } :: _) _ _
               refine wpS rfl _ _ _ rfl H0 rfl (.agg (bcells (sha p))) rfl _ _ BH8.out (by rw [Value.cells, bcells_size, sha_len]; exact sizeHash) (by rw [Value.cells, bcells_size, bcells_size, sha_len]; rfl) (bcells_one _) ?_
               intro w16 hb16 hk16))
          refine bodyPost_ret (results_cell_row rfl _ _ _ _ _ _ _ rfl hb16 Tryz.underlying36 rfl (by rw [Value.cells, bcells_size, sha_len]; exact sizeHash)) rfl ⟨rfl, ?_⟩
          exact KW8.out.then_ hk16 (by simp; omega)
end
section
theorem dSumN (w : World) (A : Option Addr) (n c : Nat) (p : List UInt8) (hn : p.length = n) (hr : Rd w A (p.map BV)) (hc : n ≤ c) (hm : n ≤ 140737488355328) :
    Calls Tryz.prog 42 #[.slice A n c] w fun e w' => e = .returned (.agg (bcells (sha p))) ∧ Kept [] w w' := by
  subst hn; exact dSum w A c p hr hc hm
end
section
theorem Kept.cum {g : Gh} {h : Heap} {w w' : World} (hk : Kept [] w w') : Cum (entry g h w) g h w' :=
  ⟨hk.os, hk.tape, hk.output, hk.size, fun k hlt _ => hk.block k hlt (by simp), fun _ hf => .inl hf, fun _ _ h => h, fun _ _ h => .inl h, fun _ => rfl⟩
theorem WI.kept {g : Gh} {h : Heap} {w w' : World} (hw : WI g h w) (hk : Kept [] w w') : WI g h w' := by
  have hb : ∀ k, k < w.heap.size → w'.heap[k]? = w.heap[k]? := fun k hlt => hk.block k hlt (by simp)
  refine ⟨fun a v ha => ?_, fun i cs hi => ?_, hw.inj, hw.boxM, fun t r hr => ?_, hw.ownB, hw.ownI, fun t r hr => (hw.muta t r hr).same (by obtain ⟨_, h1, _⟩ := hw.own t r hr; exact hb _ (block_lt h1))⟩
  · rw [cell_eq (hb _ (hw.mem_lt ha))]; exact hw.mem a v ha
  · obtain ⟨ys, t, h1, h2⟩ := hw.box i cs hi
    exact ⟨ys, t, by rw [hb _ (block_lt h1)]; exact h1, h2⟩
  obtain ⟨cur, h1, h2⟩ := hw.own t r hr
  exact ⟨cur, by rw [hb _ (block_lt h1)]; exact h1, h2⟩
/-- a contract out of a walk that keeps all -/
theorem Holds.ofKept {P : Program} {f : FuncId} {args : List W} {v : V} (hc : Callable P f)
    (H : ∀ (g : Gh) (w : World) (xs : List Value), All2 (RelW g) args xs → WI g [] w → ∃ y, RelV g v y ∧ Calls P f xs.toArray w fun e w' => e = .returned y ∧ Kept [] w w') : Holds P f args [] (fun r h' => r = v ∧ h' = []) := by
  refine ⟨hc, fun g w xs _ ha hw => ?_⟩
  obtain ⟨y, hy, hcall⟩ := H g w xs ha hw
  refine hcall.mono ?_
  rintro e w' ⟨rfl, hk⟩
  exact ⟨y, v, [], g, rfl, ⟨rfl, rfl⟩, hy, hw.kept hk, hk.cum⟩
/-- what an argument of bytes is -/
theorem byt_arg {g : Gh} {w : World} {bs : List UInt8} {y : Value} (hw : WI g [] w) (h : RelW g (.byt bs) y) : ∃ A n c, y = .slice A n c ∧ bs.length = n ∧ n ≤ c ∧ Rd w A (bs.map BV) := by
  obtain ⟨_, hy⟩ := RelD.lst_inv h.1
  rcases hy with ⟨rfl, hb, _⟩ | ⟨a, n, c, rfl, _, hl, hc, _, hM⟩
  · have : bs = [] := by simpa [Go.Proofs.YtgeelaafmnedmaaGreat.byt] using hb
    subst this
    exact ⟨none, 0, 0, rfl, rfl, Nat.le_refl _, fun h => by simp at h⟩
  refine ⟨some a, n, c, rfl, by rw [Nat.mul_one, byt_len] at hl; exact hl.symm, hc, fun _ => ⟨a, rfl, fun i v hv => ?_⟩⟩
  simp only [List.getElem?_map, Option.map_eq_some_iff] at hv
  obtain ⟨b, hb, rfl⟩ := hv
  obtain ⟨u, hu, hr⟩ := hM i (.val (.int .u8 b.toNat)) (by simp [Go.Proofs.YtgeelaafmnedmaaGreat.byt, hb])
  cases hr
  exact hw.mem _ _ hu
theorem agg_byt {g : Gh} (bs : List UInt8) : RelV g (.w (.agg ((byt bs).map D.toC))) (.agg (bcells bs)) := by
  refine ⟨bcells bs, rfl, ?_⟩
  have : (bcells bs).toList = bs.map BV := by simp [bcells]
  rw [this]
  clear this
  induction bs with
  | nil => exact .nil
  | cons b bs ih => exact .cons ⟨rfl, rfl⟩ ih
theorem callable {f : FuncId} {fn : Func} {c : Code} (hf : Tryz.prog.funcs[f]? = some fn) (hb : fn.body = some c) (hn : (fn.name == "runtime.NumGoroutine") = false) : Callable Tryz.prog f := callable_of hf hb hn
theorem dsum_h (p : List UInt8) (hp : p.length ≤ 140737488355328) : Holds Tryz.prog 42 [.byt p] [] (fun r h' => r = .w (.agg ((byt (sha p)).map D.toC)) ∧ h' = []) := by
  refine Holds.ofKept (callable Tryz.func42 rfl (by decide +kernel)) fun g w xs ha hw => ?_
  obtain ⟨y, xs', rfl, h1, h2⟩ := ha.cons_inv
  obtain rfl := h2.nil_inv
  obtain ⟨A, n, c, rfl, hn, hc, hr⟩ := byt_arg hw h1
  exact ⟨_, agg_byt _, dSumN w A n c p hn hr hc (by omega)⟩
theorem rsum2_h (p : List UInt8) (hp : p.length ≤ 1099511627776) : Holds Tryz.prog 29 [.byt p] [] (fun r h' => r = .w (.agg ((byt (sha p)).map D.toC)) ∧ h' = []) := by
  refine Holds.ofKept (callable Tryz.func29 rfl (by decide +kernel)) fun g w xs ha hw => ?_
  obtain ⟨y, xs', rfl, h1, h2⟩ := ha.cons_inv
  obtain rfl := h2.nil_inv
  obtain ⟨A, n, c, rfl, hn, hc, hr⟩ := byt_arg hw h1
  exact ⟨_, agg_byt _, rSum w A n c p hn hr (by omega)⟩
end
section
/-- a digest -/
structure Hs where
  b : List UInt8
  len : b.length = 32
deriving DecidableEq
theorem Hs.ext' {a b : Hs} (h : a.b = b.b) : a = b := by cases a; cases b; simp only at h; subst h; rfl
def hsC (h : Hs) : List C := (byt h.b).map D.toC
def hs0 : Hs := ⟨List.replicate 32 0, rfl⟩
@[go_sem] theorem hsC_len {h : Hs} : (hsC h).length = 32 := by unfold hsC; rw [List.length_map, byt_len, h.len]
def vdC (ov : Bool) (w y n : Int) (h : Hs) : List C := .val (.bool ov) :: .val (.int .i64 w) :: .val (.int .i64 y) :: .val (.int .i64 n) :: hsC h
section
variable {ov ov' : Bool} {w y n w' y' n' : Int} {h h' : Hs} {V' : V → Prop} {K : C → Prop} {ks : List Id} {m : Nat}
@[go_sem] theorem vd_l : (vdC ov w y n h).length = 36 := by unfold vdC; simp only [List.length_cons, hsC_len]
theorem hs_map {f : C → C} (hf : ∀ x, f (.val x) = .val x) : (hsC h).map f = hsC h := by
  unfold hsC byt
  rw [List.map_map, List.map_map, List.map_map]
  exact List.map_congr_left fun b _ => hf _
theorem vd_map {f : C → C} (hf : ∀ x, f (.val x) = .val x) : (vdC ov w y n h).map f = vdC ov w y n h := by
  unfold vdC
  simp only [List.map_cons, hf, hs_map hf]
@[go_sem] theorem vd_k {bi : Id → Bool} {bt : Tag → Bool} : (vdC ov w y n h).map (C.clean bi bt) = vdC ov w y n h := vd_map fun _ => rfl
@[go_sem] theorem vd_r : (vdC ov w y n h).map (C.ren ks m) = vdC ov w y n h := vd_map fun _ => rfl
@[go_sem] theorem hs_k {bi : Id → Bool} {bt : Tag → Bool} : (hsC h).map (C.clean bi bt) = hsC h := hs_map fun _ => rfl
@[go_sem] theorem hs_r : (hsC h).map (C.ren ks m) = hsC h := hs_map fun _ => rfl
theorem hs_known : (hsC h).all known = true := by
  unfold hsC byt
  rw [List.map_map, List.all_map]
  simp only [List.all_eq_true]
  intro b _; rfl
@[go_sem] theorem hs_n : (hsC h).all known = true := hs_known
@[go_sem] theorem vd_n : (vdC ov w y n h).all known = true := by
  unfold vdC
  simp only [List.all_cons, hs_known, go_sem, Bool.and_true, Bool.true_and]
@[go_sem ↓ 1300] theorem vd_m0 : (∃ c, (vdC ov w y n h)[0]? = some c ∧ K c) = K (.val (.bool ov)) := ex_some rfl
@[go_sem 1300] theorem vd_u0 {x : Bool} : (vdC ov w y n h).set 0 (.val (.bool x)) = (vdC x w y n h) := nr rfl
@[go_sem ↓ 1300] theorem vd_m1 : (∃ c, (vdC ov w y n h)[1]? = some c ∧ K c) = K (.val (.int .i64 w)) := ex_some rfl
@[go_sem 1300] theorem vd_u1 {x : Int} : (vdC ov w y n h).set 1 (.val (.int .i64 x)) = (vdC ov x y n h) := nr rfl
@[go_sem ↓ 1300] theorem vd_m2 : (∃ c, (vdC ov w y n h)[2]? = some c ∧ K c) = K (.val (.int .i64 y)) := ex_some rfl
@[go_sem 1300] theorem vd_u2 {x : Int} : (vdC ov w y n h).set 2 (.val (.int .i64 x)) = (vdC ov w x n h) := nr rfl
@[go_sem ↓ 1300] theorem vd_m3 : (∃ c, (vdC ov w y n h)[3]? = some c ∧ K c) = K (.val (.int .i64 n)) := ex_some rfl
@[go_sem 1300] theorem vd_u3 {x : Int} : (vdC ov w y n h).set 3 (.val (.int .i64 x)) = (vdC ov w y x h) := nr rfl
@[go_sem ↓ 1300] theorem vd_p : aPt (some true) 36 (vdC ov w y n h) 0 V' = V' (.w (.agg (vdC ov w y n h))) := by
  have e : ((vdC ov w y n h).drop 0).take 36 = vdC ov w y n h := by rw [List.drop_zero, List.take_of_length_le (by rw [vd_l]; omega)]
  simp only [aPt, vd_l, e, Nat.reduceAdd, Nat.reduceLeDiff, true_and]
@[go_sem ↓ 1300] theorem vd_ph : aPt (some true) 32 (vdC ov w y n h) 4 V' = V' (.w (.agg (hsC h))) := by
  have e : ((vdC ov w y n h).drop 4).take 32 = hsC h := by
    show (hsC h).take 32 = _
    rw [List.take_of_length_le (by rw [hsC_len]; omega)]
  simp only [aPt, vd_l, e, Nat.reduceAdd, Nat.reduceLeDiff, true_and]
@[go_sem 1300] theorem hs_td : List.take 32 (List.drop 0 (hsC h)) = hsC h := by rw [List.drop_zero, List.take_of_length_le (by rw [hsC_len]; omega)]
@[go_sem 1300] theorem vd_td : List.take 36 (List.drop 0 (vdC ov w y n h)) = vdC ov w y n h := by rw [List.drop_zero, List.take_of_length_le (by rw [vd_l]; omega)]
@[go_sem 1300] theorem vd_s4 : spl (vdC ov w y n h) 4 (hsC h') = vdC ov w y n h' := by
  have e : vdC ov w y n h = [.val (.bool ov), .val (.int .i64 w), .val (.int .i64 y), .val (.int .i64 n)] ++ hsC h := rfl
  rw [e, show (4 : Nat) = ([.val (.bool ov), .val (.int .i64 w), .val (.int .i64 y), .val (.int .i64 n)] : List C).length + 0 from rfl, spl_appR (by rw [hsC_len, hsC_len]; omega), spl_all (by rw [hsC_len, hsC_len])]
  rfl
@[go_sem 1300] theorem vd_o : spl (vdC ov w y n h) 0 (vdC ov' w' y' n' h') = vdC ov' w' y' n' h' := spl_all (by rw [vd_l, vd_l])
@[go_sem 1300] theorem hs_o : spl (hsC h) 0 (hsC h') = hsC h' := spl_all (by rw [hsC_len, hsC_len])
@[go_sem ↓] theorem vd_w {l : List V} {hp : Heap} {i : Id} {off : Nat} {cs : List C} : St.stow ⟨l, hp⟩ i off cs (vdC ov w y n h) = ⟨l, hset hp i (spl cs off (vdC ov w y n h))⟩ := by
  rw [stow_big (by rw [vd_l]; omega), vd_k]
@[go_sem ↓] theorem hs_w {l : List V} {hp : Heap} {i : Id} {off : Nat} {cs : List C} : St.stow ⟨l, hp⟩ i off cs (hsC h) = ⟨l, hset hp i (spl cs off (hsC h))⟩ := by
  rw [stow_big (by rw [hsC_len]; omega), hs_k]
@[go_sem 1400] theorem vd_z : (.val (.bool ov) :: .val (.int .i64 w) :: .val (.int .i64 y) :: .val (.int .i64 n) :: hsC h : List C) = vdC ov w y n h := nr rfl
@[go_sem 1400] theorem hs_z : ([.val (.int .u8 0), .val (.int .u8 0), .val (.int .u8 0), .val (.int .u8 0), .val (.int .u8 0), .val (.int .u8 0), .val (.int .u8 0), .val (.int .u8 0), .val (.int .u8 0), .val (.int .u8 0), .val (.int .u8 0), .val (.int .u8 0), .val (.int .u8 0), .val (.int .u8 0), .val (.int .u8 0), .val (.int .u8 0), .val (.int .u8 0), .val (.int .u8 0), .val (.int .u8 0), .val (.int .u8 0), .val (.int .u8 0), .val (.int .u8 0), .val (.int .u8 0), .val (.int .u8 0), .val (.int .u8 0), .val (.int .u8 0), .val (.int .u8 0), .val (.int .u8 0), .val (.int .u8 0), .val (.int .u8 0), .val (.int .u8 0), .val (.int .u8 0)] : List C) = hsC hs0 := nr rfl
theorem vd_vals : vdC ov w y n h = ((.bool ov :: .int .i64 w :: .int .i64 y :: .int .i64 n :: h.b.map fun b => Value.int .u8 (b.toNat : Int))).map C.val := by
  unfold vdC hsC
  simp [byt, D.toC]
theorem okb : ∀ (l : List UInt8) (k : Nat), l.length = k → All2 okK (List.replicate k (some .u8)) (l.map fun b => Value.int .u8 (b.toNat : Int))
  | [], k, h => by subst h; exact .nil
  | b :: l, k, h => by subst h; exact .cons ⟨_, rfl⟩ (okb l _ rfl)
theorem vd_val_inj : ∀ {us vs : List Value}, us.map C.val = vs.map C.val → us = vs
  | [], [], _ => rfl
  | [], _ :: _, h => by simp at h
  | _ :: _, [], h => by simp at h
  | u :: us, v :: vs, h => by
    simp only [List.map_cons, List.cons.injEq, C.val.injEq] at h
    rw [h.1, vd_val_inj h.2]
theorem hs_inj {a b : Hs} : (a.b.map fun b => Value.int .u8 (b.toNat : Int)) = (b.b.map fun b => Value.int .u8 (b.toNat : Int)) ↔ a = b := by
  constructor
  · intro h
    refine Hs.ext' (List.map_inj_right (fun x y h => ?_) |>.1 h)
    simp only [Value.int.injEq, true_and] at h
    exact UInt8.toNat_inj.1 (by omega)
  rintro rfl; rfl
@[congr] theorem cg_aEqA4 {q q' : Option (List (Option IntKind))} {cs ds cs' ds' : List C} {J : Bool → Prop} (h0 : q = q') (h1 : cs = cs') (h2 : ds = ds') : aEqA q cs ds J = aEqA q' cs' ds' J := by subst h0; subst h1; subst h2; rfl
/-- two verdicts compared -/
@[go_sem] theorem e_eqVd {J : Bool → Prop} : aEqA (some [none, some .i64, some .i64, some .i64, some .u8, some .u8, some .u8, some .u8, some .u8, some .u8, some .u8, some .u8, some .u8, some .u8, some .u8, some .u8, some .u8, some .u8, some .u8, some .u8, some .u8, some .u8, some .u8, some .u8, some .u8, some .u8, some .u8, some .u8, some .u8, some .u8, some .u8, some .u8, some .u8, some .u8, some .u8, some .u8]) (vdC ov w y n h) (vdC ov' w' y' n' h') J = J (decide (ov = ov' ∧ w = w' ∧ y = y' ∧ n = n' ∧ h = h')) := by
  have ok : ∀ (o : Bool) (a b c : Int) (z : Hs), All2 okK [none, some .i64, some .i64, some .i64, some .u8, some .u8, some .u8, some .u8, some .u8, some .u8, some .u8, some .u8, some .u8, some .u8, some .u8, some .u8, some .u8, some .u8, some .u8, some .u8, some .u8, some .u8, some .u8, some .u8, some .u8, some .u8, some .u8, some .u8, some .u8, some .u8, some .u8, some .u8, some .u8, some .u8, some .u8, some .u8] (.bool o :: .int .i64 a :: .int .i64 b :: .int .i64 c :: z.b.map fun b => Value.int .u8 (b.toNat : Int)) := fun o a b c z =>
    .cons ⟨_, rfl⟩ (.cons ⟨_, rfl⟩ (.cons ⟨_, rfl⟩ (.cons ⟨_, rfl⟩ (okb z.b 32 z.len))))
  have key : decide (ov = ov' ∧ w = w' ∧ y = y' ∧ n = n' ∧ h = h') = true ↔ (.bool ov :: .int .i64 w :: .int .i64 y :: .int .i64 n :: (h.b.map fun b => Value.int .u8 (b.toNat : Int))) = (.bool ov' :: .int .i64 w' :: .int .i64 y' :: .int .i64 n' :: (h'.b.map fun b => Value.int .u8 (b.toNat : Int)) : List Value) := by
    rw [decide_eq_true_iff]
    simp only [List.cons.injEq, Value.bool.injEq, Value.int.injEq, true_and, hs_inj]
  refine propext ⟨?_, fun hJ => ?_⟩
  · rintro ⟨ks, us, vs, hq, hu, hv, _, _, h⟩
    refine h _ ?_
    rw [vd_vals] at hu hv
    rw [← vd_val_inj hu, ← vd_val_inj hv]
    exact key
  refine ⟨_, _, _, rfl, vd_vals, vd_vals, ok _ _ _ _ _, ok _ _ _ _ _, fun b hb => ?_⟩
  rw [← key] at hb
  rw [Bool.eq_iff_iff.2 hb]; exact hJ
/-- two digests compared -/
@[go_sem] theorem e_eqHs {J : Bool → Prop} : aEqA (some [some .u8, some .u8, some .u8, some .u8, some .u8, some .u8, some .u8, some .u8, some .u8, some .u8, some .u8, some .u8, some .u8, some .u8, some .u8, some .u8, some .u8, some .u8, some .u8, some .u8, some .u8, some .u8, some .u8, some .u8, some .u8, some .u8, some .u8, some .u8, some .u8, some .u8, some .u8, some .u8]) (hsC h) (hsC h') J = J (decide (h = h')) := by
  have hv : ∀ z : Hs, hsC z = (z.b.map fun b => Value.int .u8 (b.toNat : Int)).map C.val := fun z => by unfold hsC; simp [byt, D.toC]
  refine propext ⟨?_, fun hJ => ?_⟩
  · rintro ⟨ks, us, vs, hq, hu, hv', _, _, h⟩
    refine h _ ?_
    rw [hv] at hu hv'
    rw [← vd_val_inj hu, ← vd_val_inj hv', decide_eq_true_iff, hs_inj]
  refine ⟨_, _, _, rfl, hv _, hv _, okb _ _ h.len, okb _ _ h'.len, fun b hb => ?_⟩
  rw [hs_inj, ← decide_eq_true_iff (p := h = h')] at hb
  rw [Bool.eq_iff_iff.2 hb]; exact hJ
end
/-- the digest of bytes -/
def shaH (p : List UInt8) : Hs := ⟨sha p, sha_len p⟩
theorem sha_hs (p : List UInt8) : (byt (sha p)).map D.toC = hsC (shaH p) := by simp only [hsC, shaH]
end
section
def tgE : Nat → Tag
  | 0 => .slot [8, 0, 31]
  | _ + 1 => .slot [20]
@[go_sem ↓ 1300] theorem sd_mcell {s : Sta} {k : Nat} {K : C → Prop} (h : k < 16) : (∃ c, ((sd s).map D.toC)[k + 1]? = some c ∧ K c) = K (.val (.int .i32 (s.cells.getD k 0))) := ex_some (by
  have hl : k < s.cells.length := by rw [s.len]; exact h
  simp [sd, c32, D.toC, List.getElem?_append, hl])
@[go_sem ↓ 1300] theorem sd_mcell' {s : Sta} {k : Nat} {K : C → Prop} (h : k < 16) : (∃ c, ((sd s).map D.toC)[1 + k]? = some c ∧ K c) = K (.val (.int .i32 (s.cells.getD k 0))) := by
  rw [show 1 + k = k + 1 by omega]; exact sd_mcell (by omega)
theorem take16 {l : List Int} (hl : l.length = 16) {k : Nat} (h : k < 16) : l.take (k + 1) = l.take k ++ [l.getD k 0] := by
  rw [List.take_add_one]; simp [List.getD, show k < l.length by omega]
theorem encS_len (s : Sta) : (encS s).length ≤ 100 := by
  have hn := num_len (zz s.frame)
  unfold encS
  simp only [List.length_append, encC_len, s.len, List.length_cons, List.length_nil]
  have : (le4 s.seed).length = 4 := rfl
  omega
set_option maxHeartbeats 4000000 in
theorem rencode_h (s : Sta) (h1 : -9223372036854775808 ≤ s.frame) (h2 : s.frame ≤ 9223372036854775807) : Holds Tryz.prog 30 [.agg ((sd s).map D.toC)] [] (fun r h' => r = V.byt (encS s) ∧ h' = []) := by
  have hn := num_len (zz s.frame)
  have hnum := rnumO_h s.frame h1 h2
  refine holds_of_awp Tryz.func30 rfl (by decide +kernel) mixed Tryz.ntmps30 Tryz.results30 ?_
  refine zE ?_
  refine zs ?_;try exact trivial
  refine a_call [] (hnum) ok0 ?_ ?_ ?_
  · refine zs ?_;try exact trivial
  · refine zs ?_;try exact trivial
  rintro _ _ ⟨rfl, rfl⟩
  refine zs ?_;try exact trivial
  refine a_loopk (fun k : Nat => ⟨[.undef, V.cell (.ptr (.loc [1]) 0), V.w (.c (.lst .full (some true) 1 [])), V.cell (.lst (.tag (tgE k)) none 1 (byt (num (zz s.frame) ++ encC (s.cells.take k)))), V.int .i64 k, U, U, U, U, U, U, U, U, U, U, U, U, U, U, U, U, U, U, U, U, U, U, U, U, U, U, U, U, U, .undef], [(.loc [1], (sd s).map D.toC)]⟩) (· ≤ 16) (16 - ·) 0 (by omega) ?_ ?_
  · rw [show tgE 0 = .slot [8, 0, 31] from rfl, show encC (s.cells.take 0) = [] from rfl, List.append_nil]
    refine zs ?_;try exact trivial
    all_goals first | exact leCs_refl _ | exact ⟨leC_refl _, leCs_refl _⟩ | trace_state
  intro k hk
  have hl := s.len
  have hc : (encC (s.cells.take k)).length ≤ 64 := by rw [encC_len, List.length_take]; omega
  cases k with
  | zero =>
    rw [show tgE 0 = .slot [8, 0, 31] from rfl]
    have hf := rfour_h (ofI32 (s.cells.getD 0 0))
    refine zc ?_;try exact trivial
    refine a_call [] (hf) ok0 ?_ ?_ ?_
    · refine zs ?_;try exact trivial
    · refine zs ?_;try exact trivial
    rintro _ _ ⟨rfl, rfl⟩
    refine zs ?_;try exact trivial
    refine ⟨by rw [show (le4 (ofI32 (s.cells.getD 0 0))).length = 4 from rfl]; omega, 0 + 1, by omega, by omega, ?_, by congr 1⟩
    rw [show tgE (0 + 1) = .slot [20] from rfl, List.append_assoc, ← encC_snoc, ← take16 hl (by omega)]
    exact leC_refl _
  | succ k =>
    rw [show tgE (k + 1) = .slot [20] from rfl]
    refine zs ?_;try exact trivial
    refine c_dec (fun h => ?_) (fun h => ?_)
    · have hf := rfour_h (ofI32 (s.cells.getD (k + 1) 0))
      have ek : ((k : Int) + 1).toNat = k + 1 := by omega
      simp (maxSteps:=2000000) (disch:=omega) only [go_sem,Nat.reduceAdd,Nat.reduceSub,Nat.reduceMul,Nat.reduceBEq,Nat.reduceEqDiff,Nat.reduceLT,Nat.reduceLeDiff,Nat.reduceDiv,reduceIte,reduceCtorEq, ek]
      refine a_call [] (hf) ok0 ?_ ?_ ?_
      · refine zs ?_;try exact trivial
      · refine zs ?_;try exact trivial
      rintro _ _ ⟨rfl, rfl⟩
      refine zs ?_;try exact trivial
      refine ⟨by simp [le4]; omega, k + 1 + 1, by omega, by omega, ?_, by congr 1⟩
      rw [show tgE (k + 1 + 1) = .slot [20] from rfl, List.append_assoc, ← encC_snoc, ← take16 hl (by omega)]
      exact leC_refl _
    have e15 : k + 1 = 16 := by omega
    have e : s.cells.take (k + 1) = s.cells := List.take_of_length_le (by omega)
    rw [e] at hc ⊢
    have hf := rfour_h s.seed
    refine zs ?_;try exact trivial
    refine a_call [] (hf) ok0 ?_ ?_ ?_
    · refine zs ?_;try exact trivial
    · refine zs ?_;try exact trivial
    rintro _ _ ⟨rfl, rfl⟩
    refine zs ?_;try exact trivial
    have l4 : (le4 s.seed).length = 4 := rfl
    refine ⟨by omega, ?_⟩
    cases ho : s.over
    · simp (maxSteps:=2000000) (disch:=omega) only [go_sem,Nat.reduceAdd,Nat.reduceSub,Nat.reduceMul,Nat.reduceBEq,Nat.reduceEqDiff,Nat.reduceLT,Nat.reduceLeDiff,Nat.reduceDiv,reduceIte,reduceCtorEq, ho]
      refine ⟨by omega, ?_⟩
      simp only [encS, ho, boolB]
      simp [byt, U8]
    simp (maxSteps:=2000000) (disch:=omega) only [go_sem,Nat.reduceAdd,Nat.reduceSub,Nat.reduceMul,Nat.reduceBEq,Nat.reduceEqDiff,Nat.reduceLT,Nat.reduceLeDiff,Nat.reduceDiv,reduceIte,reduceCtorEq, ho]
    refine ⟨by omega, ?_⟩
    simp only [encS, ho, boolB]
    simp [byt, U8]
theorem vhash_h (s : Sta) (h1 : -9223372036854775808 ≤ s.frame) (h2 : s.frame ≤ 9223372036854775807) : Holds Tryz.prog 26 [.agg ((sd s).map D.toC)] [] (fun r h' => r = .w (.agg (hsC (shaH (encS s)))) ∧ h' = []) := by
  have he := encode_h13 s h1 h2
  have hd := dsum_h (encS s) (by have := encS_len s; omega)
  rw [sha_hs] at hd
  refine holds_of_awp Tryz.func26 rfl (by decide +kernel) mixed Tryz.ntmps26 Tryz.results26 ?_
  refine zE ?_
  refine zs ?_;try exact trivial
  refine a_call [] (he) ok0 ?_ ?_ ?_
  · refine zs ?_;try exact trivial
  · refine zs ?_;try exact trivial
  rintro _ _ ⟨rfl, rfl⟩
  refine zs ?_;try exact trivial
  refine a_call [] (hd) ok0 ?_ ?_ ?_
  · refine zs ?_;try exact trivial
  · refine zs ?_;try exact trivial
  rintro _ _ ⟨rfl, rfl⟩
  refine zs ?_;try exact trivial
theorem rhash_h (s : Sta) (h1 : -9223372036854775808 ≤ s.frame) (h2 : s.frame ≤ 9223372036854775807) : Holds Tryz.prog 12 [.agg ((sd s).map D.toC)] [] (fun r h' => r = .w (.agg (hsC (shaH (encS s)))) ∧ h' = []) := by
  have he := rencode_h s h1 h2
  have hd := rsum2_h (encS s) (by have := encS_len s; omega)
  rw [sha_hs] at hd
  refine holds_of_awp Tryz.func12 rfl (by decide +kernel) mixed Tryz.ntmps12 Tryz.results12 ?_
  refine zE ?_
  refine zs ?_;try exact trivial
  refine a_call [] (he) ok0 ?_ ?_ ?_
  · refine zs ?_;try exact trivial
  · refine zs ?_;try exact trivial
  rintro _ _ ⟨rfl, rfl⟩
  refine zs ?_;try exact trivial
  refine a_call [] (hd) ok0 ?_ ?_ ?_
  · refine zs ?_;try exact trivial
  · refine zs ?_;try exact trivial
  rintro _ _ ⟨rfl, rfl⟩
  refine zs ?_;try exact trivial
end
section
/-- a verdict's cells -/
abbrev vdR (d : Ct) : List C := vdC (vdP d).2.2 (vdP d).1 (vdP d).2.1 (d.pairs.length : Int) (shaH (encS d.st))
abbrev vd0 : List C := vdC false 0 0 0 hs0
theorem endS_frame (cap : Int) (s : Sta) : (endS cap s).frame = s.frame + 1 := by unfold endS; split <;> rfl
theorem step_frame (code : List (Int × Int)) (cap fuel : Int) (s : Sta) (i0 i1 : UInt16) (h : ∀ x ∈ s.cells, B32 x) : 0 ≤ (stepP code cap fuel s i0 i1).1.frame ∧ (stepP code cap fuel s i0 i1).1.frame ≤ 601 := by
  have hz : 0 ≤ (stz 0 0).frame ∧ (stz 0 0).frame ≤ 601 := ⟨Int.le_refl _, by show (0 : Int) ≤ 601; omega⟩
  unfold stepP
  split
  · exact hz
  rename_i hg
  split
  · exact hz
  rename_i hi
  split
  · exact hz
  have hg' : gameP code cap fuel = 0 := by simpa using hg
  have hi' : isP s = true := by cases hh : isP s <;> simp_all
  obtain ⟨f0, f1, _⟩ := isP_spec hi'
  show 0 ≤ (stepM code cap fuel.toNat s i0 i1).frame ∧ (stepM code cap fuel.toNat s i0 i1).frame ≤ 601
  unfold stepM
  rw [endS_frame]
  split
  · have := runM_B (gameP_spec hg').1 fuel.toNat (mac0 s i0 i1) ⟨fun x hx => (by cases hx), h, f0, f1⟩ (by show (0 : Int) ≤ 0; omega)
    have a := this.fr0
    have b := this.fr1
    omega
  omega
theorem foS_frame {code : List (Int × Int)} {cap fuel : Int} {seed : UInt32} {f : Nat → UInt16 × UInt16} : ∀ n, 0 ≤ (foS code cap fuel (startS seed) f n).frame ∧ (foS code cap fuel (startS seed) f n).frame ≤ 601
  | 0 => ⟨Int.le_refl _, by show (0 : Int) ≤ 601; omega⟩
  | n + 1 => by
    exact step_frame _ _ _ _ _ _ (foS_B (start_B _) n)
theorem Inv18.fr {c : Ct} (h : Inv18 c) : -9223372036854775808 ≤ c.st.frame ∧ c.st.frame ≤ 9223372036854775807 := by
  rw [h.st]; have := foS_frame (code := c.code) (cap := c.cap) (fuel := c.fuel) (seed := c.seed) (f := pz c.in0 c.in1) c.pairs.length; omega
section
variable (code : List (Int × Int)) (cap fuel : Int) (l : List Ev) (hcl : code.length ≤ 9223372036854775807)
include hcl
set_option maxRecDepth 20000 in
set_option maxHeartbeats 4000000 in
theorem judge_game (hg : gameP code cap fuel ≠ 0) : Holds Tryz.prog 11 [.game code cap fuel, .c (.lst .no none 6 (evs l))] [] (fun r h' => r = .tup [.agg vd0, .int .i64 0, .int .i64 (gameP code cap fuel)] ∧ h' = []) := by
  have hn := taken_game code cap fuel l hcl hg
  have dg : decide (gameP code cap fuel = 0) = false := decide_eq_false hg
  generalize gameP code cap fuel = v at hn dg
  refine holds_of_awp Tryz.func11 rfl (by decide +kernel) mixed Tryz.ntmps11 Tryz.results11 ?_
  refine zE ?_
  refine zs ?_;try exact trivial
  refine a_call [] (hn) ok0 ?_ ?_ ?_
  · refine zs ?_;try exact trivial
  · refine zs ?_;try exact trivial
  rintro _ _ ⟨rfl, rfl⟩
  simp (maxSteps:=2000000) (disch:=omega) only [go_sem,Nat.reduceAdd,Nat.reduceSub,Nat.reduceMul,Nat.reduceBEq,Nat.reduceEqDiff,Nat.reduceLT,Nat.reduceLeDiff,Nat.reduceDiv,reduceIte,reduceCtorEq, dg, decide_not, Bool.not_false]
set_option maxRecDepth 20000 in
set_option maxHeartbeats 4000000 in
theorem judge_bad (hl : l.length ≤ 1000) (hg : gameP code cap fuel = 0) (hE : (ovE (ctNew code cap fuel) 0 l).2 ≠ 0) : Holds Tryz.prog 11 [.game code cap fuel, .c (.lst .no none 6 (evs l))] [] (fun r h' => r = .tup [.agg vd0, .int .i64 (ovE (ctNew code cap fuel) 0 l).1, .int .i64 (ovE (ctNew code cap fuel) 0 l).2] ∧ h' = []) := by
  have hn := taken_h code cap fuel l hcl hl hg
  have dg : decide ((ovE (ctNew code cap fuel) 0 l).2 = 0) = false := decide_eq_false hE
  generalize ovE (ctNew code cap fuel) 0 l = E at hn dg hE
  refine holds_of_awp Tryz.func11 rfl (by decide +kernel) mixed Tryz.ntmps11 Tryz.results11 ?_
  refine zE ?_
  refine zs ?_;try exact trivial
  refine a_call [] (hn) ok0 ?_ ?_ ?_
  · refine zs ?_;try exact trivial
  · refine zs ?_;try exact trivial
  rintro _ _ ⟨h1, _⟩
  obtain ⟨rfl, rfl⟩ := h1 hE
  simp (maxSteps:=2000000) (disch:=omega) only [go_sem,Nat.reduceAdd,Nat.reduceSub,Nat.reduceMul,Nat.reduceBEq,Nat.reduceEqDiff,Nat.reduceLT,Nat.reduceLeDiff,Nat.reduceDiv,reduceIte,reduceCtorEq, dg, decide_not, Bool.not_false]
set_option maxRecDepth 20000 in
set_option maxHeartbeats 4000000 in
theorem judge_ok (hl : l.length ≤ 1000) (hg : gameP code cap fuel = 0) (hE : (ovE (ctNew code cap fuel) 0 l).2 = 0) : Holds Tryz.prog 11 [.game code cap fuel, .c (.lst .no none 6 (evs l))] [] (fun r h' => r = .tup [.agg (vdR (ovC (ctNew code cap fuel) l)), .int .i64 0, .int .i64 0] ∧ h' = []) := by
  have hn := taken_h code cap fuel l hcl hl hg
  have hI := (inv_new hg).ov (l := l)
  have hev := ov_len (l := l) (c := ctNew code cap fuel)
  have h0 : (ctNew code cap fuel).events.length = 0 := rfl
  obtain ⟨g1, g2, g3⟩ := ov_game (l := l) (c := ctNew code cap fuel)
  have g4 : (ovC (ctNew code cap fuel) l).cap = cap := g2
  generalize ovC (ctNew code cap fuel) l = d at hn hI hev g4
  have hs := state_h d
  have hp := pairs_h d (by have := hI.le; have := hI.e0; omega)
  have hh := vhash_h d.st hI.fr.1 hI.fr.2
  have ht := status_h d
  have hr := dresult_h d.st cap fuel .no none code
  refine holds_of_awp Tryz.func11 rfl (by decide +kernel) mixed Tryz.ntmps11 Tryz.results11 ?_
  refine zE ?_
  refine zs ?_;try exact trivial
  refine a_call [] (hn) ok0 ?_ ?_ ?_
  · refine zs ?_;try exact trivial
  · refine zs ?_;try exact trivial
  rintro _ _ ⟨_, h1⟩
  obtain ⟨rfl, rfl⟩ := h1 hE
  refine zc ?_;try exact trivial
  refine a_call [.loc [13, 0, 16, 0, 14]] (hs) (ok1 rfl) ?_ ?_ ?_
  · refine zs ?_;try exact trivial
  · refine zs ?_;try exact trivial
  rintro _ _ ⟨rfl, rfl⟩
  refine zc ?_;try exact trivial
  refine a_drawC (⟨[.undef, V.cell (.lst .no none 6 (evs l)), V.cell (.ptr (.loc [2]) 0), .undef, V.cell (.ptr (.loc [4]) 0), V.int .i64 0, V.int .i64 0, V.cell (.ptr (.loc [13, 0, 16, 0, 14]) 0), V.cell (.ptr (.loc [8]) 0), U, U, U, U, U, U, U, U, U, U, U, U, U, U, U, U, U, U, U, U, U, U, U, U, U, U, U, U, U, U, U, U, U, U, U, U, U, U, U, U, U, U, .undef], [(.loc [13, 0, 16, 0, 14], ctB (.loc [13, 0, 16, 0, 14]) d), (.loc [8], (sd d.st).map D.toC), (.loc [4], vdC false 0 0 (d.pairs.length : Int) (shaH (encS d.st))), (.loc [2], [.lst .no none 2 (ins code), .val (.int .i64 cap), .val (.int .i64 fuel)])]⟩) (.take 0 (.both [(1, .take 2 (.both [(3, .both [(4, .both [(5, .both [(6, .done)])])])])), (3, .both [(1, .take 2 (.both [(4, .both [(5, .both [(6, .done)])])]))])])) (by kernel_rfl) (by kernel_rfl) ?_ ?_
  · refine zc ?_;try exact trivial
    repeat' (with_reducible apply And.intro)
    all_goals (
      refine a_call [.loc [13, 0, 16, 0, 14]] hp (ok1 rfl) ?_ ?_ ?_
      · refine zs ?_;try exact trivial
      · refine zs ?_;try exact trivial
      rintro _ _ ⟨rfl, rfl⟩
      refine zc ?_;try exact trivial
      refine a_call [] hh ok0 ?_ ?_ ?_
      · refine zs ?_;try exact trivial
      · refine zs ?_;try exact trivial
      rintro _ _ ⟨rfl, rfl⟩
      refine zc ?_;try exact trivial
      all_goals trace_state)
  refine zc ?_;try exact trivial
  refine a_call [.loc [13, 0, 16, 0, 14]] (ht) (ok1 rfl) ?_ ?_ ?_
  · refine zs ?_;try exact trivial
  · refine zs ?_;try exact trivial
  rintro _ _ ⟨rfl, rfl⟩
  unfold statC
  refine zc ?_;try exact trivial
  refine c_b (fun o => ?_) (fun o => ?_)
  · refine zc ?_;try exact trivial
    refine a_draw (.take 0 (.take 2 (.take 4 (.both [(1, .both [(3, .both [(5, .take 6 (.both [(7, .take 8 (.both [(9, .done)]))]))]), (5, .take 6 (.both [(3, .both [(7, .take 8 (.both [(9, .done)]))]), (7, .both [(3, .take 8 (.both [(9, .done)]))])]))]), (3, .both [(1, .both [(5, .take 6 (.both [(7, .take 8 (.both [(9, .done)]))]))]), (5, .both [(1, .take 6 (.both [(7, .take 8 (.both [(9, .done)]))]))])]), (5, .both [(1, .take 6 (.both [(3, .both [(7, .take 8 (.both [(9, .done)]))]), (7, .both [(3, .take 8 (.both [(9, .done)]))])])), (3, .both [(1, .take 6 (.both [(7, .take 8 (.both [(9, .done)]))]))])])])))) (by kernel_rfl) (by kernel_rfl) ?_
    refine zc ?_;try exact trivial
    repeat' (with_reducible apply And.intro)
    all_goals (refine zc ?_; try exact trivial)
    have e : vdP d = (d.winner, d.why, true) := by unfold vdP; rw [if_pos o]
    all_goals (show leCs (vdC (vdP d).2.2 (vdP d).1 (vdP d).2.1 (d.pairs.length : Int) (shaH (encS d.st))) _; rw [e]; exact leCs_refl _)
  refine zc ?_;try exact trivial
  refine a_call [] (hr) ok0 ?_ ?_ ?_
  · refine zs ?_;try exact trivial
  · refine zs ?_;try exact trivial
  rintro _ _ ⟨rfl, rfl⟩
  have e : vdP d = resP d.st cap := by unfold vdP; rw [if_neg (by rw [o]; simp), g4]
  refine zc ?_;try exact trivial
  all_goals (show leCs (vdC (vdP d).2.2 (vdP d).1 (vdP d).2.1 (d.pairs.length : Int) (shaH (encS d.st))) _; rw [e]; exact leCs_refl _)
end
end
section
section
variable (code : List (Int × Int)) (cap fuel : Int) (l : List Ev) (hcl : code.length ≤ 9223372036854775807)
include hcl
set_option maxRecDepth 20000 in
set_option maxHeartbeats 4000000 in
theorem rjudge_game (hg : gameP code cap fuel ≠ 0) : Holds Tryz.prog 15 [.game code cap fuel, .c (.lst .no none 6 (evs l))] [] (fun r h' => r = .tup [.agg vd0, .int .i64 0, .int .i64 (gameP code cap fuel)] ∧ h' = []) := by
  have hn := over_game code cap fuel l hcl hg
  have dg : decide (gameP code cap fuel = 0) = false := decide_eq_false hg
  generalize gameP code cap fuel = v at hn dg
  refine holds_of_awp Tryz.func15 rfl (by decide +kernel) mixed Tryz.ntmps15 Tryz.results15 ?_
  refine zE ?_
  refine zs ?_;try exact trivial
  refine a_call [] (hn) ok0 ?_ ?_ ?_
  · refine zs ?_;try exact trivial
  · refine zs ?_;try exact trivial
  rintro _ _ ⟨rfl, rfl⟩
  simp (maxSteps:=2000000) (disch:=omega) only [go_sem,Nat.reduceAdd,Nat.reduceSub,Nat.reduceMul,Nat.reduceBEq,Nat.reduceEqDiff,Nat.reduceLT,Nat.reduceLeDiff,Nat.reduceDiv,reduceIte,reduceCtorEq, dg, decide_not, Bool.not_false]
set_option maxRecDepth 20000 in
set_option maxHeartbeats 4000000 in
theorem rjudge_bad (hl : l.length ≤ 1000) (hg : gameP code cap fuel = 0) (hE : (ovE (ctNew code cap fuel) 0 l).2 ≠ 0) : Holds Tryz.prog 15 [.game code cap fuel, .c (.lst .no none 6 (evs l))] [] (fun r h' => r = .tup [.agg vd0, .int .i64 (ovE (ctNew code cap fuel) 0 l).1, .int .i64 (ovE (ctNew code cap fuel) 0 l).2] ∧ h' = []) := by
  have hn := over_h code cap fuel l hcl hl hg
  have dg : decide ((ovE (ctNew code cap fuel) 0 l).2 = 0) = false := decide_eq_false hE
  generalize ovE (ctNew code cap fuel) 0 l = E at hn dg hE
  refine holds_of_awp Tryz.func15 rfl (by decide +kernel) mixed Tryz.ntmps15 Tryz.results15 ?_
  refine zE ?_
  refine zs ?_;try exact trivial
  refine a_call [] (hn) ok0 ?_ ?_ ?_
  · refine zs ?_;try exact trivial
  · refine zs ?_;try exact trivial
  rintro _ _ ⟨h1, _⟩
  obtain ⟨rfl, rfl⟩ := h1 hE
  simp (maxSteps:=2000000) (disch:=omega) only [go_sem,Nat.reduceAdd,Nat.reduceSub,Nat.reduceMul,Nat.reduceBEq,Nat.reduceEqDiff,Nat.reduceLT,Nat.reduceLeDiff,Nat.reduceDiv,reduceIte,reduceCtorEq, dg, decide_not, Bool.not_false]
set_option maxRecDepth 20000 in
set_option maxHeartbeats 4000000 in
theorem rjudge_ok (hl : l.length ≤ 1000) (hg : gameP code cap fuel = 0) (hE : (ovE (ctNew code cap fuel) 0 l).2 = 0) : Holds Tryz.prog 15 [.game code cap fuel, .c (.lst .no none 6 (evs l))] [] (fun r h' => r = .tup [.agg (vdR (ovC (ctNew code cap fuel) l)), .int .i64 0, .int .i64 0] ∧ h' = []) := by
  have hn := over_h code cap fuel l hcl hl hg
  have hI := (inv_new hg).ov (l := l)
  have hev := ov_len (l := l) (c := ctNew code cap fuel)
  have h0 : (ctNew code cap fuel).events.length = 0 := rfl
  obtain ⟨g1, g2, g3⟩ := ov_game (l := l) (c := ctNew code cap fuel)
  have g4 : (ovC (ctNew code cap fuel) l).cap = cap := g2
  generalize ovC (ctNew code cap fuel) l = d at hn hI hev g4
  have hs := rst_h d hI (by omega)
  have hp := rpairs_h d hI (by omega)
  have hh := rhash_h d.st hI.fr.1 hI.fr.2
  have hr := rresult_h d.st cap fuel code
  refine holds_of_awp Tryz.func15 rfl (by decide +kernel) mixed Tryz.ntmps15 Tryz.results15 ?_
  refine zE ?_
  refine zs ?_;try exact trivial
  refine a_call [] (hn) ok0 ?_ ?_ ?_
  · refine zs ?_;try exact trivial
  · refine zs ?_;try exact trivial
  rintro _ _ ⟨_, h1⟩
  obtain ⟨rfl, rfl⟩ := h1 hE
  refine zc ?_;try exact trivial
  refine a_call [.loc [15, 0, 13, 0, 12]] (hs) (ok1 rfl) ?_ ?_ ?_
  · refine zs ?_;try exact trivial
  · refine zs ?_;try exact trivial
  rintro _ _ ⟨rfl, rfl⟩
  refine zc ?_;try exact trivial
  refine a_drawC (⟨[.undef, V.cell (.lst .no none 6 (evs l)), V.cell (.ptr (.loc [2]) 0), .undef, V.cell (.ptr (.loc [4]) 0), V.int .i64 0, V.int .i64 0, V.cell (.ptr (.loc [15, 0, 13, 0, 12]) 0), .undef, .undef, V.cell (.ptr (.loc [10]) 0), V.cell (.ptr (.loc [11]) 0), U, U, U, U, U, U, U, U, U, U, U, U, U, U, U, U, U, U, U, U, U, U, U, U, U, U, U, U, U, U, U, U, U, U, U, U, U, U, U, U, U, U, U, U, U, .undef], [(.loc [15, 0, 13, 0, 12], rfB (.loc [15, 0, 13, 0, 12]) d), (.loc [10], (sd d.st).map D.toC), (.loc [11], vdC false 0 0 (d.pairs.length : Int) (shaH (encS d.st))), (.loc [4], vd0), (.loc [2], [.lst .no none 2 (ins code), .val (.int .i64 cap), .val (.int .i64 fuel)])]⟩) (.take 0 (.both [(1, .take 2 (.both [(3, .both [(4, .both [(5, .both [(6, .both [(7, .done)])]), (6, .both [(5, .both [(7, .done)])])]), (6, .both [(4, .both [(5, .both [(7, .done)])])])]), (6, .both [(3, .both [(4, .both [(5, .both [(7, .done)])])])])])), (3, .both [(1, .take 2 (.both [(4, .both [(5, .both [(6, .both [(7, .done)])]), (6, .both [(5, .both [(7, .done)])])]), (6, .both [(4, .both [(5, .both [(7, .done)])])])])), (6, .both [(1, .take 2 (.both [(4, .both [(5, .both [(7, .done)])])]))])]), (6, .both [(1, .take 2 (.both [(3, .both [(4, .both [(5, .both [(7, .done)])])])])), (3, .both [(1, .take 2 (.both [(4, .both [(5, .both [(7, .done)])])]))])])])) (by kernel_rfl) (by kernel_rfl) ?_ ?_
  · refine zc ?_;try exact trivial
    repeat' (with_reducible apply And.intro)
    all_goals (
      refine a_call [.loc [15, 0, 13, 0, 12]] hp (ok1 rfl) ?_ ?_ ?_
      · refine zs ?_;try exact trivial
      · refine zs ?_;try exact trivial
      rintro _ _ ⟨rfl, rfl⟩
      refine zc ?_;try exact trivial
      repeat' (with_reducible apply And.intro)
      all_goals (
        refine a_call [] hh ok0 ?_ ?_ ?_
        · refine zs ?_;try exact trivial
        · refine zs ?_;try exact trivial
        rintro _ _ ⟨rfl, rfl⟩
        (refine zc ?_; try exact trivial))
      all_goals trace_state)
  refine zc ?_;try exact trivial
  refine c_b (fun o => ?_) (fun o => ?_)
  · refine zc ?_;try exact trivial
    refine a_draw (.take 0 (.take 1 (.take 2 (.take 4 (.take 5 (.take 6 (.take 8 (.both [(3, .both [(7, .both [(9, .take 10 (.both [(11, .take 12 (.both [(13, .done)]))]))]), (9, .take 10 (.both [(7, .both [(11, .take 12 (.both [(13, .done)]))]), (11, .both [(7, .take 12 (.both [(13, .done)]))])]))]), (7, .both [(3, .both [(9, .take 10 (.both [(11, .take 12 (.both [(13, .done)]))]))]), (9, .both [(3, .take 10 (.both [(11, .take 12 (.both [(13, .done)]))]))])]), (9, .both [(3, .take 10 (.both [(7, .both [(11, .take 12 (.both [(13, .done)]))]), (11, .both [(7, .take 12 (.both [(13, .done)]))])])), (7, .both [(3, .take 10 (.both [(11, .take 12 (.both [(13, .done)]))]))])])])))))))) (by kernel_rfl) (by kernel_rfl) ?_
    refine zc ?_;try exact trivial
    repeat' (with_reducible apply And.intro)
    all_goals (refine zc ?_; try exact trivial)
    have e : vdP d = (d.winner, d.why, true) := by unfold vdP; rw [if_pos o]
    all_goals (show leCs (vdC (vdP d).2.2 (vdP d).1 (vdP d).2.1 (d.pairs.length : Int) (shaH (encS d.st))) _; rw [e]; exact leCs_refl _)
  refine zc ?_;try exact trivial
  refine a_call [] (hr) ok0 ?_ ?_ ?_
  · refine zs ?_;try exact trivial
  · refine zs ?_;try exact trivial
  rintro _ _ ⟨rfl, rfl⟩
  have e : vdP d = resP d.st cap := by unfold vdP; rw [if_neg (by rw [o]; simp), g4]
  refine zc ?_;try exact trivial
  all_goals (show leCs (vdC (vdP d).2.2 (vdP d).1 (vdP d).2.1 (d.pairs.length : Int) (shaH (encS d.st))) _; rw [e]; exact leCs_refl _)
end
end
section
theorem gev_mem {l : List Ev} {i : Nat} (h : i < l.length) : gev l i ∈ l := by
  unfold gev
  rw [List.getD_eq_getElem?_getD, List.getElem?_eq_getElem h]
  exact List.getElem_mem _
theorem gev_mem_take {l : List Ev} {i j : Nat} (h : i < l.length) (hj : i < j) : gev l i ∈ l.take j := by
  have e : gev (l.take j) i = gev l i := by
    unfold gev
    rw [List.getD_eq_getElem?_getD, List.getD_eq_getElem?_getD, List.getElem?_take_of_lt hj]
  rw [← e]
  exact gev_mem (by rw [List.length_take]; omega)
theorem first_uniq {l : List Ev} {i j : Nat} (hj : j < l.length) (hi : i < l.length) (bj : ∀ e ∈ l.take j, e.kind ≠ 5) (bi : ∀ e ∈ l.take i, e.kind ≠ 5) (kj : (gev l j).kind = 5) (ki : (gev l i).kind = 5) : j = i := by
  rcases Nat.lt_trichotomy j i with h | h | h
  · exact absurd kj (bi _ (gev_mem_take hj h))
  · exact h
  exact absurd ki (bj _ (gev_mem_take hi h))
section
variable (code : List (Int × Int)) (cap fuel : Int) (l : List Ev) (hcl : code.length ≤ 9223372036854775807)
include hcl
set_option maxRecDepth 20000 in
set_option maxHeartbeats 4000000 in
theorem agrees_game (hg : gameP code cap fuel ≠ 0) : Holds Tryz.prog 16 [.game code cap fuel, .c (.lst .no none 6 (evs l))] [] (fun r h' => r = .tup [.c (.val (.bool false)), .int .i64 (gameP code cap fuel)] ∧ h' = []) := by
  have hn := judge_game code cap fuel l hcl hg
  have dg : decide (gameP code cap fuel = 0) = false := decide_eq_false hg
  generalize gameP code cap fuel = v at hn dg
  refine holds_of_awp Tryz.func16 rfl (by decide +kernel) mixed Tryz.ntmps16 Tryz.results16 ?_
  refine zE ?_
  refine zs ?_;try exact trivial
  refine a_call [] (hn) ok0 ?_ ?_ ?_
  · refine zs ?_;try exact trivial
  · refine zs ?_;try exact trivial
  rintro _ _ ⟨rfl, rfl⟩
  simp (maxSteps:=2000000) (disch:=omega) only [go_sem,Nat.reduceAdd,Nat.reduceSub,Nat.reduceMul,Nat.reduceBEq,Nat.reduceEqDiff,Nat.reduceLT,Nat.reduceLeDiff,Nat.reduceDiv,reduceIte,reduceCtorEq, dg, decide_not, Bool.not_false]
set_option maxRecDepth 20000 in
set_option maxHeartbeats 4000000 in
theorem agrees_bad (hl : l.length ≤ 1000) (hg : gameP code cap fuel = 0) (hE : (ovE (ctNew code cap fuel) 0 l).2 ≠ 0) : Holds Tryz.prog 16 [.game code cap fuel, .c (.lst .no none 6 (evs l))] [] (fun r h' => r = .tup [.c (.val (.bool false)), .int .i64 (ovE (ctNew code cap fuel) 0 l).2] ∧ h' = []) := by
  have hn := judge_bad code cap fuel l hcl hl hg hE
  have dg : decide ((ovE (ctNew code cap fuel) 0 l).2 = 0) = false := decide_eq_false hE
  generalize ovE (ctNew code cap fuel) 0 l = E at hn dg hE
  refine holds_of_awp Tryz.func16 rfl (by decide +kernel) mixed Tryz.ntmps16 Tryz.results16 ?_
  refine zE ?_
  refine zs ?_;try exact trivial
  refine a_call [] (hn) ok0 ?_ ?_ ?_
  · refine zs ?_;try exact trivial
  · refine zs ?_;try exact trivial
  rintro _ _ ⟨rfl, rfl⟩
  simp (maxSteps:=2000000) (disch:=omega) only [go_sem,Nat.reduceAdd,Nat.reduceSub,Nat.reduceMul,Nat.reduceBEq,Nat.reduceEqDiff,Nat.reduceLT,Nat.reduceLeDiff,Nat.reduceDiv,reduceIte,reduceCtorEq, dg, decide_not, Bool.not_false]
set_option maxRecDepth 20000 in
set_option maxHeartbeats 8000000 in
theorem agrees_ok (hl : l.length ≤ 1000) (hg : gameP code cap fuel = 0) (hE : (ovE (ctNew code cap fuel) 0 l).2 = 0) : Holds Tryz.prog 16 [.game code cap fuel, .c (.lst .no none 6 (evs l))] [] (fun r h' => h' = [] ∧
    ((∀ e ∈ l, e.kind ≠ 5) → r = .tup [.c (.val (.bool true)), .int .i64 0]) ∧
    (∀ i, i < l.length → (∀ e ∈ l.take i, e.kind ≠ 5) → (gev l i).kind = 5 → r = .tup [.c (.val (.bool (agP (ovC (ctNew code cap fuel) l) l i (gev l i)))), .int .i64 0])) := by
  have hn := judge_ok code cap fuel l hcl hl hg hE
  have hI := (inv_new hg).ov (l := l)
  have hNr := (nr_new code cap fuel).ov (l := l)
  generalize ovC (ctNew code cap fuel) l = d at hn hI hNr
  have hw : (vdP d).1 = 0 ∨ (vdP d).1 = 1 := by
    unfold vdP
    split
    · exact hNr.won
    exact res_win hI.win
  generalize hv : vdP d = q at hn hw
  obtain ⟨w, y, o⟩ := q
  simp only at hn hw
  refine holds_of_awp Tryz.func16 rfl (by decide +kernel) mixed Tryz.ntmps16 Tryz.results16 ?_
  refine zE ?_
  refine zs ?_;try exact trivial
  refine a_call [] (hn) ok0 ?_ ?_ ?_
  · refine zs ?_;try exact trivial
  · refine zs ?_;try exact trivial
  rintro _ _ ⟨rfl, rfl⟩
  refine zc ?_;try exact trivial
  refine a_loopk (fun i : Nat => ⟨[.undef, V.cell (.lst .no none 6 (evs l)), .undef, .undef, V.bool false, V.int .i64 0, V.cell (.ptr (.loc [6]) 0), U, U, U, U, U, U, U, U, U, U, U, U, U, U, U, V.cell (.lst .no none 6 (evs l)), V.int .i64 l.length, V.int .i64 (i : Int), U, U, U, U, U, U, U, U, U, U, U, U, U, U, U, U, U, U, U, U, U, U, U, U, U, U, U, U, U, U, U, U, U, U, U, U, U, U, U, U, U, U, U, U, U, U, U, U, U, U, .undef], [(.loc [6], vdC o w y (d.pairs.length : Int) (shaH (encS d.st)))]⟩) (fun i => i ≤ l.length ∧ ∀ e ∈ l.take i, e.kind ≠ 5) (fun i => l.length - i) 0 ⟨by omega, by simp⟩ ?_ ?_
  · try (refine zs ?_; try exact trivial)
    all_goals (rw [hv]; exact leCs_refl _)
  rintro i ⟨hi, hE⟩
  refine zs ?_;try exact trivial
  cases g : decide ((i : Int) < (l.length : Int))
  · have e : l.take i = l := List.take_of_length_le (by have := of_decide_eq_false g; omega)
    rw [e] at hE
    simp (maxSteps:=2000000) (disch:=omega) only [go_sem,Nat.reduceAdd,Nat.reduceSub,Nat.reduceMul,Nat.reduceBEq,Nat.reduceEqDiff,Nat.reduceLT,Nat.reduceLeDiff,Nat.reduceDiv,reduceIte,reduceCtorEq, g]
    refine ⟨_, [], leV_refl _, leH_none, rfl, fun _ => rfl, fun j hj _ hk => absurd hk (hE _ ?_)⟩
    unfold gev
    rw [List.getD_eq_getElem?_getD, List.getElem?_eq_getElem hj]
    exact List.getElem_mem _
  have g' := of_decide_eq_true g
  have hlt : i < l.length := by omega
  have htk := gev_take hlt
  have hre := isResult_h (gev l i)
  simp (maxSteps:=2000000) (disch:=omega) only [go_sem,Nat.reduceAdd,Nat.reduceSub,Nat.reduceMul,Nat.reduceBEq,Nat.reduceEqDiff,Nat.reduceLT,Nat.reduceLeDiff,Nat.reduceDiv,reduceIte,reduceCtorEq, g]
  refine a_call [] (hre) ok0 ?_ ?_ ?_
  · refine zs ?_;try exact trivial
  · refine zs ?_;try exact trivial
  rintro _ _ ⟨rfl, rfl⟩
  cases k : decide ((gev l i).kind = 5)
  · refine zc ?_;try exact trivial
    refine ⟨i + 1, by omega, ⟨by omega, ?_⟩, ?_⟩
    · rw [htk]
      intro e he
      rcases List.mem_append.1 he with q | q
      · exact hE e q
      rw [List.mem_singleton.1 q]; exact of_decide_eq_false k
    try (refine zc ?_; try exact trivial)
    all_goals first | exact leCs_refl _ | trace_state
  refine zc ?_;try exact trivial
  refine a_draw (.take 0 (.take 1 (.take 2 (.take 4 (.take 5 (.take 6 (.both [(3, .both [(7, .both [(8, .both [(9, .both [(10, .done)])]), (9, .both [(8, .both [(10, .done)])])]), (9, .both [(7, .both [(8, .both [(10, .done)])])])]), (7, .both [(3, .both [(8, .both [(9, .both [(10, .done)])]), (9, .both [(8, .both [(10, .done)])])]), (9, .both [(3, .both [(8, .both [(10, .done)])])])]), (9, .both [(3, .both [(7, .both [(8, .both [(10, .done)])])]), (7, .both [(3, .both [(8, .both [(10, .done)])])])])]))))))) (by kernel_rfl) (by kernel_rfl) ?_
  refine zc ?_;try exact trivial
  repeat' (with_reducible apply And.intro)
  all_goals refine a_quiet (by kernel_rfl) (by kernel_rfl) (by kernel_rfl) ?_
  have hk5 := of_decide_eq_true k
  have ag : agP d l i (gev l i) = (decide (i + 1 = l.length) && decide (0 < i) && o && decide (y ≠ 3) && decide ((gev l i).player = plr w (gev l 0).player (gev l 0).other) && decide ((gev l i).n = y)) := by unfold agP; rw [hv]; rfl
  have fin : ∀ b, agP d l i (gev l i) = b → ((∀ e ∈ l, e.kind ≠ 5) → V.tup [.c (.val (.bool b)), .int .i64 0] = .tup [.c (.val (.bool true)), .int .i64 0]) ∧ (∀ j, j < l.length → (∀ e ∈ l.take j, e.kind ≠ 5) → (gev l j).kind = 5 → V.tup [.c (.val (.bool b)), .int .i64 0] = .tup [.c (.val (.bool (agP d l j (gev l j)))), .int .i64 0]) := by
    rintro _ rfl
    refine ⟨fun q => absurd hk5 (q _ (gev_mem hlt)), fun j hj hb hk => ?_⟩
    have : j = i := first_uniq hj hlt hb hE hk hk5
    rw [this]
  clear hn hre
  cases a1 : decide ((i : Int) = (l.length : Int) - 1)
  · have b1 : decide (i + 1 = l.length) = false := decide_eq_false (by have := of_decide_eq_false a1; omega)
    simp (maxSteps:=2000000) (disch:=omega) only [go_sem,Nat.reduceAdd,Nat.reduceSub,Nat.reduceMul,Nat.reduceBEq,Nat.reduceEqDiff,Nat.reduceLT,Nat.reduceLeDiff,Nat.reduceDiv,reduceIte,reduceCtorEq, a1]
    exact ⟨_, [], leV_refl _, leH_none, rfl, fin _ (by rw [ag, b1]; rfl)⟩
  have b1 : decide (i + 1 = l.length) = true := decide_eq_true (by have := of_decide_eq_true a1; omega)
  cases a2 : decide (0 < (i : Int))
  · have b2 : decide (0 < i) = false := decide_eq_false (by have := of_decide_eq_false a2; omega)
    simp (maxSteps:=2000000) (disch:=omega) only [go_sem,Nat.reduceAdd,Nat.reduceSub,Nat.reduceMul,Nat.reduceBEq,Nat.reduceEqDiff,Nat.reduceLT,Nat.reduceLeDiff,Nat.reduceDiv,reduceIte,reduceCtorEq, a1, a2]
    exact ⟨_, [], leV_refl _, leH_none, rfl, fin _ (by rw [ag, b1, b2]; rfl)⟩
  have b2 : decide (0 < i) = true := decide_eq_true (by have := of_decide_eq_true a2; omega)
  cases o
  · simp (maxSteps:=2000000) (disch:=omega) only [go_sem,Nat.reduceAdd,Nat.reduceSub,Nat.reduceMul,Nat.reduceBEq,Nat.reduceEqDiff,Nat.reduceLT,Nat.reduceLeDiff,Nat.reduceDiv,reduceIte,reduceCtorEq, a1, a2]
    exact ⟨_, [], leV_refl _, leH_none, rfl, fin _ (by rw [ag, b1, b2]; rfl)⟩
  cases a4 : decide (y = 3)
  · have b4 : decide (y ≠ 3) = true := decide_eq_true (of_decide_eq_false a4)
    rcases hw with rfl | rfl
    · cases a5 : decide ((gev l i).player = (gev l 0).player)
      · simp (maxSteps:=2000000) (disch:=omega) only [go_sem,Nat.reduceAdd,Nat.reduceSub,Nat.reduceMul,Nat.reduceBEq,Nat.reduceEqDiff,Nat.reduceLT,Nat.reduceLeDiff,Nat.reduceDiv,reduceIte,reduceCtorEq, a1, a2, a4, a5, decide_not, Bool.not_false, Int.reduceLT, Int.reduceLE, Int.reduceToNat]
        exact ⟨_, [], leV_refl _, leH_none, rfl, fin _ (by rw [ag, b1, b2, b4]; show (true && true && true && true && decide ((gev l i).player = (gev l 0).player) && decide ((gev l i).n = y)) = _; rw [a5]; rfl)⟩
      simp (maxSteps:=2000000) (disch:=omega) only [go_sem,Nat.reduceAdd,Nat.reduceSub,Nat.reduceMul,Nat.reduceBEq,Nat.reduceEqDiff,Nat.reduceLT,Nat.reduceLeDiff,Nat.reduceDiv,reduceIte,reduceCtorEq, a1, a2, a4, a5, decide_not, Bool.not_false, Int.reduceLT, Int.reduceLE, Int.reduceToNat]
      exact ⟨_, [], leV_refl _, leH_none, rfl, fin _ (by rw [ag, b1, b2, b4]; show (true && true && true && true && decide ((gev l i).player = (gev l 0).player) && decide ((gev l i).n = y)) = _; rw [a5]; rfl)⟩
    cases a5 : decide ((gev l i).player = (gev l 0).other)
    · simp (maxSteps:=2000000) (disch:=omega) only [go_sem,Nat.reduceAdd,Nat.reduceSub,Nat.reduceMul,Nat.reduceBEq,Nat.reduceEqDiff,Nat.reduceLT,Nat.reduceLeDiff,Nat.reduceDiv,reduceIte,reduceCtorEq, a1, a2, a4, a5, decide_not, Bool.not_false, Int.reduceLT, Int.reduceLE, Int.reduceToNat]
      exact ⟨_, [], leV_refl _, leH_none, rfl, fin _ (by rw [ag, b1, b2, b4]; show (true && true && true && true && decide ((gev l i).player = (gev l 0).other) && decide ((gev l i).n = y)) = _; rw [a5]; rfl)⟩
    simp (maxSteps:=2000000) (disch:=omega) only [go_sem,Nat.reduceAdd,Nat.reduceSub,Nat.reduceMul,Nat.reduceBEq,Nat.reduceEqDiff,Nat.reduceLT,Nat.reduceLeDiff,Nat.reduceDiv,reduceIte,reduceCtorEq, a1, a2, a4, a5, decide_not, Bool.not_false, Int.reduceLT, Int.reduceLE, Int.reduceToNat]
    exact ⟨_, [], leV_refl _, leH_none, rfl, fin _ (by rw [ag, b1, b2, b4]; show (true && true && true && true && decide ((gev l i).player = (gev l 0).other) && decide ((gev l i).n = y)) = _; rw [a5]; rfl)⟩
  have b4 : decide (y ≠ 3) = false := decide_eq_false (fun h => h (of_decide_eq_true a4))
  simp (maxSteps:=2000000) (disch:=omega) only [go_sem,Nat.reduceAdd,Nat.reduceSub,Nat.reduceMul,Nat.reduceBEq,Nat.reduceEqDiff,Nat.reduceLT,Nat.reduceLeDiff,Nat.reduceDiv,reduceIte,reduceCtorEq, a1, a2, a4, decide_not, Bool.not_true]
  exact ⟨_, [], leV_refl _, leH_none, rfl, fin _ (by rw [ag, b1, b2, b4]; rfl)⟩
end
end
section
section
variable (code : List (Int × Int)) (cap fuel : Int) (l : List Ev) (hcl : code.length ≤ 9223372036854775807)
include hcl
set_option maxRecDepth 20000 in
set_option maxHeartbeats 4000000 in
theorem ragrees_game (hg : gameP code cap fuel ≠ 0) : Holds Tryz.prog 17 [.game code cap fuel, .c (.lst .no none 6 (evs l))] [] (fun r h' => r = .tup [.c (.val (.bool false)), .int .i64 (gameP code cap fuel)] ∧ h' = []) := by
  have hn := over_game code cap fuel l hcl hg
  have dg : decide (gameP code cap fuel = 0) = false := decide_eq_false hg
  generalize gameP code cap fuel = v at hn dg
  refine holds_of_awp Tryz.func17 rfl (by decide +kernel) mixed Tryz.ntmps17 Tryz.results17 ?_
  refine zE ?_
  refine zs ?_;try exact trivial
  refine a_call [] (hn) ok0 ?_ ?_ ?_
  · refine zs ?_;try exact trivial
  · refine zs ?_;try exact trivial
  rintro _ _ ⟨rfl, rfl⟩
  simp (maxSteps:=2000000) (disch:=omega) only [go_sem,Nat.reduceAdd,Nat.reduceSub,Nat.reduceMul,Nat.reduceBEq,Nat.reduceEqDiff,Nat.reduceLT,Nat.reduceLeDiff,Nat.reduceDiv,reduceIte,reduceCtorEq, dg, decide_not, Bool.not_false]
set_option maxRecDepth 20000 in
set_option maxHeartbeats 4000000 in
theorem ragrees_bad (hl : l.length ≤ 1000) (hg : gameP code cap fuel = 0) (hE : (ovE (ctNew code cap fuel) 0 l).2 ≠ 0) : Holds Tryz.prog 17 [.game code cap fuel, .c (.lst .no none 6 (evs l))] [] (fun r h' => r = .tup [.c (.val (.bool false)), .int .i64 (ovE (ctNew code cap fuel) 0 l).2] ∧ h' = []) := by
  have hn := over_h code cap fuel l hcl hl hg
  have dg : decide ((ovE (ctNew code cap fuel) 0 l).2 = 0) = false := decide_eq_false hE
  generalize ovE (ctNew code cap fuel) 0 l = E at hn dg hE
  refine holds_of_awp Tryz.func17 rfl (by decide +kernel) mixed Tryz.ntmps17 Tryz.results17 ?_
  refine zE ?_
  refine zs ?_;try exact trivial
  refine a_call [] (hn) ok0 ?_ ?_ ?_
  · refine zs ?_;try exact trivial
  · refine zs ?_;try exact trivial
  rintro _ _ ⟨h1, _⟩
  obtain ⟨rfl, rfl⟩ := h1 hE
  simp (maxSteps:=2000000) (disch:=omega) only [go_sem,Nat.reduceAdd,Nat.reduceSub,Nat.reduceMul,Nat.reduceBEq,Nat.reduceEqDiff,Nat.reduceLT,Nat.reduceLeDiff,Nat.reduceDiv,reduceIte,reduceCtorEq, dg, decide_not, Bool.not_false]
def ragW (d : Ct) (l : List Ev) : Bool := if cnt5 l = 0 then true else ragP d l (gev l (l.length - 1))
omit hcl in
theorem cnt5_le : ∀ {l : List Ev}, cnt5 l ≤ l.length
  | [] => Nat.le_refl _
  | e :: l => by
    have := cnt5_le (l := l)
    show (if e.kind = 5 then 1 else 0) + cnt5 l ≤ l.length + 1
    split <;> omega
set_option maxRecDepth 20000 in
set_option maxHeartbeats 8000000 in
theorem ragrees_ok (hl : l.length ≤ 1000) (hg : gameP code cap fuel = 0) (hE : (ovE (ctNew code cap fuel) 0 l).2 = 0) : Holds Tryz.prog 17 [.game code cap fuel, .c (.lst .no none 6 (evs l))] [] (fun r h' => r = .tup [.c (.val (.bool (ragW (ovC (ctNew code cap fuel) l) l))), .int .i64 0] ∧ h' = []) := by
  have hn := over_h code cap fuel l hcl hl hg
  have hI := (inv_new hg).ov (l := l)
  have hev := ov_len (l := l) (c := ctNew code cap fuel)
  have h0 : (ctNew code cap fuel).events.length = 0 := rfl
  have g4 : (ovC (ctNew code cap fuel) l).cap = cap := (ov_game (l := l) (c := ctNew code cap fuel)).2.1
  generalize ovC (ctNew code cap fuel) l = d at hn hI hev g4
  have hs := rst_h d hI (by omega)
  have hr := rresult_h d.st cap fuel code
  have hw := res_win (cap := cap) hI.win
  have eR : resP d.st d.cap = resP d.st cap := by rw [g4]
  generalize resP d.st cap = R at hr hw eR
  obtain ⟨w, y, o⟩ := R
  simp only at hr hw
  refine holds_of_awp Tryz.func17 rfl (by decide +kernel) mixed Tryz.ntmps17 Tryz.results17 ?_
  refine zE ?_
  refine zs ?_;try exact trivial
  refine a_call [] (hn) ok0 ?_ ?_ ?_
  · refine zs ?_;try exact trivial
  · refine zs ?_;try exact trivial
  rintro _ _ ⟨_, h1⟩
  obtain ⟨rfl, rfl⟩ := h1 hE
  refine zc ?_;try exact trivial
  refine a_loopk (fun i : Nat => ⟨[.undef, V.cell (.lst .no none 6 (evs l)), V.cell (.ptr (.loc [2]) 0), .undef, V.bool false, V.int .i64 0, V.cell (.ptr (.loc [18, 0, 13, 0, 12]) 0), .undef, .undef, V.int .i64 (cnt5 (l.take i) : Int), V.int .i64 (i : Int), U, U, U, U, U, U, U, U, U, U, U, U, U, U, U, U, U, U, U, U, U, U, U, U, U, U, U, U, U, U, U, U, U, U, U, U, U, U, U, U, U, U, U, U, U, U, U, U, U, U, U, U, U, U, U, U, U, U, U, U, U, U, U, U, U, U, U, U, U, U, U, U, U, U, U, U, U, .undef], [(.loc [18, 0, 13, 0, 12], rfB (.loc [18, 0, 13, 0, 12]) d), (.loc [2], [.lst .no none 2 (ins code), .val (.int .i64 cap), .val (.int .i64 fuel)])]⟩) (fun i => i ≤ l.length) (fun i => l.length - i) 0 (by omega) ?_ ?_
  · try (refine zs ?_; try exact trivial)
    all_goals first | rfl | exact ⟨rfl, leCs_refl _⟩ | trace_state
  intro i hi
  have c1 := cnt5_le (l := l.take i)
  rw [List.length_take] at c1
  refine zs ?_;try exact trivial
  cases g : decide ((i : Int) < (l.length : Int))
  · have e : l.take i = l := List.take_of_length_le (by have := of_decide_eq_false g; omega)
    rw [e] at c1 ⊢
    have ez : i = l.length := by have := of_decide_eq_false g; omega
    subst ez
    cases z : decide ((cnt5 l : Int) = 0)
    · have ew : ragW d l = ragP d l (gev l (l.length - 1)) := by unfold ragW; rw [if_neg (by have := of_decide_eq_false z; omega)]
      rw [ew]
      have hlen : 0 < l.length := by have := of_decide_eq_false z; omega
      have ei : ((l.length : Int) - 1).toNat = l.length - 1 := by omega
      simp (maxSteps:=2000000) (disch:=omega) only [go_sem,Nat.reduceAdd,Nat.reduceSub,Nat.reduceMul,Nat.reduceBEq,Nat.reduceEqDiff,Nat.reduceLT,Nat.reduceLeDiff,Nat.reduceDiv,reduceIte,reduceCtorEq, g, z, ei]
      refine a_drawC (⟨[.undef, V.cell (.lst .no none 6 (evs l)), .undef, .undef, V.bool false, V.int .i64 0, V.cell (.ptr (.loc [18, 0, 13, 0, 12]) 0), .undef, .undef, V.int .i64 (cnt5 l : Int), .undef, V.cell (.ptr (.loc [11]) 0), V.int .i64 w, V.int .i64 y, V.bool o, U, U, U, U, U, U, U, U, U, U, U, U, U, U, U, U, U, U, U, U, U, U, U, U, U, U, U, U, U, U, U, U, U, U, U, U, U, U, U, U, U, U, U, U, U, U, U, U, U, U, U, U, U, U, U, U, U, U, U, U, U, U, U, U, U, U, U, U, U, U, U, U, U, .undef], [(.loc [18, 0, 13, 0, 12], rfB (.loc [18, 0, 13, 0, 12]) d), (.loc [11], evC (gev l (l.length - 1)))]⟩) (.take 0 (.both [(1, .both [(2, .both [(3, .take 4 (.take 5 (.take 6 (.take 7 (.take 8 (.take 9 (.take 10 (.done))))))))])]), (2, .both [(1, .both [(3, .take 4 (.take 5 (.take 6 (.take 7 (.take 8 (.take 9 (.take 10 (.done))))))))])])])) (by kernel_rfl) (by kernel_rfl) ?_ ?_
      · refine zc ?_;try exact trivial
        repeat' (with_reducible apply And.intro)
        all_goals (
          refine a_call [.loc [18, 0, 13, 0, 12]] hs (ok1 rfl) ?_ ?_ ?_
          · refine zs ?_;try exact trivial
          · refine zs ?_;try exact trivial
          rintro _ _ ⟨rfl, rfl⟩
          refine zc ?_;try exact trivial
          repeat' (with_reducible apply And.intro)
          all_goals (
            refine a_call [] hr ok0 ?_ ?_ ?_
            · refine zs ?_;try exact trivial
            · refine zs ?_;try exact trivial
            rintro _ _ ⟨rfl, rfl⟩
            (refine zc ?_; try exact trivial))
          all_goals first | exact leCs_refl _ | exact ⟨leCs_refl _, leCs_refl _⟩ | trace_state)
      refine a_quiet (by kernel_rfl) (by kernel_rfl) (by kernel_rfl) ?_
      generalize hx : gev l (l.length - 1) = x
      have ag : ragP d l x = (decide (cnt5 l = 1) && decide (x.kind = 5) && o && (!d.over) && decide (x.player = plr w d.p0 d.p1) && decide (x.n = y)) := by unfold ragP; rw [eR]
      clear hn hs hr
      cases a1 : decide ((cnt5 l : Int) = 1)
      · have b1 : decide (cnt5 l = 1) = false := decide_eq_false (by have := of_decide_eq_false a1; omega)
        simp (maxSteps:=2000000) (disch:=omega) only [go_sem,Nat.reduceAdd,Nat.reduceSub,Nat.reduceMul,Nat.reduceBEq,Nat.reduceEqDiff,Nat.reduceLT,Nat.reduceLeDiff,Nat.reduceDiv,reduceIte,reduceCtorEq, a1, ag, b1, Bool.false_and]
      have b1 : decide (cnt5 l = 1) = true := decide_eq_true (by have := of_decide_eq_true a1; omega)
      cases a2 : decide (x.kind = 5)
      · simp (maxSteps:=2000000) (disch:=omega) only [go_sem,Nat.reduceAdd,Nat.reduceSub,Nat.reduceMul,Nat.reduceBEq,Nat.reduceEqDiff,Nat.reduceLT,Nat.reduceLeDiff,Nat.reduceDiv,reduceIte,reduceCtorEq, a1, a2, ag, b1, Bool.false_and, Bool.true_and]
      cases o
      · simp (maxSteps:=2000000) (disch:=omega) only [go_sem,Nat.reduceAdd,Nat.reduceSub,Nat.reduceMul,Nat.reduceBEq,Nat.reduceEqDiff,Nat.reduceLT,Nat.reduceLeDiff,Nat.reduceDiv,reduceIte,reduceCtorEq, a1, a2, ag, b1, Bool.false_and, Bool.true_and]
      cases a4 : d.over
      · rcases hw with rfl | rfl
        · cases a5 : decide (x.player = d.p0)
          · simp (maxSteps:=2000000) (disch:=omega) only [go_sem,Nat.reduceAdd,Nat.reduceSub,Nat.reduceMul,Nat.reduceBEq,Nat.reduceEqDiff,Nat.reduceLT,Nat.reduceLeDiff,Nat.reduceDiv,reduceIte,reduceCtorEq, a1, a2, a4, a5, ag, b1, plr, Bool.false_and, Bool.true_and, Bool.not_false, Int.reduceLT, Int.reduceLE, Int.reduceToNat, Int.reduceEq]
          simp (maxSteps:=2000000) (disch:=omega) only [go_sem,Nat.reduceAdd,Nat.reduceSub,Nat.reduceMul,Nat.reduceBEq,Nat.reduceEqDiff,Nat.reduceLT,Nat.reduceLeDiff,Nat.reduceDiv,reduceIte,reduceCtorEq, a1, a2, a4, a5, ag, b1, plr, Bool.false_and, Bool.true_and, Bool.not_false, Int.reduceLT, Int.reduceLE, Int.reduceToNat, Int.reduceEq]
        cases a5 : decide (x.player = d.p1)
        · simp (maxSteps:=2000000) (disch:=omega) only [go_sem,Nat.reduceAdd,Nat.reduceSub,Nat.reduceMul,Nat.reduceBEq,Nat.reduceEqDiff,Nat.reduceLT,Nat.reduceLeDiff,Nat.reduceDiv,reduceIte,reduceCtorEq, a1, a2, a4, a5, ag, b1, plr, Bool.false_and, Bool.true_and, Bool.not_false, Int.reduceLT, Int.reduceLE, Int.reduceToNat, Int.reduceEq]
        simp (maxSteps:=2000000) (disch:=omega) only [go_sem,Nat.reduceAdd,Nat.reduceSub,Nat.reduceMul,Nat.reduceBEq,Nat.reduceEqDiff,Nat.reduceLT,Nat.reduceLeDiff,Nat.reduceDiv,reduceIte,reduceCtorEq, a1, a2, a4, a5, ag, b1, plr, Bool.false_and, Bool.true_and, Bool.not_false, Int.reduceLT, Int.reduceLE, Int.reduceToNat, Int.reduceEq]
      simp (maxSteps:=2000000) (disch:=omega) only [go_sem,Nat.reduceAdd,Nat.reduceSub,Nat.reduceMul,Nat.reduceBEq,Nat.reduceEqDiff,Nat.reduceLT,Nat.reduceLeDiff,Nat.reduceDiv,reduceIte,reduceCtorEq, a1, a2, a4, ag, b1, Bool.false_and, Bool.true_and, Bool.not_true]
    have ew : ragW d l = true := by unfold ragW; rw [if_pos (by have := of_decide_eq_true z; omega)]
    rw [ew]
    simp (maxSteps:=2000000) (disch:=omega) only [go_sem,Nat.reduceAdd,Nat.reduceSub,Nat.reduceMul,Nat.reduceBEq,Nat.reduceEqDiff,Nat.reduceLT,Nat.reduceLeDiff,Nat.reduceDiv,reduceIte,reduceCtorEq, g, z]
  have g' := of_decide_eq_true g
  have hlt : i < l.length := by omega
  have htk := gev_take hlt
  cases k : decide ((gev l i).kind = 5)
  · have e : cnt5 (l.take (i + 1)) = cnt5 (l.take i) := by
      rw [htk, cnt5_app]; show _ + ((if (gev l i).kind = 5 then 1 else 0) + 0) = _; rw [if_neg (of_decide_eq_false k)]; omega
    simp (maxSteps:=2000000) (disch:=omega) only [go_sem,Nat.reduceAdd,Nat.reduceSub,Nat.reduceMul,Nat.reduceBEq,Nat.reduceEqDiff,Nat.reduceLT,Nat.reduceLeDiff,Nat.reduceDiv,reduceIte,reduceCtorEq, g, k]
    refine ⟨i + 1, by omega, by omega, ?_⟩
    rw [e]
    try (refine zc ?_; try exact trivial)
    all_goals first | exact ⟨rfl, leCs_refl _⟩ | exact leCs_refl _ | trace_state
  have e : cnt5 (l.take (i + 1)) = cnt5 (l.take i) + 1 := by
    rw [htk, cnt5_app]; show _ + ((if (gev l i).kind = 5 then 1 else 0) + 0) = _; rw [if_pos (of_decide_eq_true k)]
  simp (maxSteps:=2000000) (disch:=omega) only [go_sem,Nat.reduceAdd,Nat.reduceSub,Nat.reduceMul,Nat.reduceBEq,Nat.reduceEqDiff,Nat.reduceLT,Nat.reduceLeDiff,Nat.reduceDiv,reduceIte,reduceCtorEq, g, k]
  refine ⟨i + 1, by omega, by omega, ?_⟩
  rw [e]
  try (refine zc ?_; try exact trivial)
  all_goals first | exact ⟨rfl, leCs_refl _⟩ | exact leCs_refl _ | trace_state
end
end
section
def slowP (code : List (Int × Int)) (fuel : Int) : Bool := if 120 < (code.length : Int) then true else if 300 < fuel then decide (fuel ≤ 2000) else false
theorem slow_h (code : List (Int × Int)) (cap fuel : Int) : Holds Tryz.prog 8 [.game code cap fuel] [] (fun r h' => r = V.bool (slowP code fuel) ∧ h' = []) := by
  refine holds_of_awp Tryz.func8 rfl (by decide +kernel) mixed Tryz.ntmps8 Tryz.results8 ?_
  refine zE ?_
  refine zc ?_;try exact trivial
  cases d1 : decide (120 < (code.length : Int))
  · cases d2 : decide (300 < fuel)
    · have e : slowP code fuel = false := by unfold slowP; rw [if_neg (of_decide_eq_false d1), if_neg (of_decide_eq_false d2)]
      rw [e]
      simp (maxSteps:=2000000) (disch:=omega) only [go_sem,Nat.reduceAdd,Nat.reduceSub,Nat.reduceMul,Nat.reduceBEq,Nat.reduceEqDiff,Nat.reduceLT,Nat.reduceLeDiff,Nat.reduceDiv,reduceIte,reduceCtorEq, d1, d2]
    have e : slowP code fuel = decide (fuel ≤ 2000) := by unfold slowP; rw [if_neg (of_decide_eq_false d1), if_pos (of_decide_eq_true d2)]
    rw [e]
    simp (maxSteps:=2000000) (disch:=omega) only [go_sem,Nat.reduceAdd,Nat.reduceSub,Nat.reduceMul,Nat.reduceBEq,Nat.reduceEqDiff,Nat.reduceLT,Nat.reduceLeDiff,Nat.reduceDiv,reduceIte,reduceCtorEq, d1, d2]
  have e : slowP code fuel = true := by unfold slowP; rw [if_pos (of_decide_eq_true d1)]
  rw [e]
  simp (maxSteps:=2000000) (disch:=omega) only [go_sem,Nat.reduceAdd,Nat.reduceSub,Nat.reduceMul,Nat.reduceBEq,Nat.reduceEqDiff,Nat.reduceLT,Nat.reduceLeDiff,Nat.reduceDiv,reduceIte,reduceCtorEq, d1]
end
end Go.Proofs.YtgeelaafmnedmaaGreat
