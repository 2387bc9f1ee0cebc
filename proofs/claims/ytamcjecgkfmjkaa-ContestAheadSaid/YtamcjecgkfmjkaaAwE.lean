/- The logic: rules by which it is reckoned. -/
import Derived.Test.YtamcjecgkfmjkaaAwM
open Go Go.RowKit
namespace Go.Proofs.Ytamcjecgkfmjkaa
set_option linter.unusedSimpArgs false

/-- a proof that simp does not see through -/
theorem nr {p : Prop} (h : p) : p := h
def byt (bs : List UInt8) : List D := bs.map fun b => .val (.int .u8 b.toNat)
@[go_sem] theorem byt_len (bs : List UInt8) : (byt bs).length = bs.length := by simp [byt]
theorem byt_get {bs : List UInt8} {i : Nat} (h : i < bs.length) : ((byt bs).drop i).map D.toC = .val (.int .u8 (bs.getD i 0).toNat) :: ((byt bs).drop (i + 1)).map D.toC := by
  unfold byt
  rw [← List.map_drop, List.drop_eq_getElem_cons h, List.map_cons, List.map_cons, ← List.map_drop]
  simp [D.toC, h]
@[go_sem ↓] theorem e_byt {bs : List UInt8} {i : Nat} {V' : C → Prop} (h : i < bs.length) : (∃ c, (((byt bs).drop i).map D.toC)[0]? = some c ∧ V' c) = V' (.val (.int .u8 (bs.getD i 0).toNat)) := by
  rw [byt_get h]; simp

section
variable {P : Program} {ops : Array Oper} {rest : List Oper} {K : St → Prop} {s : St} {d : Option Tmp} {ty : TypeId} {ps : String} {af : Array Edge}

/-! ### code -/
variable {Q : AExit → St → Prop}
@[go_sem ↓] theorem e_skip : awp P .skip Q s = Q .normal s := nr rfl
@[go_sem ↓] theorem e_seq {a b : Code} : awp P (.seq a b) Q s = awp P a (thenK (awp P b Q) Q) s := nr rfl
/-- a branch that is not looked into before it is taken -/
def aCondC (P : Program) (c : V) (a b : Code) (Q : AExit → St → Prop) (s : St) : Prop := aCond c (awp P a Q s) (awp P b Q s)
@[congr] theorem cg_aCondC {c c' : V} {a b : Code} {s' : St} (h0 : c = c') (h1 : s = s') : aCondC P c a b Q s = aCondC P c' a b Q s' := by subst h0; subst h1; rfl
@[go_sem ↓] theorem e_cond {c : Operand} {a b : Code} : awp P (.cond c a b) Q s = aCondC P (s.ev c) a b Q s := nr rfl
@[go_sem ↓] theorem e_block {i : Nat} {c : Code} : awp P (.block i c) Q s = awp P c (blockK i Q) s := nr rfl
@[go_sem ↓] theorem e_exit {i : Nat} : awp P (.exit i) Q s = Q (.exit i) s := nr rfl
@[go_sem ↓] theorem e_scope {c : Code} : awp P (.scope c) Q s = awp P c Q s := nr rfl
@[go_sem ↓] theorem e_ret : awp P .ret Q s = Q .ret s := nr rfl
@[go_sem ↓] theorem e_region {i : Nat} {l : List Oper} : awp P (.region i l.toArray false) Q s = aList P l.toArray l (Q .normal) s := nr rfl
@[go_sem ↓] theorem e_draw {i : Nat} {l : List Oper} : awp P (.region i l.toArray true) Q s = aReg P l.toArray true (Q .normal) s := nr rfl
@[go_sem ↓] theorem e_then_n {K' : St → Prop} : thenK K' Q .normal = K' := nr rfl
@[go_sem ↓] theorem e_then_e {K' : St → Prop} {i : Nat} : thenK K' Q (.exit i) = Q (.exit i) := nr rfl
@[go_sem ↓] theorem e_then_r {K' : St → Prop} : thenK K' Q .ret = Q .ret := nr rfl
@[go_sem ↓] theorem e_blk_n {i : Nat} : blockK i Q .normal = Q .normal := nr rfl
@[go_sem ↓] theorem e_blk_r {i : Nat} : blockK i Q .ret = Q .ret := nr rfl
@[go_sem ↓] theorem e_blk_e {i j : Nat} : blockK i Q (.exit j) s = if j = i then Q .normal s else Q (.exit j) s := nr rfl
theorem e_cond_b {b : Bool} {x y : Prop} (h1 : b = true → x) (h2 : b = false → y) : aCond (V.bool b) x y := ⟨h1, h2⟩
theorem c_dec {p : Prop} [Decidable p] {a b : Code} (h1 : p → awp P a Q s) (h2 : ¬ p → awp P b Q s) : aCondC P (V.bool (decide p)) a b Q s := ⟨fun h => h1 (by simpa using h), fun h => h2 (by simpa using h)⟩
@[go_sem ↓] theorem e_cond_t {a b : Code} : aCondC P (V.bool true) a b Q s = awp P a Q s := by simp [aCondC, aCond]
@[go_sem ↓] theorem e_cond_f {a b : Code} : aCondC P (V.bool false) a b Q s = awp P b Q s := by simp [aCondC, aCond]

theorem a_loop {c : Code} (I : Nat → St → Prop) (n₀ : Nat) (h0 : ∃ s', leS s' s ∧ I n₀ s') (hr : ∀ n s, I n s → awp P c (thenK (fun s' => ∃ m, m < n ∧ ∃ s'', leS s'' s' ∧ I m s'') Q) s) : awp P (.loop c) Q s := ⟨I, n₀, h0, hr⟩
theorem a_loopk {α : Type} {c : Code} (S : α → St) (J : α → Prop) (m : α → Nat) (a₀ : α) (hj : J a₀) (h0 : leS (S a₀) s) (hr : ∀ a, J a → awp P c (thenK (fun s' => ∃ a', m a' < m a ∧ J a' ∧ leS (S a') s') Q) (S a)) : awp P (.loop c) Q s := by
  refine a_loop (fun n s => ∃ a, J a ∧ n = m a ∧ s = S a) (m a₀) ⟨_, h0, a₀, hj, rfl, rfl⟩ ?_
  rintro n s ⟨a, ha, rfl, rfl⟩
  refine awp_mono (fun e s h => ?_) (hr a ha)
  cases e with
  | normal => obtain ⟨a', h1, h2, h3⟩ := h; exact ⟨m a', h1, _, h3, a', h2, rfl, rfl⟩
  | exit i => exact h
  | ret => exact h
theorem a_draw {ops : Array Oper} (p : Plan) (h1 : Region.noSelect ops = true) (h2 : planOK ops ops.size (Array.replicate ops.size false) p = true) (h : aPlan P ops p K s) : aReg P ops true K s := ⟨p, h1, h2, aPlan_mono (fun s h => ⟨s, leS_refl s, h⟩) p h⟩
/-- .. and all its orders meet in one state -/
theorem a_drawC {ops : Array Oper} (S : St) (p : Plan) (h1 : Region.noSelect ops = true) (h2 : planOK ops ops.size (Array.replicate ops.size false) p = true) (h : aPlan P ops p (fun s' => leS S s') s) (hK : K S) : aReg P ops true K s := ⟨p, h1, h2, aPlan_mono (fun s h => ⟨S, h, hK⟩) p h⟩

def pl (l : List Nat) : Plan := l.foldr Plan.take .done
def noRow (P : Program) (o : Oper) : Bool := match o.op with
  | .convert t t' _ => !isSlcT P t && sbT P t' != some true
  | _ => true
theorem quiet_op {o : Oper} {K' : V → St → Prop} (hq : quietOp o.op = true) (hn : noRow P o = true) (h : aOp P o s K') : (match o.op with
      | .load t x => aLoad P t (s.ev x) s fun v => K' v s
      | op => aPureOp P op s fun v => K' v s) := by
  obtain ⟨dst, op, ty, ps, af, g⟩ := o
  unfold aOp at h
  simp only at h hq ⊢
  split at h <;> first | exact h | (exfalso; simp [quietOp] at hq; done) | (unfold aConvS at h; simp only [aPureOp]; split at h <;> first | exact h | (have := h.1; simp [noRow, this] at hn; done) | (rename_i heq; rw [heq]; unfold aConvT at h; split at h <;> first | exact h | (rename_i hq; simp [noRow, hq] at hn; done))) | skip
  rename_i h1 h2 h3 h4 h5 h6 h7 h8 h9 h10 h11
  split
  · rename_i t x; exact absurd rfl (h1 t x)
  · exact h
theorem quiet_list {l : List Oper} : ∀ {pre : List Oper} {s : St}, ops = (pre ++ l).toArray → l.all (fun o => quietOp o.op && noRow P o) = true → aList P ops l K s → aPlan P ops (pl (List.range' pre.length l.length)) K s := by
  induction l with
  | nil => intro pre s _ _ h; simp only [List.length_nil, List.range'_zero, pl, List.foldr_nil, aPlan]; exact h
  | cons o l ih =>
    intro pre s ho hq h
    simp only [List.all_cons, Bool.and_eq_true] at hq
    have hi : ops[pre.length]? = some o := by rw [ho]; simp
    have next : ∀ s, aList P ops l K s → aPlan P ops (pl (List.range' (pre.length + 1) l.length)) K s := fun s h => by
      have := ih (pre := pre ++ [o]) (s := s) (by rw [ho]; simp) hq.2 h
      simpa using this
    simp only [List.length_cons, List.range'_succ, pl, List.foldr_cons]
    change aPlan P ops (.take pre.length (pl (List.range' (pre.length + 1) l.length))) K s
    simp only [aPlan]
    unfold aTake
    rw [hi]
    simp only
    simp only [aList] at h
    refine aWanted_mono (fun h => ?_) (next _) h
    have h2 := quiet_op hq.1.1 hq.1.2 h
    generalize o.op = op at h2 ⊢
    cases op <;> first | exact aLoad_mono (fun v => next _) h2 | exact aPureOp_mono (fun v => next _) h2
theorem a_quiet {l : List Oper} (h1 : Region.noSelect l.toArray = true) (h2 : planOK l.toArray l.toArray.size (Array.replicate l.toArray.size false) (pl (List.range' 0 l.length)) = true) (h3 : l.all (fun o => quietOp o.op && noRow P o) = true) (h : aList P l.toArray l K s) : aReg P l.toArray true K s :=
  ⟨_, h1, h2, aPlan_mono (fun s h => ⟨s, leS_refl s, h⟩) _ (quiet_list (pre := []) rfl h3 h)⟩

/-! ### lists of operations -/
@[go_sem ↓] theorem e_nil : aList P ops [] K s = K s := nr rfl
@[go_sem ↓] theorem e_move {x : Operand} : aList P ops (⟨d, .move x, ty, ps, af, none⟩ :: rest) K s = aList P ops rest K (s.put d (s.ev x)) := nr rfl
@[go_sem ↓] theorem e_assign {x : Operand} : aList P ops (⟨d, .assign x, ty, ps, af, none⟩ :: rest) K s = aList P ops rest K (s.put d (s.ev x)) := nr rfl
@[go_sem ↓] theorem e_pick {c a b : Operand} : aList P ops (⟨d, .pick c a b, ty, ps, af, none⟩ :: rest) K s = aPureOp P (.pick c a b) s fun v => aList P ops rest K (s.put d v) := nr rfl
@[go_sem ↓] theorem e_binT {op : BinOp} {t t' : TypeId} {x : Operand} {j : Nat} : aList P ops (⟨d, .binOp op t x (.tmp j) t', ty, ps, af, none⟩ :: rest) K s = aBin P op t (s.ev x) (s.ev (.tmp j)) fun v => aList P ops rest K (s.put d v) := nr rfl
@[go_sem ↓] theorem e_binI {op : BinOp} {t t' : TypeId} {x : Operand} {k : IntKind} {n : Int} : aList P ops (⟨d, .binOp op t x (.const (.int k n)) t', ty, ps, af, none⟩ :: rest) K s = aBin P op t (s.ev x) (s.ev (.const (.int k n))) fun v => aList P ops rest K (s.put d v) := nr rfl
@[go_sem ↓] theorem e_binB {op : BinOp} {t t' : TypeId} {x : Operand} {b : Bool} : aList P ops (⟨d, .binOp op t x (.const (.bool b)) t', ty, ps, af, none⟩ :: rest) K s = aBin P op t (s.ev x) (s.ev (.const (.bool b))) fun v => aList P ops rest K (s.put d v) := nr rfl
@[go_sem ↓] theorem e_binS {op : BinOp} {t t' : TypeId} {x : Operand} {b : ByteArray} : aList P ops (⟨d, .binOp op t x (.const (.string b)) t', ty, ps, af, none⟩ :: rest) K s = aBin P op t (s.ev x) (s.ev (.const (.string b))) fun v => aList P ops rest K (s.put d v) := nr rfl
@[go_sem ↓] theorem e_binP {op : BinOp} {t t' : TypeId} {x : Operand} {a : Option Addr} : aList P ops (⟨d, .binOp op t x (.const (.pointer a)) t', ty, ps, af, none⟩ :: rest) K s = aBin P op t (s.ev x) (s.ev (.const (.pointer a))) fun v => aList P ops rest K (s.put d v) := nr rfl
@[go_sem ↓] theorem e_binF {op : BinOp} {t t' : TypeId} {x : Operand}  : aList P ops (⟨d, .binOp op t x (.const .nilFunc) t', ty, ps, af, none⟩ :: rest) K s = aBin P op t (s.ev x) (s.ev (.const .nilFunc)) fun v => aList P ops rest K (s.put d v) := nr rfl
@[go_sem ↓] theorem e_binL {op : BinOp} {t t' : TypeId} {x : Operand} {a : Option Addr} {n c : Nat} : aList P ops (⟨d, .binOp op t x (.const (.slice a n c)) t', ty, ps, af, none⟩ :: rest) K s = aBin P op t (s.ev x) (s.ev (.const (.slice a n c))) fun v => aList P ops rest K (s.put d v) := nr rfl
@[go_sem ↓] theorem e_binA {op : BinOp} {t t' : TypeId} {x : Operand} {cs : Array Value} : aList P ops (⟨d, .binOp op t x (.const (.agg cs)) t', ty, ps, af, none⟩ :: rest) K s = aBin P op t (s.ev x) (s.ev (.const (.agg cs))) fun v => aList P ops rest K (s.put d v) := nr rfl
@[go_sem ↓] theorem e_binG {op : BinOp} {t t' : TypeId} {x : Operand} {k : Nat} : aList P ops (⟨d, .binOp op t x (.global k) t', ty, ps, af, none⟩ :: rest) K s = aBin P op t (s.ev x) (s.ev (.global k)) fun v => aList P ops rest K (s.put d v) := nr rfl
@[go_sem ↓] theorem e_binU {op : BinOp} {t t' : TypeId} {x : Operand} {k : Nat} : aList P ops (⟨d, .binOp op t x (.func k) t', ty, ps, af, none⟩ :: rest) K s = aBin P op t (s.ev x) (s.ev (.func k)) fun v => aList P ops rest K (s.put d v) := nr rfl
@[go_sem ↓] theorem e_binN {op : BinOp} {t t' : TypeId} {x : Operand} : aList P ops (⟨d, .binOp op t x (.const .nilIface) t', ty, ps, af, none⟩ :: rest) K s = aNilI P op t (s.ev x) fun v => aList P ops rest K (s.put d v) := nr rfl
@[go_sem ↓] theorem e_un {op : UnOp} {t : TypeId} {x : Operand} : aList P ops (⟨d, .unOp op t x, ty, ps, af, none⟩ :: rest) K s = aUn op (s.ev x) fun v => aList P ops rest K (s.put d v) := nr rfl
@[go_sem ↓] theorem e_conv {t t' : TypeId} {x : Operand} : aList P ops (⟨d, .convert t t' x, ty, ps, af, none⟩ :: rest) K s = aConvS P t t' (s.ev x) s fun v s' => aList P ops rest K (s'.put d v) := nr rfl
@[go_sem ↓] theorem e_cvi0 {t t' : TypeId} {k : IntKind} {n : Int} {K' : V → St → Prop} : aConvS P t t' (V.int k n) s K' = aConv P t t' (V.int k n) fun v => K' v s := nr rfl
@[go_sem ↓] theorem e_cvs0 {t t' : TypeId} {b : ByteArray} {K' : V → St → Prop} : aConvS P t t' (V.val (.string b)) s K' = aConvT (sbT P t') P t t' b s K' := nr rfl
@[congr] theorem cg_aConvT {q q' : Option Bool} {t t' : TypeId} {b : ByteArray} {s : St} {K' : V → St → Prop} (h0 : q = q') : aConvT q P t t' b s K' = aConvT q' P t t' b s K' := by subst h0; rfl
@[go_sem ↓] theorem e_cvt1 {t t' : TypeId} {b : ByteArray} {K' : V → St → Prop} : aConvT (some false) P t t' b s K' = aConv P t t' (V.val (.string b)) fun v => K' v s := nr rfl
@[go_sem ↓] theorem e_cvt2 {t t' : TypeId} {bs : List UInt8} {K' : V → St → Prop} : aConvT (some true) P t t' (strB bs) s K' = (isStrT P t = true ∧ bs.length ≤ 140737488355328 ∧ K' (.cell (.lst .no (some false) 1 (byt bs))) s) := nr rfl
@[go_sem ↓] theorem e_cvt3 {t t' : TypeId} {bs : List UInt8} {K' : V → St → Prop} : aConvT (some true) P t t' ⟨bs.toArray⟩ s K' = (isStrT P t = true ∧ bs.length ≤ 140737488355328 ∧ K' (.cell (.lst .no (some false) 1 (byt bs))) s) := nr rfl
@[go_sem ↓] theorem e_fa {t : TypeId} {x : Operand} {i : Nat} : aList P ops (⟨d, .fieldAddr t x i, ty, ps, af, none⟩ :: rest) K s = aFieldAddr P t (s.ev x) i fun v => aList P ops rest K (s.put d v) := nr rfl
@[go_sem ↓] theorem e_fld {t : TypeId} {x : Operand} {i : Nat} : aList P ops (⟨d, .field t x i, ty, ps, af, none⟩ :: rest) K s = aField P t (s.ev x) i fun v => aList P ops rest K (s.put d v) := nr rfl
@[go_sem ↓] theorem e_ia {t : TypeId} {x i : Operand} : aList P ops (⟨d, .indexAddr t x i, ty, ps, af, none⟩ :: rest) K s = aIndexAddr P t (s.ev x) (s.ev i) fun v => aList P ops rest K (s.put d v) := nr rfl
@[go_sem ↓] theorem e_ix {t : TypeId} {x i : Operand} : aList P ops (⟨d, .index t x i, ty, ps, af, none⟩ :: rest) K s = aIndex P t (s.ev x) (s.ev i) fun v => aList P ops rest K (s.put d v) := nr rfl
@[go_sem ↓] theorem e_ext {x : Operand} {i : Nat} : aList P ops (⟨d, .extract x i, ty, ps, af, none⟩ :: rest) K s = aExtract (s.ev x) i fun v => aList P ops rest K (s.put d v) := nr rfl
@[go_sem ↓] theorem e_nc {x : Operand} : aList P ops (⟨d, .nilCheck x, ty, ps, af, none⟩ :: rest) K s = aNilCheck (s.ev x) fun v => aList P ops rest K (s.put d v) := nr rfl
@[go_sem ↓] theorem e_mf {f : Fn} {a b : Array Operand} : aList P ops (⟨d, .makeFunc f a b, ty, ps, af, none⟩ :: rest) K s = aMakeFunc f (a.toList.map s.ev) (b.toList.map s.ev) fun v => aList P ops rest K (s.put d v) := nr rfl
@[go_sem ↓] theorem e_mi {t : TypeId} {x : Operand} : aList P ops (⟨d, .makeInterface t x, ty, ps, af, none⟩ :: rest) K s = aMakeIface P t (s.ev x) fun v => aList P ops rest K (s.put d v) := nr rfl
@[go_sem ↓] theorem e_sl {t : TypeId} {x : Operand} {lo hi : Option Operand} : aList P ops (⟨d, .slice t x lo hi none, ty, ps, af, none⟩ :: rest) K s = aSlice P t (s.ev x) (lo.map s.ev) (hi.map s.ev) fun v => aList P ops rest K (s.put d v) := nr rfl
@[go_sem ↓] theorem e_len {x : Operand} {t : TypeId} : aList P ops (⟨d, .call ⟨.builtin .len, ⟨[x]⟩, ⟨[t]⟩⟩, ty, ps, af, none⟩ :: rest) K s = aLen P t (s.ev x) fun v => aList P ops rest K (s.put d v) := nr rfl
@[go_sem ↓] theorem e_max {xs : List Operand} {ts : Array TypeId} : aList P ops (⟨d, .call ⟨.builtin .max, ⟨xs⟩, ts⟩, ty, ps, af, none⟩ :: rest) K s = aMinMax true (xs.map s.ev) fun v => aList P ops rest K (s.put d v) := nr rfl
@[go_sem ↓] theorem e_min {xs : List Operand} {ts : Array TypeId} : aList P ops (⟨d, .call ⟨.builtin .min, ⟨xs⟩, ts⟩, ty, ps, af, none⟩ :: rest) K s = aMinMax false (xs.map s.ev) fun v => aList P ops rest K (s.put d v) := nr rfl
@[go_sem ↓] theorem e_load {t : TypeId} {x : Operand} : aList P ops (⟨d, .load t x, ty, ps, af, none⟩ :: rest) K s = aLoad P t (s.ev x) s fun v => aList P ops rest K (s.put d v) := nr rfl
@[go_sem ↓] theorem e_store {t : TypeId} {x y : Operand} : aList P ops (⟨d, .store t x y, ty, ps, af, none⟩ :: rest) K s = aStore P t (s.ev x) (s.ev y) s fun v s' => aList P ops rest K (s'.put d v) := nr rfl
@[go_sem ↓] theorem e_alloc {e : TypeId} {k : Nat} : aList P ops (⟨some k, .alloc e, ty, ps, af, none⟩ :: rest) K s = ∃ z, allocC P e = some z ∧ aNewA k z s fun v s' => aList P ops rest K (s'.put (some k) v) := by
  simp [aList, aWanted, aOp]
@[go_sem ↓] theorem e_box {e : TypeId} {x : Operand} {k : Nat} : aList P ops (⟨some k, .box e x, ty, ps, af, none⟩ :: rest) K s = ∃ z, cellsOf (s.ev x) = some z ∧ aNew k z s fun v s' => aList P ops rest K (s'.put (some k) v) := by
  simp [aList, aWanted, aOp]
@[go_sem ↓] theorem e_build {t : TypeId} {pa : Array (Nat × Operand)} : aList P ops (⟨d, .build t pa, ty, ps, af, none⟩ :: rest) K s = aBuild P t (pa.toList.map fun p => (p.1, s.ev p.2)) fun v => aList P ops rest K (s.put d v) := nr rfl
@[go_sem ↓] theorem e_bs {t : TypeId} {n k : Nat} {pa : Array (Nat × Operand)} : aList P ops (⟨some k, .buildSlice t n pa, ty, ps, af, none⟩ :: rest) K s = aBuildSlice P t n (pa.toList.map fun p => (p.1, s.ev p.2)) k s fun v s' => aList P ops rest K (s'.put (some k) v) := by
  simp [aList, aWanted, aOp]
@[go_sem ↓] theorem e_mk {t : TypeId} {l c : Operand} {k : Nat} : aList P ops (⟨some k, .makeSlice t l c, ty, ps, af, none⟩ :: rest) K s = aMakeSlice P t (s.ev l) (s.ev c) k s fun v s' => aList P ops rest K (s'.put (some k) v) := by
  simp [aList, aWanted, aOp]
@[go_sem ↓] theorem e_app {t : TypeId} {x y : Operand} {k : Nat} : aList P ops (⟨some k, .call ⟨.builtin .append, ⟨[x, y]⟩, ⟨[t, t]⟩⟩, ty, ps, af, none⟩ :: rest) K s = aAppX P t (s.ev x) (s.ev y) k s fun v s' => aList P ops rest K (s'.put (some k) v) := by
  simp [aList, aWanted, aOp, aAppT]
@[go_sem ↓] theorem e_appN {t t' : TypeId} {x y : Operand} {k : Nat} (h : t' ≠ t) : aList P ops (⟨some k, .call ⟨.builtin .append, ⟨[x, y]⟩, ⟨[t, t']⟩⟩, ty, ps, af, none⟩ :: rest) K s = aAppN P t t' (s.ev x) (s.ev y) k s fun v s' => aList P ops rest K (s'.put (some k) v) := by
  simp [aList, aWanted, aOp, aAppT, h]
@[go_sem ↓] theorem e_copy {t t' : TypeId} {x y : Operand} : aList P ops (⟨d, .call ⟨.builtin .copy, ⟨[x, y]⟩, ⟨[t, t']⟩⟩, ty, ps, af, none⟩ :: rest) K s = aCopy P t (s.ev x) (s.ev y) s fun v s' => aList P ops rest K (s'.put d v) := nr rfl
def aCall (P : Program) (f : V) (args : List V) (d : Nat) (s : St) (K : V → St → Prop) : Prop :=
  match f with
  | .w (.c (.fn (.func k) first caps)) => aCallF P k (first.map pvV ++ args ++ caps.map pvV) d s K
  | _ => False
@[go_sem ↓] theorem e_call {f : Operand} {args : List Operand} {ts : Array TypeId} : aList P ops (⟨d, .call ⟨.value f, ⟨args⟩, ts⟩, ty, ps, af, none⟩ :: rest) K s = aCall P (s.ev f) (args.map s.ev) (d.getD 1000003) s fun v s' => aList P ops rest K (s'.put d v) := by
  simp only [aList, aWanted, aOp]
  rfl
def opDst : List Oper → Nat → Option Tmp
  | [], _ => none
  | o :: _, 0 => o.dst
  | _ :: l, n + 1 => opDst l n
@[go_sem ↓] theorem e_od0 {o : Oper} {l : List Oper} : opDst (o :: l) 0 = o.dst := nr rfl
@[go_sem ↓] theorem e_odS {o : Oper} {l : List Oper} {n : Nat} : opDst (o :: l) (n + 1) = opDst l n := nr rfl
theorem opDst_eq (l : List Oper) (j : Nat) : (l.toArray[j]?).bind (·.dst) = opDst l j := by
  induction l generalizing j with
  | nil => simp [opDst]
  | cons o l ih => cases j with
    | zero => simp [opDst]
    | succ j => have := ih j; simpa [opDst] using this
def aWn (t : Option Tmp) (s : St) (w : Bool) (yes no : Prop) : Prop :=
  match t with
  | some t => match s.slots.getD t V.undef with
    | .w (.c (.val (.bool b))) => (b = w → yes) ∧ (b = !w → no)
    | .tup [] => no
    | _ => False
  | none => False
def aWv (v : V) (w : Bool) (yes no : Prop) : Prop :=
  match v with
  | .w (.c (.val (.bool b))) => (b = w → yes) ∧ (b = !w → no)
  | .tup [] => no
  | _ => False
theorem aWanted_eq {l : List Oper} {op : Op} {j : Nat} {w : Bool} {yes no : Prop} : aWanted l.toArray ⟨d, op, ty, ps, af, some (j, w)⟩ s yes no = aWn (opDst l j) s w yes no := by
  unfold aWanted aWn
  simp only [opDst_eq]
  cases opDst l j <;> rfl
@[go_sem ↓] theorem e_wn {t : Tmp} {l : List V} {h : Heap} {w : Bool} {yes no : Prop} : aWn (some t) ⟨l, h⟩ w yes no = aWv (l.getD t V.undef) w yes no := nr rfl
@[go_sem ↓] theorem e_wtt {yes no : Prop} : aWv (V.bool true) true yes no = yes := by simp [aWv]
@[go_sem ↓] theorem e_wtf {yes no : Prop} : aWv (V.bool true) false yes no = no := by simp [aWv]
@[go_sem ↓] theorem e_wft {yes no : Prop} : aWv (V.bool false) true yes no = no := by simp [aWv]
@[go_sem ↓] theorem e_wff0 {w : Bool} {yes no : Prop} : aWv V.off w yes no = no := nr rfl
@[go_sem ↓] theorem e_wff {yes no : Prop} : aWv (V.bool false) false yes no = yes := by simp [aWv]
theorem w_t {p : Prop} [Decidable p] {yes no : Prop} (h1 : p → yes) (h2 : ¬ p → no) : aWv (V.bool (decide p)) true yes no := ⟨fun h => h1 (by simpa using h), fun h => h2 (by simpa using h)⟩
theorem w_f {p : Prop} [Decidable p] {yes no : Prop} (h1 : ¬ p → yes) (h2 : p → no) : aWv (V.bool (decide p)) false yes no := ⟨fun h => h1 (by simpa using h), fun h => h2 (by simpa using h)⟩
/-- an operation under a guard that is not looked into before the guard is known -/
def aWnC (P : Program) (l : List Oper) (t : Option Tmp) (w : Bool) (d : Option Tmp) (op : Op) (ty : TypeId) (ps : String) (af : Array Edge) (rest : List Oper) (K : St → Prop) (s : St) : Prop :=
  aWn t s w (aList P l.toArray (⟨d, op, ty, ps, af, none⟩ :: rest) K s) (aList P l.toArray rest K (s.put d V.off))
def aWvC (P : Program) (l : List Oper) (v : V) (w : Bool) (d : Option Tmp) (op : Op) (ty : TypeId) (ps : String) (af : Array Edge) (rest : List Oper) (K : St → Prop) (s : St) : Prop :=
  aWv v w (aList P l.toArray (⟨d, op, ty, ps, af, none⟩ :: rest) K s) (aList P l.toArray rest K (s.put d V.off))
variable {l : List Oper} {op : Op}
@[congr] theorem cg_aWnC {t t' : Option Tmp} {w : Bool} {s' : St} (h0 : t = t') (h1 : s = s') : aWnC P l t w d op ty ps af rest K s = aWnC P l t' w d op ty ps af rest K s' := by subst h0; subst h1; rfl
@[congr] theorem cg_aWvC {t t' : V} {w : Bool} {s' : St} (h0 : t = t') (h1 : s = s') : aWvC P l t w d op ty ps af rest K s = aWvC P l t' w d op ty ps af rest K s' := by subst h0; subst h1; rfl
@[go_sem ↓] theorem e_guard {j : Nat} {w : Bool} : aList P l.toArray (⟨d, op, ty, ps, af, some (j, w)⟩ :: rest) K s = aWnC P l (opDst l j) w d op ty ps af rest K s := by
  show aWanted _ _ _ _ _ = _
  rw [aWanted_eq]
  rfl
@[go_sem ↓] theorem e_wnC {t : Tmp} {w : Bool} {sl : List V} {h : Heap} : aWnC P l (some t) w d op ty ps af rest K ⟨sl, h⟩ = aWvC P l (sl.getD t V.undef) w d op ty ps af rest K ⟨sl, h⟩ := nr rfl
@[go_sem ↓] theorem e_wCtt : aWvC P l (V.bool true) true d op ty ps af rest K s = aList P l.toArray (⟨d, op, ty, ps, af, none⟩ :: rest) K s := by simp [aWvC, aWv]
@[go_sem ↓] theorem e_wCtf : aWvC P l (V.bool true) false d op ty ps af rest K s = aList P l.toArray rest K (s.put d V.off) := by simp [aWvC, aWv]
@[go_sem ↓] theorem e_wCft : aWvC P l (V.bool false) true d op ty ps af rest K s = aList P l.toArray rest K (s.put d V.off) := by simp [aWvC, aWv]
@[go_sem ↓] theorem e_wC0 {w : Bool} : aWvC P l V.off w d op ty ps af rest K s = aList P l.toArray rest K (s.put d V.off) := nr rfl
@[go_sem ↓] theorem e_wCff : aWvC P l (V.bool false) false d op ty ps af rest K s = aList P l.toArray (⟨d, op, ty, ps, af, none⟩ :: rest) K s := by simp [aWvC, aWv]
theorem g_t {p : Prop} [Decidable p] (h1 : p → aList P l.toArray (⟨d, op, ty, ps, af, none⟩ :: rest) K s) (h2 : ¬ p → aList P l.toArray rest K (s.put d V.off)) : aWvC P l (V.bool (decide p)) true d op ty ps af rest K s := ⟨fun h => h1 (by simpa using h), fun h => h2 (by simpa using h)⟩
theorem g_f {p : Prop} [Decidable p] (h1 : ¬ p → aList P l.toArray (⟨d, op, ty, ps, af, none⟩ :: rest) K s) (h2 : p → aList P l.toArray rest K (s.put d V.off)) : aWvC P l (V.bool (decide p)) false d op ty ps af rest K s := ⟨fun h => h1 (by simpa using h), fun h => h2 (by simpa using h)⟩
def aPick (c x y : V) (K : V → Prop) : Prop :=
  match c with
  | .w (.c (.val (.bool t))) => (t = true → K x) ∧ (t = false → K y)
  | _ => False
@[go_sem ↓] theorem e_pk {c a b : Operand} {V' : V → Prop} : aPureOp P (.pick c a b) s V' = aPick (s.ev c) (s.ev a) (s.ev b) V' := nr rfl
@[go_sem ↓] theorem e_pkt {x y : V} {V' : V → Prop} : aPick (V.bool true) x y V' = V' x := by simp [aPick]
@[go_sem ↓] theorem e_pkf {x y : V} {V' : V → Prop} : aPick (V.bool false) x y V' = V' y := by simp [aPick]
theorem p_dec {p : Prop} [Decidable p] {x y : V} {V' : V → Prop} (h1 : p → V' x) (h2 : ¬ p → V' y) : aPick (V.bool (decide p)) x y V' := ⟨fun h => h1 (by simpa using h), fun h => h2 (by simpa using h)⟩

variable {R : V → Heap → Prop} {rs : List ResultVar} {KR : List V → Prop}
@[go_sem ↓] theorem e_end_r : aEnd P rs R .ret s = aRes P rs s fun vs => ∃ v h', leV v (packV vs) ∧ leH h' s.heap ∧ R v h' := nr rfl
@[go_sem ↓] theorem e_end_n : aEnd P rs R .normal s = aRes P rs s fun vs => ∃ v h', leV v (packV vs) ∧ leH h' s.heap ∧ R v h' := nr rfl
@[go_sem ↓] theorem e_res0 : aRes P [] s KR = KR [] := nr rfl
@[go_sem ↓] theorem e_rest {t : Tmp} : aRes P (.tmp t :: rs) s KR = aRes P rs s fun vs => KR (s.slots.getD t V.undef :: vs) := nr rfl
@[go_sem ↓] theorem e_resc {b : Tmp} {t : TypeId} : aRes P (.cell b t :: rs) s KR = aLoadBox P t (s.slots.getD b V.undef) s fun v => aRes P rs s fun vs => KR (v :: vs) := nr rfl
@[go_sem ↓] theorem e_pack1 {v : V} : packV [v] = v := nr rfl
@[go_sem ↓] theorem e_pack0 : packV [] = .tup [] := nr rfl
@[go_sem ↓] theorem e_pack2 {v u : V} {l : List V} : packV (v :: u :: l) = .tup ((v :: u :: l).map V.toW) := nr rfl
/-! ### regions that draw -/
@[go_sem ↓] theorem e_pdone : aPlan P ops .done K s = K s := by simp [aPlan]
@[go_sem ↓] theorem e_ptake {i : Nat} {p : Plan} : aPlan P ops (.take i p) K s = aTake P ops i s (aPlan P ops p K) := by simp only [aPlan]
/-- one operation as the head of a list -/
def aStep (P : Program) (ops : Array Oper) (o : Oper) (s : St) (K : St → Prop) : Prop := aWanted ops o s (match o.op with
      | .load t x => aLoad P t (s.ev x) s fun v => K (s.put o.dst v)
      | op => aPureOp P op s fun v => K (s.put o.dst v)) (K (s.put o.dst V.off))
@[go_sem ↓] theorem e_take {l : List Oper} {i : Nat} : aTake P l.toArray i s K = match l[i]? with
    | some o => aStep P l.toArray o s K
    | none => False := by
  unfold aTake aStep
  simp
  rfl
@[go_sem ↓] theorem s_move {x : Operand} : aStep P ops ⟨d, .move x, ty, ps, af, none⟩ s K = K (s.put d (s.ev x)) := nr rfl
@[go_sem ↓] theorem s_assign {x : Operand} : aStep P ops ⟨d, .assign x, ty, ps, af, none⟩ s K = K (s.put d (s.ev x)) := nr rfl
@[go_sem ↓] theorem s_pick {c a b : Operand} : aStep P ops ⟨d, .pick c a b, ty, ps, af, none⟩ s K = aPureOp P (.pick c a b) s fun v => K (s.put d v) := nr rfl
@[go_sem ↓] theorem s_binT {op : BinOp} {t t' : TypeId} {x : Operand} {j : Nat} : aStep P ops ⟨d, .binOp op t x (.tmp j) t', ty, ps, af, none⟩ s K = aBin P op t (s.ev x) (s.ev (.tmp j)) fun v => K (s.put d v) := nr rfl
@[go_sem ↓] theorem s_binI {op : BinOp} {t t' : TypeId} {x : Operand} {k : IntKind} {n : Int} : aStep P ops ⟨d, .binOp op t x (.const (.int k n)) t', ty, ps, af, none⟩ s K = aBin P op t (s.ev x) (s.ev (.const (.int k n))) fun v => K (s.put d v) := nr rfl
@[go_sem ↓] theorem s_binB {op : BinOp} {t t' : TypeId} {x : Operand} {b : Bool} : aStep P ops ⟨d, .binOp op t x (.const (.bool b)) t', ty, ps, af, none⟩ s K = aBin P op t (s.ev x) (s.ev (.const (.bool b))) fun v => K (s.put d v) := nr rfl
@[go_sem ↓] theorem s_binS {op : BinOp} {t t' : TypeId} {x : Operand} {b : ByteArray} : aStep P ops ⟨d, .binOp op t x (.const (.string b)) t', ty, ps, af, none⟩ s K = aBin P op t (s.ev x) (s.ev (.const (.string b))) fun v => K (s.put d v) := nr rfl
@[go_sem ↓] theorem s_binP {op : BinOp} {t t' : TypeId} {x : Operand} {a : Option Addr} : aStep P ops ⟨d, .binOp op t x (.const (.pointer a)) t', ty, ps, af, none⟩ s K = aBin P op t (s.ev x) (s.ev (.const (.pointer a))) fun v => K (s.put d v) := nr rfl
@[go_sem ↓] theorem s_binF {op : BinOp} {t t' : TypeId} {x : Operand}  : aStep P ops ⟨d, .binOp op t x (.const .nilFunc) t', ty, ps, af, none⟩ s K = aBin P op t (s.ev x) (s.ev (.const .nilFunc)) fun v => K (s.put d v) := nr rfl
@[go_sem ↓] theorem s_binL {op : BinOp} {t t' : TypeId} {x : Operand} {a : Option Addr} {n c : Nat} : aStep P ops ⟨d, .binOp op t x (.const (.slice a n c)) t', ty, ps, af, none⟩ s K = aBin P op t (s.ev x) (s.ev (.const (.slice a n c))) fun v => K (s.put d v) := nr rfl
@[go_sem ↓] theorem s_binA {op : BinOp} {t t' : TypeId} {x : Operand} {cs : Array Value} : aStep P ops ⟨d, .binOp op t x (.const (.agg cs)) t', ty, ps, af, none⟩ s K = aBin P op t (s.ev x) (s.ev (.const (.agg cs))) fun v => K (s.put d v) := nr rfl
@[go_sem ↓] theorem s_binG {op : BinOp} {t t' : TypeId} {x : Operand} {k : Nat} : aStep P ops ⟨d, .binOp op t x (.global k) t', ty, ps, af, none⟩ s K = aBin P op t (s.ev x) (s.ev (.global k)) fun v => K (s.put d v) := nr rfl
@[go_sem ↓] theorem s_binU {op : BinOp} {t t' : TypeId} {x : Operand} {k : Nat} : aStep P ops ⟨d, .binOp op t x (.func k) t', ty, ps, af, none⟩ s K = aBin P op t (s.ev x) (s.ev (.func k)) fun v => K (s.put d v) := nr rfl
@[go_sem ↓] theorem s_binN {op : BinOp} {t t' : TypeId} {x : Operand} : aStep P ops ⟨d, .binOp op t x (.const .nilIface) t', ty, ps, af, none⟩ s K = aNilI P op t (s.ev x) fun v => K (s.put d v) := nr rfl
@[congr] theorem cg_aNilI {op : BinOp} {t : TypeId} {x x' : V} {V' : V → Prop} (h0 : x = x') : aNilI P op t x V' = aNilI P op t x' V' := by subst h0; rfl
@[go_sem ↓] theorem e_ni1 {t : TypeId} {V' : V → Prop} : aNilI P .neq t (.cell .ifc) V' = (isIfcT P t = true ∧ V' (.bool true)) := nr rfl
@[go_sem ↓] theorem e_ni2 {t : TypeId} {V' : V → Prop} : aNilI P .eql t (.cell .ifc) V' = (isIfcT P t = true ∧ V' (.bool false)) := nr rfl
@[go_sem ↓] theorem e_ni3 {t : TypeId} {V' : V → Prop} : aNilI P .neq t (V.val .nilIface) V' = (isIfcT P t = true ∧ V' (.bool false)) := nr rfl
@[go_sem ↓] theorem e_ni4 {t : TypeId} {V' : V → Prop} : aNilI P .eql t (V.val .nilIface) V' = (isIfcT P t = true ∧ V' (.bool true)) := nr rfl
@[go_sem ↓] theorem e_ni5 {t t' : TypeId} {x : Value} {V' : V → Prop} : aNilI P .neq t (V.val (.iface t' x)) V' = (isIfcT P t = true ∧ V' (.bool true)) := nr rfl
@[go_sem ↓] theorem e_ni6 {t t' : TypeId} {x : Value} {V' : V → Prop} : aNilI P .eql t (V.val (.iface t' x)) V' = (isIfcT P t = true ∧ V' (.bool false)) := nr rfl
@[go_sem ↓] theorem s_un {op : UnOp} {t : TypeId} {x : Operand} : aStep P ops ⟨d, .unOp op t x, ty, ps, af, none⟩ s K = aUn op (s.ev x) fun v => K (s.put d v) := nr rfl
@[go_sem ↓] theorem s_conv {t t' : TypeId} {x : Operand} : aStep P ops ⟨d, .convert t t' x, ty, ps, af, none⟩ s K = aConv P t t' (s.ev x) fun v => K (s.put d v) := nr rfl
@[go_sem ↓] theorem s_fa {t : TypeId} {x : Operand} {i : Nat} : aStep P ops ⟨d, .fieldAddr t x i, ty, ps, af, none⟩ s K = aFieldAddr P t (s.ev x) i fun v => K (s.put d v) := nr rfl
@[go_sem ↓] theorem s_fld {t : TypeId} {x : Operand} {i : Nat} : aStep P ops ⟨d, .field t x i, ty, ps, af, none⟩ s K = aField P t (s.ev x) i fun v => K (s.put d v) := nr rfl
@[go_sem ↓] theorem s_ia {t : TypeId} {x i : Operand} : aStep P ops ⟨d, .indexAddr t x i, ty, ps, af, none⟩ s K = aIndexAddr P t (s.ev x) (s.ev i) fun v => K (s.put d v) := nr rfl
@[go_sem ↓] theorem s_ix {t : TypeId} {x i : Operand} : aStep P ops ⟨d, .index t x i, ty, ps, af, none⟩ s K = aIndex P t (s.ev x) (s.ev i) fun v => K (s.put d v) := nr rfl
@[go_sem ↓] theorem s_ext {x : Operand} {i : Nat} : aStep P ops ⟨d, .extract x i, ty, ps, af, none⟩ s K = aExtract (s.ev x) i fun v => K (s.put d v) := nr rfl
@[go_sem ↓] theorem s_nc {x : Operand} : aStep P ops ⟨d, .nilCheck x, ty, ps, af, none⟩ s K = aNilCheck (s.ev x) fun v => K (s.put d v) := nr rfl
@[go_sem ↓] theorem s_mf {f : Fn} {a b : Array Operand} : aStep P ops ⟨d, .makeFunc f a b, ty, ps, af, none⟩ s K = aMakeFunc f (a.toList.map s.ev) (b.toList.map s.ev) fun v => K (s.put d v) := nr rfl
@[go_sem ↓] theorem s_mi {t : TypeId} {x : Operand} : aStep P ops ⟨d, .makeInterface t x, ty, ps, af, none⟩ s K = aMakeIface P t (s.ev x) fun v => K (s.put d v) := nr rfl
@[go_sem ↓] theorem s_sl {t : TypeId} {x : Operand} {lo hi : Option Operand} : aStep P ops ⟨d, .slice t x lo hi none, ty, ps, af, none⟩ s K = aSlice P t (s.ev x) (lo.map s.ev) (hi.map s.ev) fun v => K (s.put d v) := nr rfl
@[go_sem ↓] theorem s_len {x : Operand} {t : TypeId} : aStep P ops ⟨d, .call ⟨.builtin .len, ⟨[x]⟩, ⟨[t]⟩⟩, ty, ps, af, none⟩ s K = aLen P t (s.ev x) fun v => K (s.put d v) := nr rfl
@[go_sem ↓] theorem s_max {xs : List Operand} {ts : Array TypeId} : aStep P ops ⟨d, .call ⟨.builtin .max, ⟨xs⟩, ts⟩, ty, ps, af, none⟩ s K = aMinMax true (xs.map s.ev) fun v => K (s.put d v) := nr rfl
@[go_sem ↓] theorem s_min {xs : List Operand} {ts : Array TypeId} : aStep P ops ⟨d, .call ⟨.builtin .min, ⟨xs⟩, ts⟩, ty, ps, af, none⟩ s K = aMinMax false (xs.map s.ev) fun v => K (s.put d v) := nr rfl
@[go_sem ↓] theorem s_load {t : TypeId} {x : Operand} : aStep P ops ⟨d, .load t x, ty, ps, af, none⟩ s K = aLoad P t (s.ev x) s fun v => K (s.put d v) := nr rfl
@[go_sem] theorem s_guard {l : List Oper} {op : Op} {j : Nat} {w : Bool} : aStep P l.toArray ⟨d, op, ty, ps, af, some (j, w)⟩ s K = aWn (opDst l j) s w (aStep P l.toArray ⟨d, op, ty, ps, af, none⟩ s K) (K (s.put d V.off)) := by
  show aWanted _ _ _ _ _ = _
  rw [aWanted_eq]
  rfl
def aBt (P : Program) (ops : Array Oper) (q : Option Oper) (s : St) (K : St → Prop) : Prop :=
  match q with
  | some o => aList P ops [o] K s
  | none => False
@[congr] theorem cg_aBt {q q' : Option Oper} (h0 : q = q') : aBt P ops q s K = aBt P ops q' s K := by subst h0; rfl
@[go_sem ↓] theorem e_bt {o : Oper} : aBt P ops (some o) s K = aList P ops [o] K s := nr rfl
@[go_sem ↓] theorem e_plans {l : List Oper} {i : Nat} {p : Plan} {m : List (Nat × Plan)} : aPlans P l.toArray ((i, p) :: m) K s = (aBt P l.toArray (l[i]?) s (aPlan P l.toArray p K) ∧ aPlans P l.toArray m K s) := by
  simp only [aPlans, aBt, aList, List.getElem?_toArray]
  cases l[i]? <;> rfl
@[go_sem ↓] theorem e_plans0 : aPlans P ops [] K s = True := by simp only [aPlans]
@[go_sem ↓] theorem e_both {l : List (Nat × Plan)} : aPlan P ops (.both l) K s = aPlans P ops l K s := by simp only [aPlan]

/-! ### states -/
variable {l : List V} {h : Heap}
@[go_sem ↓] theorem e_tmp {t : Tmp} : St.ev ⟨l, h⟩ (.tmp t) = l.getD t V.undef := nr rfl
@[go_sem ↓] theorem e_const {v : Value} : s.ev (.const v) = ofValue v := nr rfl
@[go_sem ↓] theorem e_glob {k : Nat} : s.ev (.global k) = .w (.c (.mem (globD k))) := nr rfl
@[go_sem ↓] theorem e_func {f : FuncId} : s.ev (.func f) = .w (.c (.fn (.func f) [] [])) := nr rfl
@[go_sem ↓] theorem e_put {k : Nat} {v : V} : St.put ⟨l, h⟩ (some k) v = ⟨l.set k v, h⟩ := nr rfl
@[go_sem ↓] theorem e_put0 {v : V} : s.put none v = s := nr rfl
@[go_sem ↓] theorem e_slots : (⟨l, h⟩ : St).slots = l := nr rfl
@[go_sem ↓] theorem e_heap : (⟨l, h⟩ : St).heap = h := nr rfl
@[go_sem ↓] theorem e_cint {k : IntKind} {n : Int} : ofValue (.int k n) = V.int k n := nr rfl
@[go_sem ↓] theorem e_cbool {b : Bool} : ofValue (.bool b) = V.bool b := nr rfl
@[go_sem ↓] theorem e_cstr {b : ByteArray} : ofValue (.string b) = V.val (.string b) := nr rfl
@[go_sem ↓] theorem e_cptr : ofValue (.pointer none) = V.val (.pointer none) := nr rfl
@[go_sem ↓] theorem e_cslc : ofValue (.slice none 0 0) = .cell (.lst .full (some true) 1 []) := nr rfl
@[go_sem ↓] theorem e_cnf : ofValue .nilFunc = V.val .nilFunc := nr rfl
@[go_sem ↓] theorem e_cni : ofValue .nilIface = V.val .nilIface := nr rfl
@[go_sem ↓] theorem e_get0 {v : V} : (v :: l).getD 0 V.undef = v := nr rfl
@[go_sem ↓] theorem e_getS {v : V} {n : Nat} : (v :: l).getD (n + 1) V.undef = l.getD n V.undef := nr rfl
@[go_sem ↓] theorem e_set0 {v u : V} : (v :: l).set 0 u = u :: l := nr rfl
@[go_sem ↓] theorem e_setS {v u : V} {n : Nat} : (v :: l).set (n + 1) u = v :: l.set n u := nr rfl

/-! ### values -/
variable {V' : V → Prop} {k : IntKind} {a b : Int}
@[go_sem ↓] theorem e_bint {op : BinOp} {t : TypeId} {k' : IntKind} : aBin P op t (V.int k a) (V.int k' b) V' = aInt op k a k' b V' := nr rfl
@[go_sem ↓] theorem e_add : aInt .add k a k b V' = V' (.int k (k.wrap (a + b))) := by simp [aInt]
@[go_sem ↓] theorem e_sub : aInt .sub k a k b V' = V' (.int k (k.wrap (a - b))) := by simp [aInt]
@[go_sem ↓] theorem e_mul : aInt .mul k a k b V' = V' (.int k (k.wrap (a * b))) := by simp [aInt]
@[go_sem ↓] theorem e_and : aInt .and k a k b V' = V' (.int k (k.wrap (BitVec.ofInt k.bits a &&& BitVec.ofInt k.bits b).toNat)) := by simp [aInt]
@[go_sem ↓] theorem e_or : aInt .or k a k b V' = V' (.int k (k.wrap (BitVec.ofInt k.bits a ||| BitVec.ofInt k.bits b).toNat)) := by simp [aInt]
@[go_sem ↓] theorem e_xor : aInt .xor k a k b V' = V' (.int k (k.wrap (BitVec.ofInt k.bits a ^^^ BitVec.ofInt k.bits b).toNat)) := by simp [aInt]
@[go_sem ↓] theorem e_eql : aInt .eql k a k b V' = V' (.bool (decide (a = b))) := by
  have : (a == b) = decide (a = b) := by rw [Bool.eq_iff_iff]; simp
  simp [aInt, this]
@[go_sem ↓] theorem e_neq : aInt .neq k a k b V' = V' (.bool (decide (a ≠ b))) := by
  have : (a != b) = decide (a ≠ b) := by rw [Bool.eq_iff_iff]; simp
  simp only [aInt, this, true_and]
@[go_sem ↓] theorem e_lss : aInt .lss k a k b V' = V' (.bool (decide (a < b))) := by simp [aInt]
@[go_sem ↓] theorem e_leq : aInt .leq k a k b V' = V' (.bool (decide (a ≤ b))) := by simp [aInt]
@[go_sem ↓] theorem e_gtr : aInt .gtr k a k b V' = V' (.bool (decide (b < a))) := by simp [aInt]
@[go_sem ↓] theorem e_geq : aInt .geq k a k b V' = V' (.bool (decide (b ≤ a))) := by simp [aInt]
@[go_sem ↓] theorem e_quo (hb : b ≠ 0) : aInt .quo k a k b V' = V' (.int k (k.wrap (a.tdiv b))) := by simp [aInt, hb]
@[go_sem ↓] theorem e_rem (hb : b ≠ 0) : aInt .rem k a k b V' = V' (.int k (a.tmod b)) := by simp [aInt, hb]
@[go_sem ↓] theorem e_shl {k' : IntKind} (hb : 0 ≤ b) : aInt .shl k a k' b V' = V' (.int k (k.wrap (a * 2 ^ min b.toNat k.bits))) := by simp [aInt, hb]
@[go_sem ↓] theorem e_shr {k' : IntKind} (hb : 0 ≤ b) : aInt .shr k a k' b V' = V' (.int k (a.fdiv (2 ^ min b.toNat k.bits))) := by simp [aInt, hb]
@[go_sem] theorem wrap_i64 {n : Int} (h : -9223372036854775808 ≤ n) (h' : n ≤ 9223372036854775807) : IntKind.i64.wrap n = n := by
  simp [IntKind.wrap, IntKind.bits, IntKind.signed]; omega
@[go_sem ↓] theorem e_eqA {t : TypeId} {cs ds : List C} : aBin P .eql t (.w (.agg cs)) (.w (.agg ds)) V' = aEqA (flatT P t) cs ds fun b => V' (.bool b) := nr rfl
@[go_sem ↓] theorem e_neA {t : TypeId} {cs ds : List C} : aBin P .neq t (.w (.agg cs)) (.w (.agg ds)) V' = aEqA (flatT P t) cs ds fun b => V' (.bool !b) := nr rfl
@[congr] theorem cg_aEqA {q q' : Option (List (Option IntKind))} {cs ds : List C} {J : Bool → Prop} (h0 : q = q') : aEqA q cs ds J = aEqA q' cs ds J := by subst h0; rfl
@[go_sem ↓] theorem e_nilp {t : TypeId} {i : Id} {o : Nat} : aBin P .neq t (.cell (.ptr i o)) (V.val (.pointer none)) V' = (isPtrT P t = true ∧ V' (.bool true)) := nr rfl
@[go_sem ↓] theorem e_nilq {t : TypeId} {i : Id} {o : Nat} : aBin P .eql t (.cell (.ptr i o)) (V.val (.pointer none)) V' = (isPtrT P t = true ∧ V' (.bool false)) := nr rfl
@[go_sem ↓] theorem e_nc_p {i : Id} {o : Nat} : aNilCheck (.cell (.ptr i o)) V' = V' (.cell (.ptr i o)) := nr rfl
@[go_sem ↓] theorem e_not {c : Bool} : aUn .not (V.bool c) V' = V' (.bool !c) := nr rfl
def aFA (q : Option (Nat × TypeId × Nat)) (x : V) (K : V → Prop) : Prop :=
  match q, x with
  | some (off, _, sz), .w (.c (.ptr j o)) => sz ≠ 0 ∧ K (.cell (.ptr j (o + off)))
  | some (off, _, sz), .w (.c (.mem xs)) => sz ≠ 0 ∧ K (.cell (.mem (xs.drop off)))
  | _, _ => False
@[go_sem ↓] theorem e_fap {t : TypeId} {i : Nat} {x : V} : aFieldAddr P t x i V' = aFA (fldT P t i) x V' := by
  unfold aFieldAddr aFA
  split
  · cases h : fldT P t i with
    | none => simp
    | some q => obtain ⟨x, y, z⟩ := q; simp; exact ⟨fun ⟨_, _, _, ⟨h1, _, h2⟩, h3⟩ => by subst h1; subst h2; exact h3, fun h => ⟨_, _, _, ⟨rfl, rfl, rfl⟩, h⟩⟩
  · cases h : fldT P t i with
    | none => simp
    | some q => obtain ⟨x, y, z⟩ := q; simp; exact ⟨fun ⟨_, _, _, ⟨h1, _, h2⟩, h3⟩ => by subst h1; subst h2; exact h3, fun h => ⟨_, _, _, ⟨rfl, rfl, rfl⟩, h⟩⟩
  · rename_i h1 h2
    cases h : fldT P t i with
    | none => rfl
    | some q =>
      obtain ⟨x, y, z⟩ := q
      split
      · rename_i e _; exact absurd rfl (h1 _ _)
      · rename_i e _; exact absurd rfl (h2 _)
      · rfl
@[go_sem ↓] theorem e_FA1 {off sz : Nat} {t : TypeId} {j : Id} {o : Nat} (hz : sz ≠ 0) : aFA (some (off, t, sz)) (.cell (.ptr j o)) V' = V' (.cell (.ptr j (o + off))) := by simp [aFA, hz]
@[go_sem ↓] theorem e_FA2 {off sz : Nat} {t : TypeId} {xs : List D} (hz : sz ≠ 0) : aFA (some (off, t, sz)) (.cell (.mem xs)) V' = V' (.cell (.mem (xs.drop off))) := by simp [aFA, hz]
def aIA (q : Option (Option Nat × TypeId × Nat)) (x : V) (i : Int) (K : V → Prop) : Prop :=
  match q with
  | some (l, _, sz) => match x, l with
    | .w (.c (.ptr j o)), some n => 0 ≤ i ∧ i < n ∧ K (.cell (.ptr j (o + i.toNat * sz)))
    | .w (.c (.mem xs)), some n => 0 ≤ i ∧ i < n ∧ K (.cell (.mem (xs.drop (i.toNat * sz))))
    | .w (.c (.lst _ _ sz' xs)), none => sz' = sz ∧ 0 ≤ i ∧ i * sz < xs.length ∧ K (.cell (.mem (xs.drop (i.toNat * sz))))
    | .w (.c (.row j o n _)), none => 0 ≤ i ∧ i < n ∧ K (.cell (.ptr j (o + i.toNat * sz)))
    | _, _ => False
  | none => False
@[go_sem ↓] theorem e_iap {t : TypeId} {x : V} {i : Int} : aIndexAddr P t x (V.int k i) V' = aIA (idxT P t) x i V' := by
  unfold aIndexAddr aIA
  simp only
  cases h : idxT P t with
  | none => simp
  | some q => obtain ⟨l, e, sz⟩ := q; simp only [Option.some.injEq, Prod.mk.injEq]; exact propext ⟨fun ⟨_, _, _, ⟨h1, _, h2⟩, h3⟩ => by subst h1; subst h2; exact h3, fun h => ⟨_, _, _, ⟨rfl, rfl, rfl⟩, h⟩⟩
@[go_sem ↓] theorem e_IA1 {o : Own} {nl : Option Bool} {xs : List D} {t : TypeId} {i : Int} (h0 : 0 ≤ i) (h1 : i < xs.length) : aIA (some (none, t, 1)) (.cell (.lst o nl 1 xs)) i V' = V' (.cell (.mem (xs.drop i.toNat))) := by
  simp [aIA, h0, h1]
@[go_sem ↓] theorem e_IA1b {o : Own} {nl : Option Bool} {bs : List UInt8} {t : TypeId} {i : Int} (h0 : 0 ≤ i) (h1 : i < bs.length) : aIA (some (none, t, 1)) (.cell (.lst o nl 1 (byt bs))) i V' = V' (.cell (.mem ((byt bs).drop i.toNat))) := by
  simp [aIA, h0, h1, byt_len]
@[go_sem ↓] theorem e_IA2 {j : Id} {o n sz : Nat} {t : TypeId} {i : Int} (h0 : 0 ≤ i) (h1 : i < n) : aIA (some (some n, t, sz)) (.cell (.ptr j o)) i V' = V' (.cell (.ptr j (o + i.toNat * sz))) := by
  simp [aIA, h0, h1]
@[go_sem ↓] theorem e_IA3 {j : Id} {o n c sz : Nat} {t : TypeId} {i : Int} (h0 : 0 ≤ i) (h1 : i < n) : aIA (some (none, t, sz)) (.cell (.row j o n c)) i V' = V' (.cell (.ptr j (o + i.toNat * sz))) := by
  simp [aIA, h0, h1]
@[go_sem ↓] theorem e_lenL {t : TypeId} {o : Own} {nl : Option Bool} {xs : List D} : aLen P t (.cell (.lst o nl 1 xs)) V' = (isSlcT P t = true ∧ V' (.int .i64 xs.length)) := by simp [aLen]
@[go_sem ↓] theorem e_lenR {t : TypeId} {i : Id} {o n c : Nat} : aLen P t (.cell (.row i o n c)) V' = (isSlcT P t = true ∧ V' (.int .i64 n)) := by simp [aLen]
@[go_sem ↓] theorem e_lenS {t : TypeId} {b : ByteArray} : aLen P t (V.val (.string b)) V' = (isStrT P t = true ∧ V' (.int .i64 b.size)) := by simp [aLen]
def aPt (q : Option Bool) (sz : Nat) (cs : List C) (off : Nat) (K : V → Prop) : Prop :=
  match q with
  | some true => off + sz ≤ cs.length ∧ K (.w (.agg ((cs.drop off).take sz)))
  | some false => ∃ c, cs[off]? = some c ∧ K (.w (.c c))
  | none => False
@[go_sem ↓] theorem e_part {t : TypeId} {sz : Nat} {cs : List C} {off : Nat} : aPart P t sz cs off V' = aPt (isAggT P t) sz cs off V' := nr rfl
@[go_sem ↓] theorem e_pt_f {sz : Nat} {cs : List C} {off : Nat} : aPt (some false) sz cs off V' = ∃ c, cs[off]? = some c ∧ V' (.w (.c c)) := nr rfl
@[go_sem ↓] theorem e_pt_t {sz : Nat} {cs : List C} {off : Nat} : aPt (some true) sz cs off V' = (off + sz ≤ cs.length ∧ V' (.w (.agg ((cs.drop off).take sz)))) := nr rfl
@[go_sem ↓] theorem e_ldm {t : TypeId} {xs : List D} : aLoad P t (.cell (.mem xs)) s V' = ∃ sz, sizeT P t = some sz ∧ aPart P t sz (xs.map D.toC) 0 V' := nr rfl
@[go_sem ↓] theorem e_ldb {t : TypeId} {i : Id} {o : Nat} : aLoad P t (.cell (.ptr i o)) s V' = ∃ cs, hget s.heap i = some cs ∧ ∃ sz, sizeT P t = some sz ∧ aPart P t sz cs o V' := by
  simp only [aLoad, aLoadBox]
  exact propext ⟨fun ⟨a, b, h1, h2, h3⟩ => ⟨a, h1, b, h2, h3⟩, fun ⟨a, h1, b, h2, h3⟩ => ⟨a, b, h1, h2, h3⟩⟩

end
/-! ### less said -/
section
variable {a b : C} {l m : List C} {v u : V} {k : List V} {n : List V}
@[go_sem ↓] theorem l_L0 : leL [] [] = True := nr rfl
@[go_sem ↓] theorem l_L : leL (v :: k) (u :: n) = (leV v u ∧ leL k n) := nr rfl
@[go_sem ↓ high] theorem l_Vr : leV v v = True := eq_true (leV_refl v)
@[go_sem ↓] theorem l_Vu : leV V.undef v = True := nr rfl
@[go_sem ↓ high] theorem l_Cr : leC a a = True := eq_true (leC_refl a)
@[go_sem ↓] theorem l_Cu : leC .undef a = True := nr rfl
@[go_sem ↓ high] theorem l_Csr : leCs l l = True := eq_true (leCs_refl l)
@[go_sem ↓] theorem l_Cs0 : leCs [] [] = True := nr rfl
@[go_sem ↓] theorem l_Cs : leCs (a :: l) (b :: m) = (leC a b ∧ leCs l m) := nr rfl
@[go_sem ↓] theorem l_S {h h' : Heap} : leS ⟨k, h⟩ ⟨n, h'⟩ = (leL k n ∧ leH h h') := nr rfl
@[go_sem ↓] theorem l_H0 {h : Heap} : leH [] h = True := by simp [leH, hget]
@[go_sem ↓ high] theorem l_Hr {h : Heap} : leH h h = True := eq_true (leH_refl h)
end
attribute [go_sem] List.contains_cons List.contains_nil Bool.or_false Bool.false_or Bool.or_true Bool.true_or Bool.false_eq_true
/-! ### what is reckoned first -/
@[congr] theorem cg_awp {P : Program} {c : Code} {Q : AExit → St → Prop} {s s' : St} (h0 : s = s') : awp P c Q s = awp P c Q s' := by subst h0; rfl
@[congr] theorem cg_aWn {t t' : Option Tmp} {s s' : St} {w : Bool} {x y : Prop} (h0 : t = t') (h1 : s = s') : aWn t s w x y = aWn t' s' w x y := by subst h0; subst h1; rfl
@[congr] theorem cg_aWv {v v' : V} {w : Bool} {x y : Prop} (h0 : v = v') : aWv v w x y = aWv v' w x y := by subst h0; rfl
@[congr] theorem cg_aPick {c c' x x' y y' : V} {K : V → Prop} (h0 : c = c') (h1 : x = x') (h2 : y = y') : aPick c x y K = aPick c' x' y' K := by subst h0; subst h1; subst h2; rfl
@[congr] theorem cg_aStep {P : Program} {ops : Array Oper} {o : Oper} {s s' : St} {K : St → Prop} (h0 : s = s') : aStep P ops o s K = aStep P ops o s' K := by subst h0; rfl
@[congr] theorem cg_aPlan {P : Program} {ops : Array Oper} {p : Plan} {s s' : St} {K : St → Prop} (h0 : s = s') : aPlan P ops p K s = aPlan P ops p K s' := by subst h0; rfl
@[congr] theorem cg_aList {P : Program} {ops : Array Oper} {l : List Oper} {K : St → Prop} {s s' : St} (h0 : s = s') : aList P ops l K s = aList P ops l K s' := by subst h0; rfl
@[congr] theorem cg_aCond {c c' : V} {x y : Prop} (h0 : c = c') : aCond c x y = aCond c' x y := by subst h0; rfl
@[congr] theorem cg_aBin {P : Program} {op : BinOp} {t : TypeId} {x y x' y' : V} {K : V → Prop} (h0 : x = x') (h1 : y = y') : aBin P op t x y K = aBin P op t x' y' K := by subst h0; subst h1; rfl
@[congr] theorem cg_aInt {op : BinOp} {k k2 : IntKind} {a b a' b' : Int} {K : V → Prop} (h0 : a = a') (h1 : b = b') : aInt op k a k2 b K = aInt op k a' k2 b' K := by subst h0; subst h1; rfl
@[congr] theorem cg_aUn {op : UnOp} {x x' : V} {K : V → Prop} (h0 : x = x') : aUn op x K = aUn op x' K := by subst h0; rfl
@[congr] theorem cg_aConv {P : Program} {t t2 : TypeId} {x x' : V} {K : V → Prop} (h0 : x = x') : aConv P t t2 x K = aConv P t t2 x' K := by subst h0; rfl
@[congr] theorem cg_aConvS {P : Program} {t t2 : TypeId} {x x' : V} {s s' : St} {K : V → St → Prop} (h0 : x = x') (h1 : s = s') : aConvS P t t2 x s K = aConvS P t t2 x' s' K := by subst h0; subst h1; rfl
@[congr] theorem cg_aField {P : Program} {t : TypeId} {i : Nat} {x x' : V} {K : V → Prop} (h0 : x = x') : aField P t x i K = aField P t x' i K := by subst h0; rfl
@[congr] theorem cg_aFieldAddr {P : Program} {t : TypeId} {i : Nat} {x x' : V} {K : V → Prop} (h0 : x = x') : aFieldAddr P t x i K = aFieldAddr P t x' i K := by subst h0; rfl
@[congr] theorem cg_aFA {q q' : Option (Nat × TypeId × Nat)} {x x' : V} {K : V → Prop} (h0 : q = q') (h1 : x = x') : aFA q x K = aFA q' x' K := by subst h0; subst h1; rfl
@[congr] theorem cg_aIndexAddr {P : Program} {t : TypeId} {x x' ix ix' : V} {K : V → Prop} (h0 : x = x') (h1 : ix = ix') : aIndexAddr P t x ix K = aIndexAddr P t x' ix' K := by subst h0; subst h1; rfl
@[congr] theorem cg_aIA {q q' : Option (Option Nat × TypeId × Nat)} {x x' : V} {i i' : Int} {K : V → Prop} (h0 : q = q') (h1 : x = x') (h2 : i = i') : aIA q x i K = aIA q' x' i' K := by subst h0; subst h1; subst h2; rfl
@[congr] theorem cg_aIndex {P : Program} {t : TypeId} {x x' ix ix' : V} {K : V → Prop} (h0 : x = x') (h1 : ix = ix') : aIndex P t x ix K = aIndex P t x' ix' K := by subst h0; subst h1; rfl
@[congr] theorem cg_aExtract {i : Nat} {x x' : V} {K : V → Prop} (h0 : x = x') : aExtract x i K = aExtract x' i K := by subst h0; rfl
@[congr] theorem cg_aNilCheck {x x' : V} {K : V → Prop} (h0 : x = x') : aNilCheck x K = aNilCheck x' K := by subst h0; rfl
@[congr] theorem cg_aMakeFunc {f : Fn} {l m l' m' : List V} {K : V → Prop} (h0 : l = l') (h1 : m = m') : aMakeFunc f l m K = aMakeFunc f l' m' K := by subst h0; subst h1; rfl
@[congr] theorem cg_aLen {P : Program} {t : TypeId} {x x' : V} {K : V → Prop} (h0 : x = x') : aLen P t x K = aLen P t x' K := by subst h0; rfl
@[congr] theorem cg_aMakeIface {P : Program} {t : TypeId} {x x' : V} {K : V → Prop} (h0 : x = x') : aMakeIface P t x K = aMakeIface P t x' K := by subst h0; rfl
@[congr] theorem cg_aSlice {P : Program} {t : TypeId} {x x' : V} {lo hi lo' hi' : Option V} {K : V → Prop} (h0 : x = x') (h1 : lo = lo') (h2 : hi = hi') : aSlice P t x lo hi K = aSlice P t x' lo' hi' K := by subst h0; subst h1; subst h2; rfl
@[congr] theorem cg_aLoad {P : Program} {t : TypeId} {x x' : V} {s s' : St} {K : V → Prop} (h0 : x = x') (h1 : s = s') : aLoad P t x s K = aLoad P t x' s' K := by subst h0; subst h1; rfl
@[congr] theorem cg_aPart {P : Program} {t : TypeId} {n i i' : Nat} {cs cs' : List C} {K : V → Prop} (h0 : cs = cs') (h1 : i = i') : aPart P t n cs i K = aPart P t n cs' i' K := by subst h0; subst h1; rfl
@[congr] theorem cg_aPt {q q' : Option Bool} {n i i' : Nat} {cs cs' : List C} {K : V → Prop} (h0 : q = q') (h1 : cs = cs') (h2 : i = i') : aPt q n cs i K = aPt q' n cs' i' K := by subst h0; subst h1; subst h2; rfl
@[congr] theorem cg_aMinMax {b : Bool} {xs xs' : List V} {K : V → Prop} (h0 : xs = xs') : aMinMax b xs K = aMinMax b xs' K := by subst h0; rfl
@[congr] theorem cg_aNil {P : Program} {t : TypeId} {x y x' y' : V} {K : Bool → Prop} (h0 : x = x') (h1 : y = y') : aNil P t x y K = aNil P t x' y' K := by subst h0; subst h1; rfl
@[congr] theorem cg_aStr {op : BinOp} {b1 b2 b1' b2' : ByteArray} {K : V → Prop} (h0 : b1 = b1') (h1 : b2 = b2') : aStr op b1 b2 K = aStr op b1' b2' K := by subst h0; subst h1; rfl
@[congr] theorem cg_aStore {P : Program} {t : TypeId} {x y x' y' : V} {s s' : St} {K : V → St → Prop} (h0 : x = x') (h1 : y = y') (h2 : s = s') : aStore P t x y s K = aStore P t x' y' s' K := by subst h0; subst h1; subst h2; rfl
@[congr] theorem cg_aNewA {n : Nat} {cs cs' : List C} {s s' : St} {K : V → St → Prop} (h0 : cs = cs') (h1 : s = s') : aNewA n cs s K = aNewA n cs' s' K := by subst h0; subst h1; rfl
@[congr] theorem cg_aNew {n : Nat} {cs cs' : List C} {s s' : St} {K : V → St → Prop} (h0 : cs = cs') (h1 : s = s') : aNew n cs s K = aNew n cs' s' K := by subst h0; subst h1; rfl
@[congr] theorem cg_aBuild {P : Program} {t : TypeId} {pa pa' : List (Nat × V)} {K : V → Prop} (h0 : pa = pa') : aBuild P t pa K = aBuild P t pa' K := by subst h0; rfl
@[congr] theorem cg_aBuildSlice {P : Program} {t : TypeId} {n i : Nat} {pa pa' : List (Nat × V)} {s s' : St} {K : V → St → Prop} (h0 : pa = pa') (h1 : s = s') : aBuildSlice P t n pa i s K = aBuildSlice P t n pa' i s' K := by subst h0; subst h1; rfl
@[congr] theorem cg_aMakeSlice {P : Program} {t : TypeId} {i : Nat} {x y x' y' : V} {s s' : St} {K : V → St → Prop} (h0 : x = x') (h1 : y = y') (h2 : s = s') : aMakeSlice P t x y i s K = aMakeSlice P t x' y' i s' K := by subst h0; subst h1; subst h2; rfl
@[congr] theorem cg_aSrc {n : Nat} {x x' : V} {s s' : St} {K : List D → Prop} (h0 : x = x') (h1 : s = s') : aSrc n x s K = aSrc n x' s' K := by subst h0; subst h1; rfl
@[congr] theorem cg_aAppend {P : Program} {t : TypeId} {i : Nat} {x y x' y' : V} {s s' : St} {K : V → St → Prop} (h0 : x = x') (h1 : y = y') (h2 : s = s') : aAppend P t x y i s K = aAppend P t x' y' i s' K := by subst h0; subst h1; subst h2; rfl
@[congr] theorem cg_aAppX {P : Program} {t : TypeId} {i : Nat} {x y x' y' : V} {s s' : St} {K : V → St → Prop} (h0 : x = x') (h1 : y = y') (h2 : s = s') : aAppX P t x y i s K = aAppX P t x' y' i s' K := by subst h0; subst h1; subst h2; rfl
@[congr] theorem cg_aCopy {P : Program} {t : TypeId} {x y x' y' : V} {s s' : St} {K : V → St → Prop} (h0 : x = x') (h1 : y = y') (h2 : s = s') : aCopy P t x y s K = aCopy P t x' y' s' K := by subst h0; subst h1; subst h2; rfl
@[congr] theorem cg_aCall {P : Program} {i : Nat} {x x' : V} {xs xs' : List V} {s s' : St} {K : V → St → Prop} (h0 : x = x') (h1 : xs = xs') (h2 : s = s') : aCall P x xs i s K = aCall P x' xs' i s' K := by subst h0; subst h1; subst h2; rfl
@[congr] theorem cg_aCallF {P : Program} {f i : Nat} {xs xs' : List V} {s s' : St} {K : V → St → Prop} (h0 : xs = xs') (h1 : s = s') : aCallF P f xs i s K = aCallF P f xs' i s' K := by subst h0; subst h1; rfl
@[congr] theorem cg_aPureOp {P : Program} {o : Op} {s s' : St} {K : V → Prop} (h0 : s = s') : aPureOp P o s K = aPureOp P o s' K := by subst h0; rfl
@[congr] theorem cg_aWanted {ops : Array Oper} {oo : Oper} {s s' : St} {y1 y2 : Prop} (h0 : s = s') : aWanted ops oo s y1 y2 = aWanted ops oo s' y1 y2 := by subst h0; rfl
@[congr] theorem cg_aEnd {P : Program} {rs : List ResultVar} {R : V → Heap → Prop} {e : AExit} {s s' : St} (h0 : s = s') : aEnd P rs R e s = aEnd P rs R e s' := by subst h0; rfl
end Go.Proofs.Ytamcjecgkfmjkaa
