/- The logic: operations that leave memory alone. -/
import Derived.Test.YtamcjecgkfmjkaaAwG
import Derived.WalkLawsBesides
open Go Go.RowKit
namespace Go.Proofs.Ytamcjecgkfmjkaa

def D.toC : D → C
  | .val x => .val x
  | .lst nl sz xs => .lst .no nl sz xs
def C.toD : C → Option D
  | .val x => some (.val x)
  | .lst _ nl sz xs => some (.lst nl sz xs)
  | _ => none
theorem D.toC_rel {g : Gh} {d : D} {y : Value} (h : RelD g.M d y) : RelC g d.toC y := by
  cases d with
  | val x => cases h with | val h => exact ⟨h, rfl⟩
  | lst nl sz xs => exact ⟨h, trivial⟩
theorem C.toD_rel {g : Gh} {c : C} {d : D} {y : Value} (hd : c.toD = some d) (h : RelC g c y) : RelD g.M d y := by
  cases c with
  | val x => cases hd; obtain ⟨h, rfl⟩ := h; exact .val h
  | lst o nl sz xs => cases hd; exact h.1
  | undef => cases hd
  | ptr => cases hd
  | mem => cases hd
  | row => cases hd
  | fn => cases hd
  | typ => cases hd
  | ifc => cases hd

def MemOK (M : Addr → Option Value) (w : World) : Prop := ∀ a v, M a = some v → w.cell? a = some v

/-! ### types -/
def isAggT (P : Program) (t : TypeId) : Option Bool :=
  match P.underlying t with
  | some (.struct _) => some true
  | some (.array _ _) => some true
  | some _ => some false
  | none => none
def sizeT (P : Program) (t : TypeId) : Option Nat := (P.info? t).map (·.size)
def fldT (P : Program) (s : TypeId) (i : Nat) : Option (Nat × TypeId × Nat) :=
  match P.underlying s with
  | some (.struct fs) => match fs[i]? with
    | some f => (P.info? f.type).map fun inf => (f.offset, f.type, inf.size)
    | none => none
  | _ => none
/-- an array's length (none: a slice), the size of an element -/
def idxT (P : Program) (t : TypeId) : Option (Option Nat × TypeId × Nat) :=
  match P.underlying t with
  | some (.array n e) => (P.info? e).map fun inf => (some n, e, inf.size)
  | some (.slice e) => (P.info? e).map fun inf => (none, e, inf.size)
  | _ => none
def kindT (P : Program) (t : TypeId) : Option IntKind :=
  match P.underlying t with
  | some (.int k) => some k
  | _ => none
def isBoolT (P : Program) (t : TypeId) : Bool :=
  match P.underlying t with
  | some .bool => true
  | _ => false
def isStrT (P : Program) (t : TypeId) : Bool :=
  match P.underlying t with
  | some .string => true
  | _ => false
def isPtrT (P : Program) (t : TypeId) : Bool :=
  match P.underlying t with
  | some (.pointer _) => true
  | _ => false
def isSlcT (P : Program) (t : TypeId) : Bool :=
  match P.underlying t with
  | some (.slice _) => true
  | _ => false
def isFnT (P : Program) (t : TypeId) : Bool :=
  match P.underlying t with
  | some (.func _ _ _) => true
  | _ => false
def knownT (P : Program) (t : TypeId) : Bool := (P.underlying t).isSome

theorem sizeT_info {P : Program} {t : TypeId} {n : Nat} (h : sizeT P t = some n) : ∃ i, P.info? t = some i ∧ i.size = n := by
  unfold sizeT at h
  cases hq : P.info? t with
  | none => rw [hq] at h; cases h
  | some i => rw [hq] at h; simp at h; exact ⟨i, rfl, h⟩
theorem run_sizeOf {P : Program} {t : TypeId} {n : Nat} (h : sizeT P t = some n) (w : World) : (sizeOf t).run P w = .ok n w := by
  obtain ⟨i, hi, rfl⟩ := sizeT_info h
  simp [sizeOf, typeInfo, hi]
theorem run_isAgg {P : Program} {t : TypeId} {b : Bool} (h : isAggT P t = some b) (w : World) : (isAgg t).run P w = .ok b w := by
  unfold isAggT at h
  unfold isAgg
  split at h <;> rename_i hu <;> first | (cases h) | skip
  · simp [run_underlying hu]
  · simp [run_underlying hu]
  · rename_i d h1 h2
    rw [Sem.run_bind, run_underlying hu]
    simp only [Result.andThen_ok]
    cases d <;> simp_all

/-! ### numbers -/
def aInt (op : BinOp) (k : IntKind) (a : Int) (k' : IntKind) (b : Int) (K : V → Prop) : Prop :=
  match op with
  | .shl => 0 ≤ b ∧ K (.int k (k.wrap (a * 2 ^ min b.toNat k.bits)))
  | .shr => 0 ≤ b ∧ K (.int k (a.fdiv (2 ^ min b.toNat k.bits)))
  | .add => k = k' ∧ K (.int k (k.wrap (a + b)))
  | .sub => k = k' ∧ K (.int k (k.wrap (a - b)))
  | .mul => k = k' ∧ K (.int k (k.wrap (a * b)))
  | .quo => k = k' ∧ b ≠ 0 ∧ K (.int k (k.wrap (a.tdiv b)))
  | .rem => k = k' ∧ b ≠ 0 ∧ K (.int k (a.tmod b))
  | .and => k = k' ∧ K (.int k (k.wrap (BitVec.ofInt k.bits a &&& BitVec.ofInt k.bits b).toNat))
  | .or => k = k' ∧ K (.int k (k.wrap (BitVec.ofInt k.bits a ||| BitVec.ofInt k.bits b).toNat))
  | .xor => k = k' ∧ K (.int k (k.wrap (BitVec.ofInt k.bits a ^^^ BitVec.ofInt k.bits b).toNat))
  | .andNot => k = k' ∧ K (.int k (k.wrap (BitVec.ofInt k.bits a &&& ~~~BitVec.ofInt k.bits b).toNat))
  | .eql => k = k' ∧ K (.bool (a == b))
  | .neq => k = k' ∧ K (.bool (a != b))
  | .lss => k = k' ∧ K (.bool (decide (a < b)))
  | .leq => k = k' ∧ K (.bool (decide (a ≤ b)))
  | .gtr => k = k' ∧ K (.bool (decide (a > b)))
  | .geq => k = k' ∧ K (.bool (decide (a ≥ b)))
def aStr (op : BinOp) (a b : ByteArray) (K : V → Prop) : Prop :=
  match op with
  | .add => (a.size + b.size ≤ 9223372036854775807) ∧ K (.val (.string (a ++ b)))
  | .eql => K (.bool (a.toList == b.toList))
  | .neq => K (.bool (!(a.toList == b.toList)))
  | .lss => K (.bool (Op.bytesLess a.toList b.toList))
  | _ => False
/-- 'x == nil' -/
def aNil (P : Program) (t : TypeId) (x y : V) (K : Bool → Prop) : Prop :=
  match y with
  | .w (.c (.val (.pointer none))) => isPtrT P t = true ∧ match x with
    | .w (.c (.ptr _ _)) => K false
    | .w (.c (.mem _)) => K false
    | .w (.c (.val (.pointer none))) => K true
    | _ => False
  | .w (.c (.lst _ (some true) _ _)) => isSlcT P t = true ∧ match x with
    | .w (.c (.row _ _ _ _)) => K false
    | .w (.c (.lst _ (some b) _ _)) => K b
    | .w (.c (.lst _ none _ xs)) => (xs = [] → K true) ∧ K false
    | _ => False
  | .w (.c (.val .nilFunc)) => isFnT P t = true ∧ match x with
    | .w (.c (.fn _ _ _)) => K false
    | .w (.c (.val .nilFunc)) => K true
    | _ => False
  | _ => False
def aBin (P : Program) (op : BinOp) (t : TypeId) (x y : V) (K : V → Prop) : Prop :=
  match x, y with
  | .w (.c (.val (.int k a))), .w (.c (.val (.int k' b))) => aInt op k a k' b K
  | .w (.c (.val (.string a))), .w (.c (.val (.string b))) => aStr op a b K
  | .w (.c (.val (.bool a))), .w (.c (.val (.bool b))) => isBoolT P t = true ∧ match op with
    | .eql => K (.bool (a == b))
    | .neq => K (.bool (a != b))
    | _ => False
  | .w (.agg cs), .w (.agg ds) => match op with
    | .eql => aEqA (flatT P t) cs ds fun b => K (.bool b)
    | .neq => aEqA (flatT P t) cs ds fun b => K (.bool !b)
    | _ => False
  | x, y => match op with
    | .eql => aNil P t x y fun b => K (.bool b)
    | .neq => aNil P t x y fun b => K (.bool !b)
    | _ => False

theorem run_int {P : Program} {op : BinOp} {t : TypeId} {k k' : IntKind} {a b : Int} {K : V → Prop} {x y : Operand} (h : aInt op k a k' b K) :
    ∃ u, scalar u = true ∧ K (.val u) ∧ ∀ w : World, (do eqGuard op t x y (.int k a) (.int k' b); binOp op t (.int k a) (.int k' b) : Sem Value).run P w = .ok u w := by
  have hg : ∀ w : World, (eqGuard op t x y (.int k a) (.int k' b)).run P w = .ok () w := by
    intro w; cases op <;> simp [eqGuard]
  cases op <;> simp only [aInt] at h
  case shl => exact ⟨_, rfl, h.2, fun w => by rw [Sem.run_bind, hg]; have := h.1; simp [binOp, Op.shift, show ¬ b < 0 by omega]⟩
  case shr => exact ⟨_, rfl, h.2, fun w => by rw [Sem.run_bind, hg]; have := h.1; simp [binOp, Op.shift, show ¬ b < 0 by omega]⟩
  case quo => obtain ⟨rfl, h0, h⟩ := h; exact ⟨_, rfl, h, fun w => by rw [Sem.run_bind, hg]; simp [binOp, Op.intDiv, h0]⟩
  case rem => obtain ⟨rfl, h0, h⟩ := h; exact ⟨_, rfl, h, fun w => by rw [Sem.run_bind, hg]; simp [binOp, Op.intDiv, h0]⟩
  all_goals (obtain ⟨rfl, h⟩ := h; exact ⟨_, rfl, h, fun w => by rw [Sem.run_bind, hg]; simp [binOp, Op.intArith, Op.intBits, Op.intCmp] <;> rfl⟩)
theorem run_str {P : Program} {op : BinOp} {t : TypeId} {a b : ByteArray} {K : V → Prop} {x y : Operand} (h : aStr op a b K) :
    ∃ u, scalar u = true ∧ K (.val u) ∧ ∀ w : World, (do eqGuard op t x y (.string a) (.string b); binOp op t (.string a) (.string b) : Sem Value).run P w = .ok u w := by
  have hg : ∀ w : World, (eqGuard op t x y (.string a) (.string b)).run P w = .ok () w := by
    intro w; cases op <;> simp [eqGuard]
  cases op <;> simp only [aStr] at h
  case add =>
    refine ⟨_, rfl, h.2, fun w => ?_⟩
    rw [Sem.run_bind, hg]
    have h1 : ¬ ((a.size + b.size : Nat) : Int) > IntKind.i64.max := by
      have e : IntKind.i64.max = 9223372036854775807 := by decide
      rw [e]; omega
    simp only [Result.andThen_ok, binOp, Op.stringOp]
    rw [if_neg h1]
    rfl
  all_goals exact ⟨_, rfl, h, fun w => by rw [Sem.run_bind, hg]; simp [binOp, Op.stringOp]⟩
theorem eq_of {P : Program} {t : TypeId} {u v : Value} {b : Bool} (h : ∀ d w, (Op.equalIn (d + 1) t u v).run P w = .ok b w) : ∀ w : World, (Op.equal t u v).run P w = .ok b w := fun w => h 9999 w
theorem run_eqb {P : Program} {t : TypeId} {u v : Value} {b : Bool} {X Y : Operand} (he : ∀ w : World, (Op.equal t u v).run P w = .ok b w)
    (h1 : ∀ op w, (eqGuard op t X Y u v).run P w = .ok () w) (h2 : binOp .eql t u v = do pure (.bool (← Op.equal t u v))) (h3 : binOp .neq t u v = do pure (.bool (!(← Op.equal t u v)))) :
    (∀ w : World, (do eqGuard .eql t X Y u v; binOp .eql t u v : Sem Value).run P w = .ok (.bool b) w) ∧ (∀ w : World, (do eqGuard .neq t X Y u v; binOp .neq t u v : Sem Value).run P w = .ok (.bool !b) w) := by
  constructor
  · intro w; rw [Sem.run_bind, h1, Result.andThen_ok, h2]; simp [he]
  · intro w; rw [Sem.run_bind, h1, Result.andThen_ok, h3]; simp [he]
theorem ptrT {P : Program} {t : TypeId} (h : isPtrT P t = true) : ∃ e, P.underlying t = some (.pointer e) := by
  unfold isPtrT at h; split at h
  · exact ⟨_, by assumption⟩
  · cases h
theorem slcT {P : Program} {t : TypeId} (h : isSlcT P t = true) : ∃ e, P.underlying t = some (.slice e) := by
  unfold isSlcT at h; split at h
  · exact ⟨_, by assumption⟩
  · cases h
theorem fnT {P : Program} {t : TypeId} (h : isFnT P t = true) : ∃ a b c, P.underlying t = some (.func a b c) := by
  unfold isFnT at h; split at h
  · exact ⟨_, _, _, by assumption⟩
  · cases h
theorem run_nil {P : Program} {g : Gh} {t : TypeId} {x y : V} {u v : Value} {K : Bool → Prop} {X Y : Operand} (hx : RelV g x u) (hy : RelV g y v) (h : aNil P t x y K) :
    ∃ b, K b ∧ (∀ w : World, (do eqGuard .eql t X Y u v; binOp .eql t u v : Sem Value).run P w = .ok (.bool b) w) ∧ (∀ w : World, (do eqGuard .neq t X Y u v; binOp .neq t u v : Sem Value).run P w = .ok (.bool !b) w) := by
  unfold aNil at h
  split at h
  · obtain ⟨ht, h⟩ := h
    obtain ⟨e, he⟩ := ptrT ht
    obtain ⟨_, rfl⟩ := hy
    split at h
    · obtain rfl := hx
      exact ⟨false, h, run_eqb (eq_of fun d w => by simp [Op.equalIn, run_underlying he]) (fun op w => by cases op <;> simp [eqGuard]) (by simp [binOp]) (by simp [binOp])⟩
    · obtain ⟨a, rfl, _⟩ := hx
      exact ⟨false, h, run_eqb (eq_of fun d w => by simp [Op.equalIn, run_underlying he]) (fun op w => by cases op <;> simp [eqGuard]) (by simp [binOp]) (by simp [binOp])⟩
    · obtain ⟨_, rfl⟩ := hx
      exact ⟨true, h, run_eqb (eq_of fun d w => by simp [Op.equalIn, run_underlying he]) (fun op w => by cases op <;> simp [eqGuard]) (by simp [binOp]) (by simp [binOp])⟩
    · exact h.elim
  · obtain ⟨ht, h⟩ := h
    obtain ⟨e, he⟩ := slcT ht
    have hv : v = .slice none 0 0 := by
      rcases (RelD.lst_inv hy.1).2 with ⟨h, _⟩ | ⟨a, n, c, _, h, _⟩
      · exact h
      · exact absurd rfl h
    subst hv
    have key : ∀ a n c, u = .slice a n c → (∀ w : World, (do eqGuard .eql t X Y u (.slice none 0 0); binOp .eql t u (.slice none 0 0) : Sem Value).run P w = .ok (.bool a.isNone) w) ∧ (∀ w : World, (do eqGuard .neq t X Y u (.slice none 0 0); binOp .neq t u (.slice none 0 0) : Sem Value).run P w = .ok (.bool !a.isNone) w) := by
      intro a n c hu
      subst hu
      cases a with
      | none => exact run_eqb (b := true) (eq_of fun d w => by simp [Op.equalIn, run_underlying he]) (fun op w => by cases op <;> simp [eqGuard]) (by simp [binOp]) (by simp [binOp])
      | some a => exact run_eqb (b := false) (eq_of fun d w => by simp [Op.equalIn, run_underlying he]) (fun op w => by cases op <;> simp [eqGuard]) (by simp [binOp]) (by simp [binOp])
    split at h
    · obtain rfl := hx
      exact ⟨false, h, key _ _ _ rfl⟩
    · rename_i b _ _
      rcases (RelD.lst_inv hx.1).2 with ⟨rfl, _, h1⟩ | ⟨a, n, c, rfl, h1, _⟩
      · cases b
        · exact absurd rfl h1
        · exact ⟨true, h, key _ _ _ rfl⟩
      · cases b
        · exact ⟨false, h, key _ _ _ rfl⟩
        · exact absurd rfl h1
    · rcases (RelD.lst_inv hx.1).2 with ⟨rfl, h0, h1⟩ | ⟨a, n, c, rfl, h1, _⟩
      · exact ⟨true, h.1 h0, key _ _ _ rfl⟩
      · exact ⟨false, h.2, key _ _ _ rfl⟩
    · exact h.elim
  · obtain ⟨ht, h⟩ := h
    obtain ⟨e1, e2, e3, he⟩ := fnT ht
    obtain ⟨_, rfl⟩ := hy
    split at h
    · obtain rfl := hx
      exact ⟨false, h, run_eqb (eq_of fun d w => by simp [Op.equalIn, run_underlying he]) (fun op w => by cases op <;> simp [eqGuard]) (by simp [binOp]) (by simp [binOp])⟩
    · obtain ⟨_, rfl⟩ := hx
      exact ⟨true, h, run_eqb (eq_of fun d w => by simp [Op.equalIn, run_underlying he]) (fun op w => by cases op <;> simp [eqGuard]) (by simp [binOp]) (by simp [binOp])⟩
    · exact h.elim
  · exact h.elim
theorem run_bin {P : Program} {g : Gh} {op : BinOp} {t : TypeId} {x y : V} {u v : Value} {K : V → Prop} {X Y : Operand} (hx : RelV g x u) (hy : RelV g y v) (h : aBin P op t x y K) :
    ∃ r z, K r ∧ RelV g r z ∧ ∀ w : World, (do eqGuard op t X Y u v; binOp op t u v : Sem Value).run P w = .ok z w := by
  unfold aBin at h
  split at h
  · obtain ⟨_, rfl⟩ := hx
    obtain ⟨_, rfl⟩ := hy
    obtain ⟨z, hz, hk, hr⟩ := run_int (x := X) (y := Y) h
    exact ⟨_, z, hk, ⟨hz, rfl⟩, hr⟩
  · obtain ⟨_, rfl⟩ := hx
    obtain ⟨_, rfl⟩ := hy
    obtain ⟨z, hz, hk, hr⟩ := run_str (x := X) (y := Y) h
    exact ⟨_, z, hk, ⟨hz, rfl⟩, hr⟩
  · obtain ⟨_, rfl⟩ := hx
    obtain ⟨_, rfl⟩ := hy
    rename_i a b _ _
    obtain ⟨ht, h⟩ := h
    have hb : P.underlying t = some .bool := by
      unfold isBoolT at ht; split at ht
      · assumption
      · cases ht
    have e := run_eqb (P := P) (X := X) (Y := Y) (t := t) (u := .bool a) (v := .bool b) (b := a == b) (eq_of fun d w => by simp [Op.equalIn, run_underlying hb]) (fun op w => by cases op <;> simp [eqGuard]) (by simp [binOp]) (by simp [binOp])
    split at h
    · exact ⟨_, .bool (a == b), h, ⟨rfl, rfl⟩, e.1⟩
    · exact ⟨_, .bool (a != b), h, ⟨rfl, rfl⟩, e.2⟩
    · exact h.elim
  · split at h
    · obtain ⟨b, hk, h1, _⟩ := run_eqA hx hy h X Y
      exact ⟨_, _, hk, ⟨rfl, rfl⟩, h1⟩
    · obtain ⟨b, hk, _, h1⟩ := run_eqA hx hy h X Y
      exact ⟨_, _, hk, ⟨rfl, rfl⟩, h1⟩
    · exact h.elim
  · split at h
    · obtain ⟨b, hk, h1, _⟩ := run_nil (X := X) (Y := Y) hx hy h
      exact ⟨_, _, hk, ⟨rfl, rfl⟩, h1⟩
    · obtain ⟨b, hk, _, h1⟩ := run_nil (X := X) (Y := Y) hx hy h
      exact ⟨_, _, hk, ⟨rfl, rfl⟩, h1⟩
    · exact h.elim

/-- 'x == nil', of interfaces -/
def isIfcT (P : Program) (t : TypeId) : Bool := match P.underlying t with
  | some (.interface _) => true
  | _ => false
def isNo (op : BinOp) (b : Bool) (K : V → Prop) : Prop := match op with
  | .eql => K (.bool b)
  | .neq => K (.bool !b)
  | _ => False
def aNilI (P : Program) (op : BinOp) (t : TypeId) (x : V) (K : V → Prop) : Prop := isIfcT P t = true ∧ match x with
  | .w (.c .ifc) => isNo op false K
  | .w (.c (.val (.iface _ _))) => isNo op false K
  | .w (.c (.val .nilIface)) => isNo op true K
  | _ => False
def aBinY (P : Program) (op : BinOp) (t : TypeId) (y : Operand) (X Y : V) (K : V → Prop) : Prop := match y with
  | .const .nilIface => aNilI P op t X K
  | _ => aBin P op t X Y K
theorem ifcT {P : Program} {t : TypeId} (h : isIfcT P t = true) : ∃ e, P.underlying t = some (.interface e) := by
  unfold isIfcT at h; split at h
  · exact ⟨_, by assumption⟩
  · cases h
theorem run_nilI {P : Program} {g : Gh} {op : BinOp} {t : TypeId} {x : V} {u : Value} {K : V → Prop} {X : Operand} (hx : RelV g x u) (h : aNilI P op t x K) :
    ∃ r z, K r ∧ RelV g r z ∧ ∀ w : World, (do eqGuard op t X (.const .nilIface) u .nilIface; binOp op t u .nilIface : Sem Value).run P w = .ok z w := by
  obtain ⟨ht, h⟩ := h
  obtain ⟨e, he⟩ := ifcT ht
  have key : ∀ b : Bool, isNo op b K → (∀ w : World, (do eqGuard .eql t X (.const .nilIface) u .nilIface; binOp .eql t u .nilIface : Sem Value).run P w = .ok (.bool b) w) →
      (∀ w : World, (do eqGuard .neq t X (.const .nilIface) u .nilIface; binOp .neq t u .nilIface : Sem Value).run P w = .ok (.bool !b) w) → ∃ r z, K r ∧ RelV g r z ∧ ∀ w : World, (do eqGuard op t X (.const .nilIface) u .nilIface; binOp op t u .nilIface : Sem Value).run P w = .ok z w := by
    intro b hb h1 h2
    cases op <;> simp only [isNo] at hb
    all_goals first | exact hb.elim | exact ⟨_, _, hb, ⟨rfl, rfl⟩, h1⟩ | exact ⟨_, _, hb, ⟨rfl, rfl⟩, h2⟩
  have ifc : ∀ t' v, u = .iface t' v → isNo op false K → ∃ r z, K r ∧ RelV g r z ∧ ∀ w : World, (do eqGuard op t X (.const .nilIface) u .nilIface; binOp op t u .nilIface : Sem Value).run P w = .ok z w := by
    rintro t' v rfl hb
    have := run_eqb (P := P) (X := X) (Y := .const .nilIface) (t := t) (u := .iface t' v) (v := .nilIface) (b := false) (eq_of fun d w => by simp [Op.equalIn, run_underlying he]) (fun op w => by cases op <;> simp [eqGuard]) (by simp [binOp]) (by simp [binOp])
    exact key false hb this.1 this.2
  split at h
  · obtain ⟨t', v, rfl⟩ := hx
    exact ifc t' v rfl h
  · obtain ⟨_, rfl⟩ := hx
    exact ifc _ _ rfl h
  · obtain ⟨_, rfl⟩ := hx
    have := run_eqb (P := P) (X := X) (Y := .const .nilIface) (t := t) (u := .nilIface) (v := .nilIface) (b := true) (eq_of fun d w => by simp [Op.equalIn, run_underlying he]) (fun op w => by cases op <;> simp [eqGuard]) (by simp [binOp]) (by simp [binOp])
    exact key true h this.1 this.2
  · exact h.elim

/-! ### the other operations -/
def aUn (op : UnOp) (x : V) (K : V → Prop) : Prop :=
  match op, x with
  | .not, .w (.c (.val (.bool b))) => K (.bool !b)
  | .neg, .w (.c (.val (.int k n))) => K (.int k (k.wrap (0 - n)))
  | .xor, .w (.c (.val (.int k n))) => K (.int k (k.wrap (BitVec.ofInt k.bits (if k.signed then -1 else k.max) ^^^ BitVec.ofInt k.bits n).toNat))
  | _, _ => False
def aConv (P : Program) (src dst : TypeId) (x : V) (K : V → Prop) : Prop :=
  match x with
  | .w (.c (.val (.int _ n))) => knownT P src = true ∧ ∃ k, kindT P dst = some k ∧ K (.int k (k.wrap n))
  | .w (.c (.val (.string s))) => knownT P src = true ∧ isStrT P dst = true ∧ K (.val (.string s))
  | _ => False
def aPart (P : Program) (t : TypeId) (sz : Nat) (cs : List C) (off : Nat) (K : V → Prop) : Prop :=
  match isAggT P t with
  | some true => off + sz ≤ cs.length ∧ K (.w (.agg ((cs.drop off).take sz)))
  | some false => ∃ c, cs[off]? = some c ∧ K (.w (.c c))
  | none => False
def aField (P : Program) (t : TypeId) (x : V) (i : Nat) (K : V → Prop) : Prop :=
  match x with
  | .w (.agg cs) => ∃ off ft sz, fldT P t i = some (off, ft, sz) ∧ aPart P ft sz cs off K
  | _ => False
def aFieldAddr (P : Program) (t : TypeId) (x : V) (i : Nat) (K : V → Prop) : Prop :=
  match x with
  | .w (.c (.ptr j o)) => ∃ off ft sz, fldT P t i = some (off, ft, sz) ∧ sz ≠ 0 ∧ K (.cell (.ptr j (o + off)))
  | .w (.c (.mem xs)) => ∃ off ft sz, fldT P t i = some (off, ft, sz) ∧ sz ≠ 0 ∧ K (.cell (.mem (xs.drop off)))
  | _ => False
def aIndexAddr (P : Program) (t : TypeId) (x ix : V) (K : V → Prop) : Prop :=
  match ix with
  | .w (.c (.val (.int _ i))) => ∃ l e sz, idxT P t = some (l, e, sz) ∧ match x, l with
    | .w (.c (.ptr j o)), some n => 0 ≤ i ∧ i < n ∧ K (.cell (.ptr j (o + i.toNat * sz)))
    | .w (.c (.mem xs)), some n => 0 ≤ i ∧ i < n ∧ K (.cell (.mem (xs.drop (i.toNat * sz))))
    | .w (.c (.lst _ _ sz' xs)), none => sz' = sz ∧ 0 ≤ i ∧ i * sz < xs.length ∧ K (.cell (.mem (xs.drop (i.toNat * sz))))
    | .w (.c (.row j o n _)), none => 0 ≤ i ∧ i < n ∧ K (.cell (.ptr j (o + i.toNat * sz)))
    | _, _ => False
  | _ => False
def aIndex (P : Program) (t : TypeId) (x ix : V) (K : V → Prop) : Prop :=
  match ix with
  | .w (.c (.val (.int _ i))) => match x with
    | .w (.agg cs) => ∃ n e sz, idxT P t = some (some n, e, sz) ∧ 0 ≤ i ∧ i < n ∧ aPart P e sz cs (i.toNat * sz) K
    | .w (.c (.val (.string s))) => isStrT P t = true ∧ 0 ≤ i ∧ ∃ b, s.data.toList[i.toNat]? = some b ∧ K (.int .u8 b.toNat)
    | _ => False
  | _ => False
def aExtract (x : V) (i : Nat) (K : V → Prop) : Prop :=
  match x with
  | .tup xs => ∃ u, xs[i]? = some u ∧ K (.w u)
  | _ => False
def aNilCheck (x : V) (K : V → Prop) : Prop :=
  match x with
  | .w (.c (.ptr _ _)) => K x
  | .w (.c (.mem _)) => K x
  | .w (.c (.fn (.func _) _ _)) => K x
  | _ => False
def ptrs : List V → Option (List (Id × Nat))
  | [] => some []
  | .w (.c (.ptr i o)) :: l => (ptrs l).map ((i, o) :: ·)
  | _ :: _ => none
def aMakeFunc (f : Fn) (first caps : List V) (K : V → Prop) : Prop := ∃ a b, ptrs first = some a ∧ ptrs caps = some b ∧ K (.cell (.fn f a b))
def aLen (P : Program) (t : TypeId) (x : V) (K : V → Prop) : Prop :=
  match x with
  | .w (.c (.lst _ _ sz xs)) => isSlcT P t = true ∧ K (.int .i64 ((xs.length / sz : Nat) : Int))
  | .w (.c (.row _ _ n _)) => isSlcT P t = true ∧ K (.int .i64 (n : Int))
  | .w (.c (.val (.string s))) => isStrT P t = true ∧ K (.int .i64 (s.size : Int))
  | _ => False
def aMakeIface (P : Program) (t : TypeId) (x : V) (K : V → Prop) : Prop :=
  match x with
  | .w (.c (.val v)) => (∃ d, P.underlying t = some d ∧ ∀ ms, d ≠ .interface ms) ∧ scalar1 v = true ∧ K (.val (.iface t v))
  | _ => False
def bnd (d : Int) : Option V → Option Int
  | none => some d
  | some (.w (.c (.val (.int _ n)))) => some n
  | _ => none
def aSlice (P : Program) (t : TypeId) (x : V) (lo hi : Option V) (K : V → Prop) : Prop :=
  match x with
  | .w (.c (.lst o nl sz xs)) => ∃ e, idxT P t = some (none, e, sz) ∧ ∃ l h, bnd 0 lo = some l ∧ bnd ((xs.length / sz : Nat) : Int) hi = some h ∧ 0 ≤ l ∧ l ≤ h ∧ h * sz ≤ xs.length ∧
      K (.cell (.lst (match o, hi with | .full, none => .full | _, _ => .no) nl sz ((xs.take (h.toNat * sz)).drop (l.toNat * sz))))
  | .w (.c (.row i off n c)) => ∃ e sz, idxT P t = some (none, e, sz) ∧ ∃ l h, bnd 0 lo = some l ∧ bnd n hi = some h ∧ 0 ≤ l ∧ l ≤ h ∧ h ≤ (c : Int) ∧
      K (.cell (.row i (if c = l.toNat then off else off + l.toNat * sz) (h.toNat - l.toNat) (c - l.toNat)))
  | .w (.c (.ptr i off)) => ∃ n e sz, idxT P t = some (some n, e, sz) ∧ ∃ l h, bnd 0 lo = some l ∧ bnd n hi = some h ∧ 0 ≤ l ∧ l ≤ h ∧ h ≤ (n : Int) ∧
      K (.cell (.row i (if n = l.toNat then off else off + l.toNat * sz) (h.toNat - l.toNat) (n - l.toNat)))
  | .w (.c (.val (.string s))) => isStrT P t = true ∧ ∃ l h, bnd 0 lo = some l ∧ bnd s.size hi = some h ∧ 0 ≤ l ∧ l ≤ h ∧ h ≤ (s.size : Int) ∧ K (.val (.string (s.extract l.toNat h.toNat)))
  | _ => False
def aLoadMem (P : Program) (t : TypeId) (x : V) (K : V → Prop) : Prop :=
  match x with
  | .w (.c (.mem xs)) => ∃ sz, sizeT P t = some sz ∧ aPart P t sz (xs.map D.toC) 0 K
  | _ => False
def aMinMax (mx : Bool) (xs : List V) (K : V → Prop) : Prop :=
  match xs with
  | [.w (.c (.val (.int k a))), .w (.c (.val (.int k' b)))] => k = k' ∧ K (.int k (if mx then max a b else min a b))
  | _ => False
end Go.Proofs.Ytamcjecgkfmjkaa
