/- The logic: who wants less gets it. -/
import Derived.Test.YtamcjecgkfmjkaaAwF
open Go Go.RowKit
namespace Go.Proofs.Ytamcjecgkfmjkaa

section
variable {P : Program} {K K' : V → Prop} (hk : ∀ v, K v → K' v)
include hk
theorem aInt_mono {op : BinOp} {k k' : IntKind} {a b : Int} (h : aInt op k a k' b K) : aInt op k a k' b K' := by
  cases op <;> simp only [aInt] at h ⊢ <;> grind
theorem aStr_mono {op : BinOp} {a b : ByteArray} (h : aStr op a b K) : aStr op a b K' := by
  cases op <;> simp only [aStr] at h ⊢ <;> grind
theorem aBin_mono {op : BinOp} {t : TypeId} {x y : V} (h : aBin P op t x y K) : aBin P op t x y K' := by
  have nil : ∀ {J J' : Bool → Prop}, (∀ b, J b → J' b) → aNil P t x y J → aNil P t x y J' := fun hj h => by
    unfold aNil at h ⊢
    split at h
    · refine ⟨h.1, ?_⟩
      have h := h.2
      split at h <;> first | exact hj _ h | exact h.elim
    · refine ⟨h.1, ?_⟩
      have h := h.2
      split at h
      · exact hj _ h
      · exact hj _ h
      · exact ⟨fun e => hj _ (h.1 e), hj _ h.2⟩
      · exact h.elim
    · refine ⟨h.1, ?_⟩
      have h := h.2
      split at h <;> first | exact hj _ h | exact h.elim
    · exact h.elim
  unfold aBin at h ⊢
  split at h
  · exact aInt_mono hk h
  · exact aStr_mono hk h
  · refine ⟨h.1, ?_⟩
    have h := h.2
    split at h <;> first | exact hk _ h | exact h.elim
  · split at h
    · obtain ⟨ks, us, vs, h1, h2, h3, h4, h5, h6⟩ := h; exact ⟨ks, us, vs, h1, h2, h3, h4, h5, fun b hb => hk _ (h6 b hb)⟩
    · obtain ⟨ks, us, vs, h1, h2, h3, h4, h5, h6⟩ := h; exact ⟨ks, us, vs, h1, h2, h3, h4, h5, fun b hb => hk _ (h6 b hb)⟩
    · exact h.elim
  · split at h
    · exact nil (fun b => hk _) h
    · exact nil (fun b => hk _) h
    · exact h.elim
theorem aNilI_mono {op : BinOp} {t : TypeId} {x : V} (h : aNilI P op t x K) : aNilI P op t x K' := by
  have e : ∀ b, isNo op b K → isNo op b K' := fun b h => by cases op <;> first | exact hk _ h | exact h.elim
  unfold aNilI at h ⊢
  obtain ⟨h0, h⟩ := h
  refine ⟨h0, ?_⟩
  split at h <;> first | exact e _ h | exact h.elim
theorem aBinY_mono {op : BinOp} {t : TypeId} {y : Operand} {X Y : V} (h : aBinY P op t y X Y K) : aBinY P op t y X Y K' := by
  unfold aBinY at h ⊢
  split at h
  · exact aNilI_mono hk h
  · exact aBin_mono hk h
theorem aUn_mono {op : UnOp} {x : V} (h : aUn op x K) : aUn op x K' := by unfold aUn at h ⊢; grind
theorem aConv_mono {t t' : TypeId} {x : V} (h : aConv P t t' x K) : aConv P t t' x K' := by unfold aConv at h ⊢; grind
theorem aPart_mono {t : TypeId} {n i : Nat} {cs : List C} (h : aPart P t n cs i K) : aPart P t n cs i K' := by unfold aPart at h ⊢; grind
theorem aField_mono {t : TypeId} {x : V} {i : Nat} (h : aField P t x i K) : aField P t x i K' := by
  unfold aField at h ⊢; split at h
  · obtain ⟨a, b, c, h1, h2⟩ := h; exact ⟨a, b, c, h1, aPart_mono hk h2⟩
  · exact h.elim
theorem aFieldAddr_mono {t : TypeId} {x : V} {i : Nat} (h : aFieldAddr P t x i K) : aFieldAddr P t x i K' := by unfold aFieldAddr at h ⊢; grind
theorem aIndexAddr_mono {t : TypeId} {x y : V} (h : aIndexAddr P t x y K) : aIndexAddr P t x y K' := by unfold aIndexAddr at h ⊢; grind
theorem aIndex_mono {t : TypeId} {x y : V} (h : aIndex P t x y K) : aIndex P t x y K' := by
  unfold aIndex at h ⊢
  split at h
  · split at h
    · obtain ⟨a, b, c, h1, h2, h3, h4⟩ := h; exact ⟨a, b, c, h1, h2, h3, aPart_mono hk h4⟩
    · grind
    · exact h.elim
  · exact h.elim
theorem aExtract_mono {x : V} {i : Nat} (h : aExtract x i K) : aExtract x i K' := by unfold aExtract at h ⊢; grind
theorem aNilCheck_mono {x : V} (h : aNilCheck x K) : aNilCheck x K' := by unfold aNilCheck at h ⊢; grind
theorem aMakeFunc_mono {f : Fn} {a b : List V} (h : aMakeFunc f a b K) : aMakeFunc f a b K' := by unfold aMakeFunc at h ⊢; grind
theorem aLen_mono {t : TypeId} {x : V} (h : aLen P t x K) : aLen P t x K' := by unfold aLen at h ⊢; grind
theorem aMakeIface_mono {t : TypeId} {x : V} (h : aMakeIface P t x K) : aMakeIface P t x K' := by unfold aMakeIface at h ⊢; grind
theorem aSlice_mono {t : TypeId} {x : V} {lo hi : Option V} (h : aSlice P t x lo hi K) : aSlice P t x lo hi K' := by unfold aSlice at h ⊢; grind
theorem aLoadMem_mono {t : TypeId} {x : V} (h : aLoadMem P t x K) : aLoadMem P t x K' := by
  unfold aLoadMem at h ⊢; split at h
  · obtain ⟨a, h1, h2⟩ := h; exact ⟨a, h1, aPart_mono hk h2⟩
  · exact h.elim
theorem aLoadBox_mono {t : TypeId} {x : V} {s : St} (h : aLoadBox P t x s K) : aLoadBox P t x s K' := by
  unfold aLoadBox at h ⊢; split at h
  · obtain ⟨a, b, h1, h2, h3⟩ := h; exact ⟨a, b, h1, h2, aPart_mono hk h3⟩
  · exact h.elim
theorem aLoad_mono {t : TypeId} {x : V} {s : St} (h : aLoad P t x s K) : aLoad P t x s K' := by
  unfold aLoad at h ⊢; split at h
  · exact aLoadBox_mono hk h
  · exact aLoadMem_mono hk h
theorem aMinMax_mono {b : Bool} {xs : List V} (h : aMinMax b xs K) : aMinMax b xs K' := by unfold aMinMax at h ⊢; grind
theorem aPureOp_mono {op : Op} {s : St} (h : aPureOp P op s K) : aPureOp P op s K' := by
  unfold aPureOp at h ⊢
  split at h
  · exact hk _ h
  · exact hk _ h
  · grind
  · exact aBinY_mono hk h
  · exact aUn_mono hk h
  · exact aConv_mono hk h
  · exact aFieldAddr_mono hk h
  · exact aField_mono hk h
  · exact aIndexAddr_mono hk h
  · exact aIndex_mono hk h
  · exact aExtract_mono hk h
  · exact aNilCheck_mono hk h
  · exact aMakeFunc_mono hk h
  · exact aMakeIface_mono hk h
  · exact aSlice_mono hk h
  · exact aLoadMem_mono hk h
  · exact aLen_mono hk h
  · exact aMinMax_mono hk h
  · exact aMinMax_mono hk h
  · exact h.elim
theorem aBuild_mono {t : TypeId} {pa : List (Nat × V)} (h : aBuild P t pa K) : aBuild P t pa K' := by
  obtain ⟨a, b, c, h1, h2, h3, h4⟩ := h; exact ⟨a, b, c, h1, h2, h3, hk _ h4⟩
end
section
variable {P : Program} {K K' : V → St → Prop} (hk : ∀ v s, K v s → K' v s)
include hk
theorem aStore_mono {t : TypeId} {x y : V} {s : St} (h : aStore P t x y s K) : aStore P t x y s K' := by
  unfold aStore at h ⊢; split at h
  · obtain ⟨a, b, h1, h2, h3, h4, h5, h6⟩ := h; exact ⟨a, b, h1, h2, h3, h4, h5, hk _ _ h6⟩
  · exact h.elim
theorem aNewA_mono {d : Nat} {cs : List C} {s : St} (h : aNewA d cs s K) : aNewA d cs s K' := hk _ _ h
theorem aNew_mono {d : Nat} {cs : List C} {s : St} (h : aNew d cs s K) : aNew d cs s K' := hk _ _ h
theorem aBuildSlice_mono {t : TypeId} {n d : Nat} {pa : List (Nat × V)} {s : St} (h : aBuildSlice P t n pa d s K) : aBuildSlice P t n pa d s K' := by
  obtain ⟨a, b, c, e, f, h1, h2, h3, h4, h5, h6, h7, h8⟩ := h; exact ⟨a, b, c, e, f, h1, h2, h3, h4, h5, h6, h7, hk _ _ h8⟩
theorem aMakeSlice_mono {t : TypeId} {x y : V} {d : Nat} {s : St} (h : aMakeSlice P t x y d s K) : aMakeSlice P t x y d s K' := by
  unfold aMakeSlice at h ⊢; split at h
  · obtain ⟨a, b, c, e, f, h1, h2, h3, h4, h5, h6, h7, h8, h9, h10, h11⟩ := h
    exact ⟨a, b, c, e, f, h1, h2, h3, h4, h5, h6, h7, h8, h9, h10, h11.imp (hk _ _) (hk _ _)⟩
  · exact h.elim
omit hk in
theorem aSrc_mono {sz : Nat} {x : V} {s : St} {J J' : List D → Prop} (hj : ∀ d, J d → J' d) (h : aSrc sz x s J) : aSrc sz x s J' := by
  unfold aSrc at h ⊢; split at h
  · exact ⟨h.1, hj _ h.2⟩
  · obtain ⟨a, b, h1, h2, h3, h4⟩ := h; exact ⟨a, b, h1, h2, h3, hj _ h4⟩
  · exact h.elim
theorem aAppend_mono {t : TypeId} {x y : V} {d : Nat} {s : St} (h : aAppend P t x y d s K) : aAppend P t x y d s K' := by
  unfold aAppend at h ⊢; split at h
  · obtain ⟨a, b, c, e, h1, h2, h3, h4, h5, h6, h7, h8, h9⟩ := h
    exact ⟨a, b, c, e, h1, h2, h3, h4, h5, h6, h7, h8, aSrc_mono (fun d hd => ⟨hd.1, hk _ _ hd.2⟩) h9⟩
  · exact h.elim
theorem aAppendB_mono {t : TypeId} {x y : V} {d : Nat} {s : St} (h : aAppendB P t x y d s K) : aAppendB P t x y d s K' := by
  unfold aAppendB at h ⊢; split at h
  · obtain ⟨a, b, c, e, h1, h2, h3, h4, h5, h6, h7, h8⟩ := h
    exact ⟨a, b, c, e, h1, h2, h3, h4, h5, h6, h7, aSrc_mono (fun d hd => ⟨hd.1, fun q => hk _ _ (hd.2.1 q), fun q c' h1 h2 => hk _ _ (hd.2.2 q c' h1 h2)⟩) h8⟩
  · obtain ⟨a, b, c, e, f, h1, h2, h3, h4, h5, h6, h7, h8, h9, h10, h11, h12⟩ := h
    exact ⟨a, b, c, e, f, h1, h2, h3, h4, h5, h6, h7, h8, h9, h10, h11, aSrc_mono (fun d hd => ⟨hd.1, fun q => hk _ _ (hd.2.1 q), fun q c' h1 h2 => hk _ _ (hd.2.2 q c' h1 h2)⟩) h12⟩
  · exact h.elim
theorem aAppendS_mono {t : TypeId} {x y : V} {d : Nat} {s : St} (h : aAppendS P t x y d s K) : aAppendS P t x y d s K' := by
  unfold aAppendS at h ⊢; split at h
  · obtain ⟨a, b, c, e, h1, h2, h3, h4, h5, h6, h7, h8⟩ := h
    exact ⟨a, b, c, e, h1, h2, h3, h4, h5, h6, h7, aSrc_mono (fun ds ⟨p, q, r⟩ => ⟨p, q, hk _ _ r⟩) h8⟩
  · exact h.elim
theorem aAppX_mono {t : TypeId} {x y : V} {d : Nat} {s : St} (h : aAppX P t x y d s K) : aAppX P t x y d s K' := h.imp (aAppend_mono hk) (Or.imp (aAppendB_mono hk) (aAppendS_mono hk))
theorem aAppN_mono {t t' : TypeId} {x y : V} {d : Nat} {s : St} (h : aAppN P t t' x y d s K) : aAppN P t t' x y d s K' := by
  unfold aAppN at h ⊢; split at h
  · obtain ⟨h0, e, z, q, h1, h2, h3, h4, h5, h6, h7, h⟩ := h
    exact ⟨h0, e, z, q, h1, h2, h3, h4, h5, h6, h7, h.imp (fun h => ⟨h.1, hk _ _ h.2⟩) (fun h => ⟨h.1, hk _ _ h.2⟩)⟩
  · obtain ⟨h0, a, b, c, e, f, h1, h2, h3, h4, h5, h6, h7, h8, h9, h10, h11, h12, h13⟩ := h
    exact ⟨h0, a, b, c, e, f, h1, h2, h3, h4, h5, h6, h7, h8, h9, h10, h11, h12, hk _ _ h13⟩
  · exact h.elim
theorem aAppT_mono {t t' : TypeId} {x y : V} {d : Nat} {s : St} (h : aAppT P t t' x y d s K) : aAppT P t t' x y d s K' := by
  unfold aAppT at h ⊢; split at h
  · rename_i e; rw [if_pos e]; exact aAppX_mono hk h
  · rename_i e; rw [if_neg e]; exact aAppN_mono hk h
theorem aCopy_mono {t : TypeId} {x y : V} {s : St} (h : aCopy P t x y s K) : aCopy P t x y s K' := by
  unfold aCopy at h ⊢; split at h
  · obtain ⟨a, b, h1, h2, h3⟩ := h
    exact ⟨a, b, h1, h2, aSrc_mono (fun d hd => ⟨hd.1, hk _ _ hd.2⟩) h3⟩
  · exact h.elim
theorem aCallF_mono {f : FuncId} {args : List V} {d : Nat} {s : St} (h : aCallF P f args d s K) : aCallF P f args d s K' := by
  have key : ∀ args s, aCallT P f args d s K → aCallT P f args d s K' := by
    rintro args s ⟨rt, ks, a, b, R, h1, h2, h3, h4, h5⟩
    exact ⟨rt, ks, a, b, R, h1, h2, h3, h4, fun v h' hr => hk _ _ (h5 v h' hr)⟩
  rcases h with h | ⟨i, sz, ds, hf, h⟩
  · exact .inl (key _ _ h)
  · exact .inr ⟨i, sz, ds, hf, key _ _ h⟩
theorem aConvS_mono {t t' : TypeId} {x : V} {s : St} (h : aConvS P t t' x s K) : aConvS P t t' x s K' := by
  unfold aConvS at h ⊢
  split at h
  · obtain ⟨h0, e, h1, h2, h3, h4⟩ := h
    refine ⟨h0, e, h1, h2, h3, ?_⟩
    rcases h4 with ⟨a, bs, b, c⟩ | ⟨a, p, b, c⟩
    · exact .inl ⟨a, bs, b, hk _ _ c⟩
    · exact .inr ⟨a, p, b, hk _ _ c⟩
  · obtain ⟨h0, h1, h2, cs, h3, bs, h4, h5, h6⟩ := h
    exact ⟨h0, h1, h2, cs, h3, bs, h4, h5, hk _ _ h6⟩
  · unfold aConvT at h ⊢
    split at h
    · exact ⟨h.1, h.2.1, hk _ _ h.2.2⟩
    · exact aConv_mono (fun v => hk v s) h
  · exact aConv_mono (fun v => hk v s) h
theorem aOp_mono {o : Oper} {s : St} (h : aOp P o s K) : aOp P o s K' := by
  unfold aOp at h ⊢
  split at h
  · exact aLoad_mono (fun v => hk v s) h
  · exact aStore_mono hk h
  · exact aConvS_mono hk h
  · obtain ⟨a, b, h1, h2, h3⟩ := h; exact ⟨a, b, h1, h2, aNewA_mono hk h3⟩
  · obtain ⟨a, b, h1, h2, h3⟩ := h; exact ⟨a, b, h1, h2, aNew_mono hk h3⟩
  · exact aBuild_mono (fun v => hk v s) h
  · obtain ⟨a, h1, h2⟩ := h; exact ⟨a, h1, aBuildSlice_mono hk h2⟩
  · obtain ⟨a, h1, h2⟩ := h; exact ⟨a, h1, aMakeSlice_mono hk h2⟩
  · obtain ⟨a, h1, h2⟩ := h; exact ⟨a, h1, aAppT_mono hk h2⟩
  · exact aCopy_mono hk h
  · split at h
    · exact aCallF_mono hk h
    · exact h.elim
  · exact aPureOp_mono (fun v => hk v s) h
end
section
variable {P : Program} {ops : Array Oper}
theorem aWanted_mono {o : Oper} {s : St} {a b a' b' : Prop} (ha : a → a') (hb : b → b') (h : aWanted ops o s a b) : aWanted ops o s a' b' := by
  unfold aWanted at h ⊢
  split at h
  · exact ha h
  · split at h
    · split at h
      · exact ⟨fun e => ha (h.1 e), fun e => hb (h.2 e)⟩
      · exact hb h
      · exact h.elim
    · exact h.elim
theorem aList_mono {K K' : St → Prop} (hk : ∀ s, K s → K' s) {l : List Oper} : ∀ {s : St}, aList P ops l K s → aList P ops l K' s := by
  induction l with
  | nil => intro s h; exact hk s h
  | cons o l ih => intro s h; exact aWanted_mono (aOp_mono fun v s h => ih h) ih h
theorem aTake_mono {K K' : St → Prop} (hk : ∀ s, K s → K' s) {i : Nat} {s : St} (h : aTake P ops i s K) : aTake P ops i s K' := by
  unfold aTake at h ⊢
  split at h
  · refine aWanted_mono (fun h => ?_) (hk _) h
    split at h
    · exact aLoad_mono (fun v => hk _) h
    · exact aPureOp_mono (fun v => hk _) h
  · exact h.elim
mutual
theorem aPlan_mono {K K' : St → Prop} (hk : ∀ s, K s → K' s) : ∀ (p : Plan) {s : St}, aPlan P ops p K s → aPlan P ops p K' s
  | .done, s, h => by simp only [aPlan] at h ⊢; exact hk s h
  | .take i p, s, h => by simp only [aPlan] at h ⊢; exact aTake_mono (fun s h => aPlan_mono hk p h) h
  | .both l, s, h => by simp only [aPlan] at h ⊢; exact aPlans_mono hk l h
theorem aPlans_mono {K K' : St → Prop} (hk : ∀ s, K s → K' s) : ∀ (l : List (Nat × Plan)) {s : St}, aPlans P ops l K s → aPlans P ops l K' s
  | [], s, h => by simp only [aPlans]
  | (i, p) :: l, s, h => by
    simp only [aPlans] at h ⊢
    refine ⟨?_, aPlans_mono hk l h.2⟩
    have h1 := h.1
    split at h1
    · exact aWanted_mono (aOp_mono fun v s h => aPlan_mono hk p h) (fun h => aPlan_mono hk p h) h1
    · exact h1.elim
end
theorem aReg_mono {draw : Bool} {K K' : St → Prop} (hk : ∀ s, K s → K' s) {s : St} (h : aReg P ops draw K s) : aReg P ops draw K' s := by
  cases draw with
  | false => exact aList_mono hk h
  | true => obtain ⟨p, h1, h2, h3⟩ := h; exact ⟨p, h1, h2, aPlan_mono (fun s ⟨s'', hle, h⟩ => ⟨s'', hle, hk _ h⟩) p h3⟩
theorem thenK_mono {K K' : St → Prop} {Q Q' : AExit → St → Prop} (hk : ∀ s, K s → K' s) (hq : ∀ e s, Q e s → Q' e s) : ∀ e s, thenK K Q e s → thenK K' Q' e s := by
  intro e s h; cases e <;> first | exact hk _ h | exact hq _ _ h
theorem blockK_mono {i : Nat} {Q Q' : AExit → St → Prop} (hq : ∀ e s, Q e s → Q' e s) : ∀ e s, blockK i Q e s → blockK i Q' e s := by
  intro e s h
  cases e with
  | exit j => simp only [blockK] at h ⊢; split <;> rename_i hj <;> simp only [hj, if_true, if_false] at h <;> exact hq _ _ h
  | _ => exact hq _ _ h
theorem awp_mono {c : Code} : ∀ {Q Q' : AExit → St → Prop} {s : St}, (∀ e s, Q e s → Q' e s) → awp P c Q s → awp P c Q' s := by
  induction c with
  | skip => intro Q Q' s hq h; exact hq _ _ h
  | region id ops draw => intro Q Q' s hq h; exact aReg_mono (hq .normal) h
  | seq a b iha ihb => intro Q Q' s hq h; exact iha (thenK_mono (fun s h => ihb hq h) hq) h
  | cond c a b iha ihb =>
    intro Q Q' s hq h
    simp only [awp] at h ⊢
    unfold aCond at h ⊢
    split at h
    · exact ⟨fun e => iha hq (h.1 e), fun e => ihb hq (h.2 e)⟩
    · exact h.elim
  | block i c ih => intro Q Q' s hq h; exact ih (blockK_mono hq) h
  | loop c ih => intro Q Q' s hq h; obtain ⟨I, n, h0, h1⟩ := h; exact ⟨I, n, h0, fun n s hi => ih (thenK_mono (fun _ h => h) hq) (h1 n s hi)⟩
  | exit i => intro Q Q' s hq h; exact hq _ _ h
  | scope c ih => intro Q Q' s hq h; exact ih hq h
  | ret => intro Q Q' s hq h; exact hq _ _ h
  | rangeFunc => intro Q Q' s hq h; exact h.elim
  | label => intro Q Q' s hq h; exact h.elim
  | goto => intro Q Q' s hq h; exact h.elim
  | refuse => intro Q Q' s hq h; exact h.elim
/-- a cut: what stands behind the first half -/
theorem awp_cut {a b : Code} {Q : AExit → St → Prop} {s : St} (J : St → Prop) (h1 : awp P a (thenK J Q) s) (h2 : ∀ s, J s → awp P b Q s) : awp P (.seq a b) Q s :=
  show awp P a (thenK (awp P b Q) Q) s from awp_mono (thenK_mono h2 fun _ _ h => h) h1
end
end Go.Proofs.Ytamcjecgkfmjkaa
