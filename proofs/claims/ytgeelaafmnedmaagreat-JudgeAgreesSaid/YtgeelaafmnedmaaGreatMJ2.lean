/- Parts of a proof: The logic: who wants less gets it, The logic: rules by which it is reckoned, The logic: rules for memory and calls, The logic: rules for machine integers (written by genint.py), Memory words: a row that reads, a block known whole, what a call keeps, From the logic to the rows of the laws, The logic: lists of rows of bytes, lists of numbers, The logic: rules for signed numbers, From the logic to the rows of the laws: rows of structs of numbers, Numbers of both signs as digits of seven bits, in plain words, The logic: states of a game as rows of twenty cells, What the logic asks of the types of this program, The logic: rows of instructions (two numbers each). -/
import Derived.Test.YtgeelaafmnedmaaGreatMJ1
import Derived.Test.YtgeelaafmnedmaaGreatMJ0
import Derived.Test.YtgeelaafmnedmaaGreatRows
import Derived.WalkKit
import Derived.ProofKit
import Derived.OpenShut
import Derived.ShutString
import Derived.ChangeOld
import Derived.Below
import Derived.SizedLaws
import Derived.ChangeSlices
import Derived.Deep.Slices
import Derived.Test.YtgeelaafmnedmaaGreatProg
set_option linter.unusedSimpArgs false
set_option linter.unusedVariables false
open Go Go.RowKit
namespace Go.Proofs.YtgeelaafmnedmaaGreat
section
section
variable {P : Program} {K K' : V → Prop} (hk : ∀ v, K v → K' v)
include hk
theorem aInt_mono {op : BinOp} {k k' : IntKind} {a b : Int} (h : aInt op k a k' b K) : aInt op k a k' b K' := by
  cases op <;> simp only [aInt] at h ⊢ <;> grind
theorem aStr_mono {op : BinOp} {a b : ByteArray} (h : aStr op a b K) : aStr op a b K' := by
  cases op <;> simp only [aStr] at h ⊢ <;> grind
theorem aBin_mono {op : BinOp} {t : TypeId} {x y : V} (h : aBin P op t x y K) : aBin P op t x y K' := by
  have nil : ∀ {J J' : Bool → Prop}, (∀ b, J b → J' b) → aNil P t x y J → aNil P t x y J' := fun hj h => by
    unfold aNil at h ⊢
    split at h
    · refine ⟨h.1, ?_⟩
      have h := h.2
      split at h <;> first | exact hj _ h | exact h.elim
    · refine ⟨h.1, ?_⟩
      have h := h.2
      split at h
      · exact hj _ h
      · exact hj _ h
      · exact ⟨fun e => hj _ (h.1 e), hj _ h.2⟩
      exact h.elim
    · refine ⟨h.1, ?_⟩
      have h := h.2
      split at h <;> first | exact hj _ h | exact h.elim
    exact h.elim
  unfold aBin at h ⊢
  split at h
  · exact aInt_mono hk h
  · exact aStr_mono hk h
  · refine ⟨h.1, ?_⟩
    have h := h.2
    split at h <;> first | exact hk _ h | exact h.elim
  · split at h
    · obtain ⟨ks, us, vs, h1, h2, h3, h4, h5, h6⟩ := h; exact ⟨ks, us, vs, h1, h2, h3, h4, h5, fun b hb => hk _ (h6 b hb)⟩
    · obtain ⟨ks, us, vs, h1, h2, h3, h4, h5, h6⟩ := h; exact ⟨ks, us, vs, h1, h2, h3, h4, h5, fun b hb => hk _ (h6 b hb)⟩
    exact h.elim
  split at h
  · exact nil (fun b => hk _) h
  · exact nil (fun b => hk _) h
  exact h.elim
theorem aNilI_mono {op : BinOp} {t : TypeId} {x : V} (h : aNilI P op t x K) : aNilI P op t x K' := by
  have e : ∀ b, isNo op b K → isNo op b K' := fun b h => by cases op <;> first | exact hk _ h | exact h.elim
  unfold aNilI at h ⊢
  obtain ⟨h0, h⟩ := h
  refine ⟨h0, ?_⟩
  split at h <;> first | exact e _ h | exact h.elim
theorem aBinY_mono {op : BinOp} {t : TypeId} {y : Operand} {X Y : V} (h : aBinY P op t y X Y K) : aBinY P op t y X Y K' := by
  unfold aBinY at h ⊢
  split at h
  · exact aNilI_mono hk h
  exact aBin_mono hk h
theorem aUn_mono {op : UnOp} {x : V} (h : aUn op x K) : aUn op x K' := by unfold aUn at h ⊢; grind
theorem aConv_mono {t t' : TypeId} {x : V} (h : aConv P t t' x K) : aConv P t t' x K' := by unfold aConv at h ⊢; grind
theorem aPart_mono {t : TypeId} {n i : Nat} {cs : List C} (h : aPart P t n cs i K) : aPart P t n cs i K' := by unfold aPart at h ⊢; grind
theorem aField_mono {t : TypeId} {x : V} {i : Nat} (h : aField P t x i K) : aField P t x i K' := by
  unfold aField at h ⊢; split at h
  · obtain ⟨a, b, c, h1, h2⟩ := h; exact ⟨a, b, c, h1, aPart_mono hk h2⟩
  exact h.elim
theorem aFieldAddr_mono {t : TypeId} {x : V} {i : Nat} (h : aFieldAddr P t x i K) : aFieldAddr P t x i K' := by unfold aFieldAddr at h ⊢; grind
theorem aIndexAddr_mono {t : TypeId} {x y : V} (h : aIndexAddr P t x y K) : aIndexAddr P t x y K' := by unfold aIndexAddr at h ⊢; grind
theorem aIndex_mono {t : TypeId} {x y : V} (h : aIndex P t x y K) : aIndex P t x y K' := by
  unfold aIndex at h ⊢
  split at h
  · split at h
    · obtain ⟨a, b, c, h1, h2, h3, h4⟩ := h; exact ⟨a, b, c, h1, h2, h3, aPart_mono hk h4⟩
    · grind
    exact h.elim
  exact h.elim
theorem aExtract_mono {x : V} {i : Nat} (h : aExtract x i K) : aExtract x i K' := by unfold aExtract at h ⊢; grind
theorem aNilCheck_mono {x : V} (h : aNilCheck x K) : aNilCheck x K' := by unfold aNilCheck at h ⊢; grind
theorem aMakeFunc_mono {f : Fn} {a b : List V} (h : aMakeFunc f a b K) : aMakeFunc f a b K' := by unfold aMakeFunc at h ⊢; grind
theorem aLen_mono {t : TypeId} {x : V} (h : aLen P t x K) : aLen P t x K' := by unfold aLen at h ⊢; grind
theorem aMakeIface_mono {t : TypeId} {x : V} (h : aMakeIface P t x K) : aMakeIface P t x K' := by unfold aMakeIface at h ⊢; grind
theorem aSlice_mono {t : TypeId} {x : V} {lo hi : Option V} (h : aSlice P t x lo hi K) : aSlice P t x lo hi K' := by unfold aSlice at h ⊢; grind
theorem aLoadMem_mono {t : TypeId} {x : V} (h : aLoadMem P t x K) : aLoadMem P t x K' := by
  unfold aLoadMem at h ⊢; split at h
  · obtain ⟨a, h1, h2⟩ := h; exact ⟨a, h1, aPart_mono hk h2⟩
  exact h.elim
theorem aLoadBox_mono {t : TypeId} {x : V} {s : St} (h : aLoadBox P t x s K) : aLoadBox P t x s K' := by
  unfold aLoadBox at h ⊢; split at h
  · obtain ⟨a, b, h1, h2, h3⟩ := h; exact ⟨a, b, h1, h2, aPart_mono hk h3⟩
  exact h.elim
theorem aLoad_mono {t : TypeId} {x : V} {s : St} (h : aLoad P t x s K) : aLoad P t x s K' := by
  unfold aLoad at h ⊢; split at h
  · exact aLoadBox_mono hk h
  · obtain ⟨z, h1, h2⟩ := h; exact ⟨z, h1, aPart_mono hk h2⟩
  exact aLoadMem_mono hk h
theorem aMinMax_mono {b : Bool} {xs : List V} (h : aMinMax b xs K) : aMinMax b xs K' := by unfold aMinMax at h ⊢; grind
theorem aPureOp_mono {op : Op} {s : St} (h : aPureOp P op s K) : aPureOp P op s K' := by
  unfold aPureOp at h ⊢
  split at h
  · exact hk _ h
  · exact hk _ h
  · grind
  · exact aBinY_mono hk h
  · exact aUn_mono hk h
  · exact aConv_mono hk h
  · exact aFieldAddr_mono hk h
  · exact aField_mono hk h
  · exact aIndexAddr_mono hk h
  · exact aIndex_mono hk h
  · exact aExtract_mono hk h
  · exact aNilCheck_mono hk h
  · exact aMakeFunc_mono hk h
  · exact aMakeIface_mono hk h
  · exact aSlice_mono hk h
  · exact aLoadMem_mono hk h
  · exact aLen_mono hk h
  · exact aMinMax_mono hk h
  · exact aMinMax_mono hk h
  exact h.elim
theorem aBuild_mono {t : TypeId} {pa : List (Nat × V)} (h : aBuild P t pa K) : aBuild P t pa K' := by
  obtain ⟨a, b, c, h1, h2, h3, h4⟩ := h; exact ⟨a, b, c, h1, h2, h3, hk _ h4⟩
end
section
variable {P : Program} {K K' : V → St → Prop} (hk : ∀ v s, K v s → K' v s)
include hk
theorem aStore_mono {t : TypeId} {x y : V} {s : St} (h : aStore P t x y s K) : aStore P t x y s K' := by
  unfold aStore at h ⊢; split at h
  · obtain ⟨a, b, h1, h2, h3, h4, h5, h6⟩ := h; exact ⟨a, b, h1, h2, h3, h4, h5, hk _ _ h6⟩
  exact h.elim
theorem aNewA_mono {d : Nat} {cs : List C} {s : St} (h : aNewA d cs s K) : aNewA d cs s K' := hk _ _ h
theorem aNew_mono {d : Nat} {cs : List C} {s : St} (h : aNew d cs s K) : aNew d cs s K' := hk _ _ h
theorem aBuildSlice_mono {t : TypeId} {n d : Nat} {pa : List (Nat × V)} {s : St} (h : aBuildSlice P t n pa d s K) : aBuildSlice P t n pa d s K' := by
  obtain ⟨a, b, c, e, f, h1, h2, h3, h4, h5, h6, h7, h8⟩ := h; exact ⟨a, b, c, e, f, h1, h2, h3, h4, h5, h6, h7, hk _ _ h8⟩
theorem aMakeSlice_mono {t : TypeId} {x y : V} {d : Nat} {s : St} (h : aMakeSlice P t x y d s K) : aMakeSlice P t x y d s K' := by
  unfold aMakeSlice at h ⊢; split at h
  · obtain ⟨a, b, c, e, f, h1, h2, h3, h4, h5, h6, h7, h8, h9, h10, h11⟩ := h
    exact ⟨a, b, c, e, f, h1, h2, h3, h4, h5, h6, h7, h8, h9, h10, h11.imp (hk _ _) (hk _ _)⟩
  exact h.elim
omit hk in
theorem aSrc_mono {sz : Nat} {x : V} {s : St} {J J' : List D → Prop} (hj : ∀ d, J d → J' d) (h : aSrc sz x s J) : aSrc sz x s J' := by
  unfold aSrc at h ⊢; split at h
  · exact ⟨h.1, hj _ h.2⟩
  · obtain ⟨a, b, h1, h2, h3, h4⟩ := h; exact ⟨a, b, h1, h2, h3, hj _ h4⟩
  exact h.elim
theorem aAppend_mono {t : TypeId} {x y : V} {d : Nat} {s : St} (h : aAppend P t x y d s K) : aAppend P t x y d s K' := by
  unfold aAppend at h ⊢; split at h
  · obtain ⟨a, b, c, e, h1, h2, h3, h4, h5, h6, h7, h8, h9⟩ := h
    exact ⟨a, b, c, e, h1, h2, h3, h4, h5, h6, h7, h8, aSrc_mono (fun d hd => ⟨hd.1, hk _ _ hd.2⟩) h9⟩
  exact h.elim
theorem aAppendB_mono {t : TypeId} {x y : V} {d : Nat} {s : St} (h : aAppendB P t x y d s K) : aAppendB P t x y d s K' := by
  unfold aAppendB at h ⊢; split at h
  · obtain ⟨a, b, c, e, h1, h2, h3, h4, h5, h6, h7, h8⟩ := h
    exact ⟨a, b, c, e, h1, h2, h3, h4, h5, h6, h7, aSrc_mono (fun d hd => ⟨hd.1, fun q => hk _ _ (hd.2.1 q), fun q c' h1 h2 => hk _ _ (hd.2.2 q c' h1 h2)⟩) h8⟩
  · obtain ⟨a, b, c, e, f, h1, h2, h3, h4, h5, h6, h7, h8, h9, h10, h11, h12⟩ := h
    exact ⟨a, b, c, e, f, h1, h2, h3, h4, h5, h6, h7, h8, h9, h10, h11, aSrc_mono (fun d hd => ⟨hd.1, fun q => hk _ _ (hd.2.1 q), fun q c' h1 h2 => hk _ _ (hd.2.2 q c' h1 h2)⟩) h12⟩
  exact h.elim
theorem aAppendS_mono {t : TypeId} {x y : V} {d : Nat} {s : St} (h : aAppendS P t x y d s K) : aAppendS P t x y d s K' := by
  unfold aAppendS at h ⊢; split at h
  · obtain ⟨a, b, c, e, h1, h2, h3, h4, h5, h6, h7, h8⟩ := h
    exact ⟨a, b, c, e, h1, h2, h3, h4, h5, h6, h7, aSrc_mono (fun ds ⟨p, q, r⟩ => ⟨p, q, hk _ _ r⟩) h8⟩
  exact h.elim
theorem aAppendK_mono {t : TypeId} {x y : V} {d : Nat} {s : St} (h : aAppendK P t x y d s K) : aAppendK P t x y d s K' := by
  unfold aAppendK at h ⊢; split at h
  · obtain ⟨a, b, c, e, h1, h2, h3, h4, h5, h6, h7, h8⟩ := h
    exact ⟨a, b, c, e, h1, h2, h3, h4, h5, h6, h7, aSrc_mono (fun d hd => ⟨hd.1, hk _ _ hd.2⟩) h8⟩
  exact h.elim
theorem aSliceS_mono {t : TypeId} {x : V} {lo hi : Option V} {d : Option Nat} {s : St} (h : aSliceS P t x lo hi d s K) : aSliceS P t x lo hi d s K' := by
  unfold aSliceS at h ⊢; split at h
  · obtain ⟨e, h1, h2, h3, h4⟩ := h
    exact ⟨e, h1, h2, h3, hk _ _ h4⟩
  exact aSlice_mono (fun v => hk v s) h
theorem aAppX_mono {t : TypeId} {x y : V} {d : Nat} {s : St} (h : aAppX P t x y d s K) : aAppX P t x y d s K' := h.imp (aAppend_mono hk) (Or.imp (aAppendB_mono hk) (Or.imp (aAppendS_mono hk) (aAppendK_mono hk)))
theorem aAppN_mono {t t' : TypeId} {x y : V} {d : Nat} {s : St} (h : aAppN P t t' x y d s K) : aAppN P t t' x y d s K' := by
  unfold aAppN at h ⊢; split at h
  · obtain ⟨h0, e, z, q, h1, h2, h3, h4, h5, h6, h7, h⟩ := h
    exact ⟨h0, e, z, q, h1, h2, h3, h4, h5, h6, h7, h.imp (fun h => ⟨h.1, hk _ _ h.2⟩) (fun h => ⟨h.1, hk _ _ h.2⟩)⟩
  · obtain ⟨h0, a, b, c, e, f, h1, h2, h3, h4, h5, h6, h7, h8, h9, h10, h11, h12, h13⟩ := h
    exact ⟨h0, a, b, c, e, f, h1, h2, h3, h4, h5, h6, h7, h8, h9, h10, h11, h12, hk _ _ h13⟩
  exact h.elim
theorem aAppT_mono {t t' : TypeId} {x y : V} {d : Nat} {s : St} (h : aAppT P t t' x y d s K) : aAppT P t t' x y d s K' := by
  unfold aAppT at h ⊢; split at h
  · rename_i e; rw [if_pos e]; exact aAppX_mono hk h
  rename_i e; rw [if_neg e]; exact aAppN_mono hk h
theorem aCopy_mono {t : TypeId} {x y : V} {s : St} (h : aCopy P t x y s K) : aCopy P t x y s K' := by
  unfold aCopy at h ⊢; split at h
  · obtain ⟨a, b, h1, h2, h3⟩ := h
    exact ⟨a, b, h1, h2, aSrc_mono (fun d hd => ⟨hd.1, hk _ _ hd.2⟩) h3⟩
  exact h.elim
theorem aCallF_mono {f : FuncId} {args : List V} {d : Nat} {s : St} (h : aCallF P f args d s K) : aCallF P f args d s K' := by
  have key : ∀ args s, aCallT P f args d s K → aCallT P f args d s K' := by
    rintro args s ⟨rt, ks, a, b, R, h1, h2, h3, h4, h5⟩
    exact ⟨rt, ks, a, b, R, h1, h2, h3, h4, fun v h' hr => hk _ _ (h5 v h' hr)⟩
  rcases h with h | ⟨i, sz, ds, hf, h⟩
  · exact .inl (key _ _ h)
  exact .inr ⟨i, sz, ds, hf, key _ _ h⟩
theorem aConvS_mono {t t' : TypeId} {x : V} {s : St} (h : aConvS P t t' x s K) : aConvS P t t' x s K' := by
  unfold aConvS at h ⊢
  split at h
  · obtain ⟨h0, e, h1, h2, h3, h4⟩ := h
    refine ⟨h0, e, h1, h2, h3, ?_⟩
    rcases h4 with ⟨a, bs, b, c⟩ | ⟨a, p, b, c⟩
    · exact .inl ⟨a, bs, b, hk _ _ c⟩
    exact .inr ⟨a, p, b, hk _ _ c⟩
  · obtain ⟨h0, h1, h2, cs, h3, bs, h4, h5, h6⟩ := h
    exact ⟨h0, h1, h2, cs, h3, bs, h4, h5, hk _ _ h6⟩
  · unfold aConvT at h ⊢
    split at h
    · exact ⟨h.1, h.2.1, hk _ _ h.2.2⟩
    exact aConv_mono (fun v => hk v s) h
  exact aConv_mono (fun v => hk v s) h
theorem aOp_mono {o : Oper} {s : St} (h : aOp P o s K) : aOp P o s K' := by
  unfold aOp at h ⊢
  split at h
  · exact aLoad_mono (fun v => hk v s) h
  · exact aStore_mono hk h
  · exact aConvS_mono hk h
  · obtain ⟨a, b, h1, h2, h3⟩ := h; exact ⟨a, b, h1, h2, aNewA_mono hk h3⟩
  · obtain ⟨a, b, h1, h2, h3⟩ := h; exact ⟨a, b, h1, h2, aNew_mono hk h3⟩
  · exact aBuild_mono (fun v => hk v s) h
  · obtain ⟨a, h1, h2⟩ := h; exact ⟨a, h1, aBuildSlice_mono hk h2⟩
  · obtain ⟨a, h1, h2⟩ := h; exact ⟨a, h1, aMakeSlice_mono hk h2⟩
  · obtain ⟨a, h1, h2⟩ := h; exact ⟨a, h1, aAppT_mono hk h2⟩
  · exact aSliceS_mono hk h
  · exact aCopy_mono hk h
  · split at h
    · exact aCallF_mono hk h
    exact h.elim
  exact aPureOp_mono (fun v => hk v s) h
end
section
variable {P : Program} {ops : Array Oper}
theorem aWanted_mono {o : Oper} {s : St} {a b a' b' : Prop} (ha : a → a') (hb : b → b') (h : aWanted ops o s a b) : aWanted ops o s a' b' := by
  unfold aWanted at h ⊢
  split at h
  · exact ha h
  split at h
  · split at h
    · exact ⟨fun e => ha (h.1 e), fun e => hb (h.2 e)⟩
    · exact hb h
    exact h.elim
  exact h.elim
theorem aList_mono {K K' : St → Prop} (hk : ∀ s, K s → K' s) {l : List Oper} : ∀ {s : St}, aList P ops l K s → aList P ops l K' s := by
  induction l with
  | nil => intro s h; exact hk s h
  | cons o l ih => intro s h; exact aWanted_mono (aOp_mono fun v s h => ih h) ih h
theorem aTake_mono {K K' : St → Prop} (hk : ∀ s, K s → K' s) {i : Nat} {s : St} (h : aTake P ops i s K) : aTake P ops i s K' := by
  unfold aTake at h ⊢
  split at h
  · refine aWanted_mono (fun h => ?_) (hk _) h
    split at h
    · exact aLoad_mono (fun v => hk _) h
    exact aPureOp_mono (fun v => hk _) h
  exact h.elim
mutual
theorem aPlan_mono {K K' : St → Prop} (hk : ∀ s, K s → K' s) : ∀ (p : Plan) {s : St}, aPlan P ops p K s → aPlan P ops p K' s
  | .done, s, h => by simp only [aPlan] at h ⊢; exact hk s h
  | .take i p, s, h => by simp only [aPlan] at h ⊢; exact aTake_mono (fun s h => aPlan_mono hk p h) h
  | .both l, s, h => by simp only [aPlan] at h ⊢; exact aPlans_mono hk l h
theorem aPlans_mono {K K' : St → Prop} (hk : ∀ s, K s → K' s) : ∀ (l : List (Nat × Plan)) {s : St}, aPlans P ops l K s → aPlans P ops l K' s
  | [], s, h => by simp only [aPlans]
  | (i, p) :: l, s, h => by
    simp only [aPlans] at h ⊢
    refine ⟨?_, aPlans_mono hk l h.2⟩
    have h1 := h.1
    split at h1
    · exact aWanted_mono (aOp_mono fun v s h => aPlan_mono hk p h) (fun h => aPlan_mono hk p h) h1
    exact h1.elim
end
theorem aReg_mono {draw : Bool} {K K' : St → Prop} (hk : ∀ s, K s → K' s) {s : St} (h : aReg P ops draw K s) : aReg P ops draw K' s := by
  cases draw with
  | false => exact aList_mono hk h
  | true => obtain ⟨p, h1, h2, h3⟩ := h; exact ⟨p, h1, h2, aPlan_mono (fun s ⟨s'', hle, h⟩ => ⟨s'', hle, hk _ h⟩) p h3⟩
theorem thenK_mono {K K' : St → Prop} {Q Q' : AExit → St → Prop} (hk : ∀ s, K s → K' s) (hq : ∀ e s, Q e s → Q' e s) : ∀ e s, thenK K Q e s → thenK K' Q' e s := by
  intro e s h; cases e <;> first | exact hk _ h | exact hq _ _ h
theorem blockK_mono {i : Nat} {Q Q' : AExit → St → Prop} (hq : ∀ e s, Q e s → Q' e s) : ∀ e s, blockK i Q e s → blockK i Q' e s := by
  intro e s h
  cases e with
  | exit j => simp only [blockK] at h ⊢; split <;> rename_i hj <;> simp only [hj, if_true, if_false] at h <;> exact hq _ _ h
  | _ => exact hq _ _ h
theorem awp_mono {c : Code} : ∀ {Q Q' : AExit → St → Prop} {s : St}, (∀ e s, Q e s → Q' e s) → awp P c Q s → awp P c Q' s := by
  induction c with
  | skip => intro Q Q' s hq h; exact hq _ _ h
  | region id ops draw => intro Q Q' s hq h; exact aReg_mono (hq .normal) h
  | seq a b iha ihb => intro Q Q' s hq h; exact iha (thenK_mono (fun s h => ihb hq h) hq) h
  | cond c a b iha ihb =>
    intro Q Q' s hq h
    simp only [awp] at h ⊢
    unfold aCond at h ⊢
    split at h
    · exact ⟨fun e => iha hq (h.1 e), fun e => ihb hq (h.2 e)⟩
    exact h.elim
  | block i c ih => intro Q Q' s hq h; exact ih (blockK_mono hq) h
  | loop c ih => intro Q Q' s hq h; obtain ⟨I, n, h0, h1⟩ := h; exact ⟨I, n, h0, fun n s hi => ih (thenK_mono (fun _ h => h) hq) (h1 n s hi)⟩
  | exit i => intro Q Q' s hq h; exact hq _ _ h
  | scope c ih => intro Q Q' s hq h; exact ih hq h
  | ret => intro Q Q' s hq h; exact hq _ _ h
  | rangeFunc => intro Q Q' s hq h; exact h.elim
  | label => intro Q Q' s hq h; exact h.elim
  | goto => intro Q Q' s hq h; exact h.elim
  | refuse => intro Q Q' s hq h; exact h.elim
end
end
section
/-- a proof that simp does not see through -/
theorem nr {p : Prop} (h : p) : p := h
def byt (bs : List UInt8) : List D := bs.map fun b => .val (.int .u8 b.toNat)
@[go_sem] theorem byt_len (bs : List UInt8) : (byt bs).length = bs.length := by simp [byt]
section
variable {P : Program} {ops : Array Oper} {rest : List Oper} {K : St → Prop} {s : St} {d : Option Tmp} {ty : TypeId} {ps : String} {af : Array Edge}

/-! ### code -/
variable {Q : AExit → St → Prop}
@[go_sem ↓] theorem e_skip : awp P .skip Q s = Q .normal s := nr rfl
@[go_sem ↓] theorem e_seq {a b : Code} : awp P (.seq a b) Q s = awp P a (thenK (awp P b Q) Q) s := nr rfl
/-- a branch that is not looked into before it is taken -/
def aCondC (P : Program) (c : V) (a b : Code) (Q : AExit → St → Prop) (s : St) : Prop := aCond c (awp P a Q s) (awp P b Q s)
@[congr] theorem cg_aCondC {c c' : V} {a b : Code} {s' : St} (h0 : c = c') (h1 : s = s') : aCondC P c a b Q s = aCondC P c' a b Q s' := by subst h0; subst h1; rfl
@[go_sem ↓] theorem e_cond {c : Operand} {a b : Code} : awp P (.cond c a b) Q s = aCondC P (s.ev c) a b Q s := nr rfl
@[go_sem ↓] theorem e_block {i : Nat} {c : Code} : awp P (.block i c) Q s = awp P c (blockK i Q) s := nr rfl
@[go_sem ↓] theorem e_exit {i : Nat} : awp P (.exit i) Q s = Q (.exit i) s := nr rfl
@[go_sem ↓] theorem e_ret : awp P .ret Q s = Q .ret s := nr rfl
@[go_sem ↓] theorem e_region {i : Nat} {l : List Oper} : awp P (.region i l.toArray false) Q s = aList P l.toArray l (Q .normal) s := nr rfl
@[go_sem ↓] theorem e_draw {i : Nat} {l : List Oper} : awp P (.region i l.toArray true) Q s = aReg P l.toArray true (Q .normal) s := nr rfl
@[go_sem ↓] theorem e_then_n {K' : St → Prop} : thenK K' Q .normal = K' := nr rfl
@[go_sem ↓] theorem e_then_e {K' : St → Prop} {i : Nat} : thenK K' Q (.exit i) = Q (.exit i) := nr rfl
@[go_sem ↓] theorem e_then_r {K' : St → Prop} : thenK K' Q .ret = Q .ret := nr rfl
@[go_sem ↓] theorem e_blk_n {i : Nat} : blockK i Q .normal = Q .normal := nr rfl
@[go_sem ↓] theorem e_blk_r {i : Nat} : blockK i Q .ret = Q .ret := nr rfl
@[go_sem ↓] theorem e_blk_e {i j : Nat} : blockK i Q (.exit j) s = if j = i then Q .normal s else Q (.exit j) s := nr rfl
theorem c_dec {p : Prop} [Decidable p] {a b : Code} (h1 : p → awp P a Q s) (h2 : ¬ p → awp P b Q s) : aCondC P (V.bool (decide p)) a b Q s := ⟨fun h => h1 (by simpa using h), fun h => h2 (by simpa using h)⟩
@[go_sem ↓] theorem e_cond_t {a b : Code} : aCondC P (V.bool true) a b Q s = awp P a Q s := by simp [aCondC, aCond]
@[go_sem ↓] theorem e_cond_f {a b : Code} : aCondC P (V.bool false) a b Q s = awp P b Q s := by simp [aCondC, aCond]

theorem a_loop {c : Code} (I : Nat → St → Prop) (n₀ : Nat) (h0 : ∃ s', leS s' s ∧ I n₀ s') (hr : ∀ n s, I n s → awp P c (thenK (fun s' => ∃ m, m < n ∧ ∃ s'', leS s'' s' ∧ I m s'') Q) s) : awp P (.loop c) Q s := ⟨I, n₀, h0, hr⟩
theorem a_loopk {α : Type} {c : Code} (S : α → St) (J : α → Prop) (m : α → Nat) (a₀ : α) (hj : J a₀) (h0 : leS (S a₀) s) (hr : ∀ a, J a → awp P c (thenK (fun s' => ∃ a', m a' < m a ∧ J a' ∧ leS (S a') s') Q) (S a)) : awp P (.loop c) Q s := by
  refine a_loop (fun n s => ∃ a, J a ∧ n = m a ∧ s = S a) (m a₀) ⟨_, h0, a₀, hj, rfl, rfl⟩ ?_
  rintro n s ⟨a, ha, rfl, rfl⟩
  refine awp_mono (fun e s h => ?_) (hr a ha)
  cases e with
  | normal => obtain ⟨a', h1, h2, h3⟩ := h; exact ⟨m a', h1, _, h3, a', h2, rfl, rfl⟩
  | exit i => exact h
  | ret => exact h
theorem a_draw {ops : Array Oper} (p : Plan) (h1 : Region.noSelect ops = true) (h2 : planOK ops ops.size (Array.replicate ops.size false) p = true) (h : aPlan P ops p K s) : aReg P ops true K s := ⟨p, h1, h2, aPlan_mono (fun s h => ⟨s, leS_refl s, h⟩) p h⟩
/-- .. and all its orders meet in one state -/
theorem a_drawC {ops : Array Oper} (S : St) (p : Plan) (h1 : Region.noSelect ops = true) (h2 : planOK ops ops.size (Array.replicate ops.size false) p = true) (h : aPlan P ops p (fun s' => leS S s') s) (hK : K S) : aReg P ops true K s := ⟨p, h1, h2, aPlan_mono (fun s h => ⟨S, h, hK⟩) p h⟩

def pl (l : List Nat) : Plan := l.foldr Plan.take .done
def noRow (P : Program) (o : Oper) : Bool := match o.op with
  | .convert t t' _ => !isSlcT P t && sbT P t' != some true
  | .slice _ _ none (some _) _ => false
  | _ => true
theorem quiet_op {o : Oper} {K' : V → St → Prop} (hq : quietOp o.op = true) (hn : noRow P o = true) (h : aOp P o s K') : (match o.op with
      | .load t x => aLoad P t (s.ev x) s fun v => K' v s
      | op => aPureOp P op s fun v => K' v s) := by
  obtain ⟨dst, op, ty, ps, af, g⟩ := o
  unfold aOp at h
  simp only at h hq ⊢
  split at h <;> first | exact h | (exfalso; simp [quietOp] at hq; done) | (unfold aConvS at h; simp only [aPureOp]; split at h <;> first | exact h | (have := h.1; simp [noRow, this] at hn; done) | (rename_i heq; rw [heq]; unfold aConvT at h; split at h <;> first | exact h | (rename_i hq; simp [noRow, hq] at hn; done)))| skip
  · rename_i t x lo hi
    simp only [aPureOp]
    unfold aSliceS at h
    split at h
    · rename_i hl hh
      cases lo with
      | some _ => cases hl
      | none =>
        cases hi with
        | none => cases hh
        | some _ => simp [noRow] at hn
    exact h
  rename_i h1 h2 h3 h4 h5 h6 h7 h8 h9 h10 h11 h12
  split
  · rename_i t x; exact absurd rfl (h1 t x)
  exact h
theorem quiet_list {l : List Oper} : ∀ {pre : List Oper} {s : St}, ops = (pre ++ l).toArray → l.all (fun o => quietOp o.op && noRow P o) = true → aList P ops l K s → aPlan P ops (pl (List.range' pre.length l.length)) K s := by
  induction l with
  | nil => intro pre s _ _ h; simp only [List.length_nil, List.range'_zero, pl, List.foldr_nil, aPlan]; exact h
  | cons o l ih =>
    intro pre s ho hq h
    simp only [List.all_cons, Bool.and_eq_true] at hq
    have hi : ops[pre.length]? = some o := by rw [ho]; simp
    have next : ∀ s, aList P ops l K s → aPlan P ops (pl (List.range' (pre.length + 1) l.length)) K s := fun s h => by
      have := ih (pre := pre ++ [o]) (s := s) (by rw [ho]; simp) hq.2 h
      simpa using this
    simp only [List.length_cons, List.range'_succ, pl, List.foldr_cons]
    change aPlan P ops (.take pre.length (pl (List.range' (pre.length + 1) l.length))) K s
    simp only [aPlan]
    unfold aTake
    rw [hi]
    simp only
    simp only [aList] at h
    refine aWanted_mono (fun h => ?_) (next _) h
    have h2 := quiet_op hq.1.1 hq.1.2 h
    generalize o.op = op at h2 ⊢
    cases op <;> first | exact aLoad_mono (fun v => next _) h2 | exact aPureOp_mono (fun v => next _) h2
theorem a_quiet {l : List Oper} (h1 : Region.noSelect l.toArray = true) (h2 : planOK l.toArray l.toArray.size (Array.replicate l.toArray.size false) (pl (List.range' 0 l.length)) = true) (h3 : l.all (fun o => quietOp o.op && noRow P o) = true) (h : aList P l.toArray l K s) : aReg P l.toArray true K s :=
  ⟨_, h1, h2, aPlan_mono (fun s h => ⟨s, leS_refl s, h⟩) _ (quiet_list (pre := []) rfl h3 h)⟩

/-! ### lists of operations -/
@[go_sem ↓] theorem e_nil : aList P ops [] K s = K s := nr rfl
@[go_sem ↓] theorem e_move {x : Operand} : aList P ops (⟨d, .move x, ty, ps, af, none⟩ :: rest) K s = aList P ops rest K (s.put d (s.ev x)) := nr rfl
@[go_sem ↓] theorem e_assign {x : Operand} : aList P ops (⟨d, .assign x, ty, ps, af, none⟩ :: rest) K s = aList P ops rest K (s.put d (s.ev x)) := nr rfl
@[go_sem ↓] theorem e_pick {c a b : Operand} : aList P ops (⟨d, .pick c a b, ty, ps, af, none⟩ :: rest) K s = aPureOp P (.pick c a b) s fun v => aList P ops rest K (s.put d v) := nr rfl
@[go_sem ↓] theorem e_binT {op : BinOp} {t t' : TypeId} {x : Operand} {j : Nat} : aList P ops (⟨d, .binOp op t x (.tmp j) t', ty, ps, af, none⟩ :: rest) K s = aBin P op t (s.ev x) (s.ev (.tmp j)) fun v => aList P ops rest K (s.put d v) := nr rfl
@[go_sem ↓] theorem e_binI {op : BinOp} {t t' : TypeId} {x : Operand} {k : IntKind} {n : Int} : aList P ops (⟨d, .binOp op t x (.const (.int k n)) t', ty, ps, af, none⟩ :: rest) K s = aBin P op t (s.ev x) (s.ev (.const (.int k n))) fun v => aList P ops rest K (s.put d v) := nr rfl
@[go_sem ↓] theorem e_binP {op : BinOp} {t t' : TypeId} {x : Operand} {a : Option Addr} : aList P ops (⟨d, .binOp op t x (.const (.pointer a)) t', ty, ps, af, none⟩ :: rest) K s = aBin P op t (s.ev x) (s.ev (.const (.pointer a))) fun v => aList P ops rest K (s.put d v) := nr rfl
@[go_sem ↓] theorem e_binL {op : BinOp} {t t' : TypeId} {x : Operand} {a : Option Addr} {n c : Nat} : aList P ops (⟨d, .binOp op t x (.const (.slice a n c)) t', ty, ps, af, none⟩ :: rest) K s = aBin P op t (s.ev x) (s.ev (.const (.slice a n c))) fun v => aList P ops rest K (s.put d v) := nr rfl
@[go_sem ↓] theorem e_un {op : UnOp} {t : TypeId} {x : Operand} : aList P ops (⟨d, .unOp op t x, ty, ps, af, none⟩ :: rest) K s = aUn op (s.ev x) fun v => aList P ops rest K (s.put d v) := nr rfl
@[go_sem ↓] theorem e_conv {t t' : TypeId} {x : Operand} : aList P ops (⟨d, .convert t t' x, ty, ps, af, none⟩ :: rest) K s = aConvS P t t' (s.ev x) s fun v s' => aList P ops rest K (s'.put d v) := nr rfl
@[go_sem ↓] theorem e_cvi0 {t t' : TypeId} {k : IntKind} {n : Int} {K' : V → St → Prop} : aConvS P t t' (V.int k n) s K' = aConv P t t' (V.int k n) fun v => K' v s := nr rfl
@[congr] theorem cg_aConvT {q q' : Option Bool} {t t' : TypeId} {b : ByteArray} {s : St} {K' : V → St → Prop} (h0 : q = q') : aConvT q P t t' b s K' = aConvT q' P t t' b s K' := by subst h0; rfl
@[go_sem ↓] theorem e_fa {t : TypeId} {x : Operand} {i : Nat} : aList P ops (⟨d, .fieldAddr t x i, ty, ps, af, none⟩ :: rest) K s = aFieldAddr P t (s.ev x) i fun v => aList P ops rest K (s.put d v) := nr rfl
@[go_sem ↓] theorem e_ia {t : TypeId} {x i : Operand} : aList P ops (⟨d, .indexAddr t x i, ty, ps, af, none⟩ :: rest) K s = aIndexAddr P t (s.ev x) (s.ev i) fun v => aList P ops rest K (s.put d v) := nr rfl
@[go_sem ↓] theorem e_ix {t : TypeId} {x i : Operand} : aList P ops (⟨d, .index t x i, ty, ps, af, none⟩ :: rest) K s = aIndex P t (s.ev x) (s.ev i) fun v => aList P ops rest K (s.put d v) := nr rfl
@[go_sem ↓] theorem e_ext {x : Operand} {i : Nat} : aList P ops (⟨d, .extract x i, ty, ps, af, none⟩ :: rest) K s = aExtract (s.ev x) i fun v => aList P ops rest K (s.put d v) := nr rfl
@[go_sem ↓] theorem e_nc {x : Operand} : aList P ops (⟨d, .nilCheck x, ty, ps, af, none⟩ :: rest) K s = aNilCheck (s.ev x) fun v => aList P ops rest K (s.put d v) := nr rfl
@[go_sem ↓] theorem e_mf {f : Fn} {a b : Array Operand} : aList P ops (⟨d, .makeFunc f a b, ty, ps, af, none⟩ :: rest) K s = aMakeFunc f (a.toList.map s.ev) (b.toList.map s.ev) fun v => aList P ops rest K (s.put d v) := nr rfl
@[go_sem ↓] theorem e_sl {t : TypeId} {x : Operand} {lo hi : Option Operand} : aList P ops (⟨d, .slice t x lo hi none, ty, ps, af, none⟩ :: rest) K s = aSliceS P t (s.ev x) (lo.map s.ev) (hi.map s.ev) d s fun v s' => aList P ops rest K (s'.put d v) := nr rfl
@[go_sem ↓] theorem e_sS0 {t : TypeId} {x lo : V} {hi : Option V} {K' : V → St → Prop} : aSliceS P t x (some lo) hi d s K' = aSlice P t x (some lo) hi fun v => K' v s := by
  unfold aSliceS; split <;> simp_all
@[go_sem ↓] theorem e_sS1 {t : TypeId} {x : V} {K' : V → St → Prop} : aSliceS P t x none none d s K' = aSlice P t x none none fun v => K' v s := by
  unfold aSliceS; split <;> simp_all
@[go_sem ↓] theorem e_sS2 {t : TypeId} {o : Own} {nl : Option Bool} {sz : Nat} {xs : List D} {lo hi : Option V} {K' : V → St → Prop} : aSliceS P t (.cell (.lst o nl sz xs)) lo hi d s K' = aSlice P t (.cell (.lst o nl sz xs)) lo hi fun v => K' v s := nr rfl
@[go_sem ↓] theorem e_sSk {t : TypeId} {τ : Tag} {sz n : Nat} {xs : List D} {k : IntKind} {h : Int} {K' : V → St → Prop} : aSliceS P t (.cell (.stk τ sz xs)) none (some (V.int k h)) (some n) s K' = aSliceK P t τ sz xs h n s K' := nr rfl
@[congr] theorem cg_aSliceS {t : TypeId} {x x' : V} {lo hi lo' hi' : Option V} {d : Option Nat} {s s' : St} {K : V → St → Prop} (h0 : x = x') (h1 : lo = lo') (h2 : hi = hi') (h3 : s = s') : aSliceS P t x lo hi d s K = aSliceS P t x' lo' hi' d s' K := by subst h0; subst h1; subst h2; subst h3; rfl
@[go_sem ↓] theorem e_len {x : Operand} {t : TypeId} : aList P ops (⟨d, .call ⟨.builtin .len, ⟨[x]⟩, ⟨[t]⟩⟩, ty, ps, af, none⟩ :: rest) K s = aLen P t (s.ev x) fun v => aList P ops rest K (s.put d v) := nr rfl
@[go_sem ↓] theorem e_max {xs : List Operand} {ts : Array TypeId} : aList P ops (⟨d, .call ⟨.builtin .max, ⟨xs⟩, ts⟩, ty, ps, af, none⟩ :: rest) K s = aMinMax true (xs.map s.ev) fun v => aList P ops rest K (s.put d v) := nr rfl
@[go_sem ↓] theorem e_min {xs : List Operand} {ts : Array TypeId} : aList P ops (⟨d, .call ⟨.builtin .min, ⟨xs⟩, ts⟩, ty, ps, af, none⟩ :: rest) K s = aMinMax false (xs.map s.ev) fun v => aList P ops rest K (s.put d v) := nr rfl
@[go_sem ↓] theorem e_load {t : TypeId} {x : Operand} : aList P ops (⟨d, .load t x, ty, ps, af, none⟩ :: rest) K s = aLoad P t (s.ev x) s fun v => aList P ops rest K (s.put d v) := nr rfl
@[go_sem ↓] theorem e_store {t : TypeId} {x y : Operand} : aList P ops (⟨d, .store t x y, ty, ps, af, none⟩ :: rest) K s = aStore P t (s.ev x) (s.ev y) s fun v s' => aList P ops rest K (s'.put d v) := nr rfl
@[go_sem ↓] theorem e_alloc {e : TypeId} {k : Nat} : aList P ops (⟨some k, .alloc e, ty, ps, af, none⟩ :: rest) K s = ∃ z, allocC P e = some z ∧ aNewA k z s fun v s' => aList P ops rest K (s'.put (some k) v) := by
  simp [aList, aWanted, aOp]
@[go_sem ↓] theorem e_box {e : TypeId} {x : Operand} {k : Nat} : aList P ops (⟨some k, .box e x, ty, ps, af, none⟩ :: rest) K s = ∃ z, cellsOf (s.ev x) = some z ∧ aNew k z s fun v s' => aList P ops rest K (s'.put (some k) v) := by
  simp [aList, aWanted, aOp]
@[go_sem ↓] theorem e_build {t : TypeId} {pa : Array (Nat × Operand)} : aList P ops (⟨d, .build t pa, ty, ps, af, none⟩ :: rest) K s = aBuild P t (pa.toList.map fun p => (p.1, s.ev p.2)) fun v => aList P ops rest K (s.put d v) := nr rfl
@[go_sem ↓] theorem e_bs {t : TypeId} {n k : Nat} {pa : Array (Nat × Operand)} : aList P ops (⟨some k, .buildSlice t n pa, ty, ps, af, none⟩ :: rest) K s = aBuildSlice P t n (pa.toList.map fun p => (p.1, s.ev p.2)) k s fun v s' => aList P ops rest K (s'.put (some k) v) := by
  simp [aList, aWanted, aOp]
@[go_sem ↓] theorem e_app {t : TypeId} {x y : Operand} {k : Nat} : aList P ops (⟨some k, .call ⟨.builtin .append, ⟨[x, y]⟩, ⟨[t, t]⟩⟩, ty, ps, af, none⟩ :: rest) K s = aAppX P t (s.ev x) (s.ev y) k s fun v s' => aList P ops rest K (s'.put (some k) v) := by
  simp [aList, aWanted, aOp, aAppT]
def aCall (P : Program) (f : V) (args : List V) (d : Nat) (s : St) (K : V → St → Prop) : Prop :=
  match f with
  | .w (.c (.fn (.func k) first caps)) => aCallF P k (first.map pvV ++ args ++ caps.map pvV) d s K
  | _ => False
@[go_sem ↓] theorem e_call {f : Operand} {args : List Operand} {ts : Array TypeId} : aList P ops (⟨d, .call ⟨.value f, ⟨args⟩, ts⟩, ty, ps, af, none⟩ :: rest) K s = aCall P (s.ev f) (args.map s.ev) (d.getD 1000003) s fun v s' => aList P ops rest K (s'.put d v) := by
  simp only [aList, aWanted, aOp]
  rfl
def opDst : List Oper → Nat → Option Tmp
  | [], _ => none
  | o :: _, 0 => o.dst
  | _ :: l, n + 1 => opDst l n
@[go_sem ↓] theorem e_od0 {o : Oper} {l : List Oper} : opDst (o :: l) 0 = o.dst := nr rfl
@[go_sem ↓] theorem e_odS {o : Oper} {l : List Oper} {n : Nat} : opDst (o :: l) (n + 1) = opDst l n := nr rfl
theorem opDst_eq (l : List Oper) (j : Nat) : (l.toArray[j]?).bind (·.dst) = opDst l j := by
  induction l generalizing j with
  | nil => simp [opDst]
  | cons o l ih => cases j with
    | zero => simp [opDst]
    | succ j => have := ih j; simpa [opDst] using this
def aWn (t : Option Tmp) (s : St) (w : Bool) (yes no : Prop) : Prop :=
  match t with
  | some t => match s.slots.getD t V.undef with
    | .w (.c (.val (.bool b))) => (b = w → yes) ∧ (b = !w → no)
    | .tup [] => no
    | _ => False
  | none => False
def aWv (v : V) (w : Bool) (yes no : Prop) : Prop :=
  match v with
  | .w (.c (.val (.bool b))) => (b = w → yes) ∧ (b = !w → no)
  | .tup [] => no
  | _ => False
theorem aWanted_eq {l : List Oper} {op : Op} {j : Nat} {w : Bool} {yes no : Prop} : aWanted l.toArray ⟨d, op, ty, ps, af, some (j, w)⟩ s yes no = aWn (opDst l j) s w yes no := by
  unfold aWanted aWn
  simp only [opDst_eq]
  cases opDst l j <;> rfl
@[go_sem ↓] theorem e_wn {t : Tmp} {l : List V} {h : Heap} {w : Bool} {yes no : Prop} : aWn (some t) ⟨l, h⟩ w yes no = aWv (l.getD t V.undef) w yes no := nr rfl
@[go_sem ↓] theorem e_wtf {yes no : Prop} : aWv (V.bool true) false yes no = no := by simp [aWv]
@[go_sem ↓] theorem e_wff {yes no : Prop} : aWv (V.bool false) false yes no = yes := by simp [aWv]
/-- an operation under a guard that is not looked into before the guard is known -/
def aWnC (P : Program) (l : List Oper) (t : Option Tmp) (w : Bool) (d : Option Tmp) (op : Op) (ty : TypeId) (ps : String) (af : Array Edge) (rest : List Oper) (K : St → Prop) (s : St) : Prop :=
  aWn t s w (aList P l.toArray (⟨d, op, ty, ps, af, none⟩ :: rest) K s) (aList P l.toArray rest K (s.put d V.off))
def aWvC (P : Program) (l : List Oper) (v : V) (w : Bool) (d : Option Tmp) (op : Op) (ty : TypeId) (ps : String) (af : Array Edge) (rest : List Oper) (K : St → Prop) (s : St) : Prop :=
  aWv v w (aList P l.toArray (⟨d, op, ty, ps, af, none⟩ :: rest) K s) (aList P l.toArray rest K (s.put d V.off))
variable {l : List Oper} {op : Op}
@[congr] theorem cg_aWnC {t t' : Option Tmp} {w : Bool} {s' : St} (h0 : t = t') (h1 : s = s') : aWnC P l t w d op ty ps af rest K s = aWnC P l t' w d op ty ps af rest K s' := by subst h0; subst h1; rfl
@[congr] theorem cg_aWvC {t t' : V} {w : Bool} {s' : St} (h0 : t = t') (h1 : s = s') : aWvC P l t w d op ty ps af rest K s = aWvC P l t' w d op ty ps af rest K s' := by subst h0; subst h1; rfl
@[go_sem ↓] theorem e_guard {j : Nat} {w : Bool} : aList P l.toArray (⟨d, op, ty, ps, af, some (j, w)⟩ :: rest) K s = aWnC P l (opDst l j) w d op ty ps af rest K s := by
  show aWanted _ _ _ _ _ = _
  rw [aWanted_eq]
  rfl
@[go_sem ↓] theorem e_wnC {t : Tmp} {w : Bool} {sl : List V} {h : Heap} : aWnC P l (some t) w d op ty ps af rest K ⟨sl, h⟩ = aWvC P l (sl.getD t V.undef) w d op ty ps af rest K ⟨sl, h⟩ := nr rfl
@[go_sem ↓] theorem e_wCtt : aWvC P l (V.bool true) true d op ty ps af rest K s = aList P l.toArray (⟨d, op, ty, ps, af, none⟩ :: rest) K s := by simp [aWvC, aWv]
@[go_sem ↓] theorem e_wCtf : aWvC P l (V.bool true) false d op ty ps af rest K s = aList P l.toArray rest K (s.put d V.off) := by simp [aWvC, aWv]
@[go_sem ↓] theorem e_wCft : aWvC P l (V.bool false) true d op ty ps af rest K s = aList P l.toArray rest K (s.put d V.off) := by simp [aWvC, aWv]
@[go_sem ↓] theorem e_wC0 {w : Bool} : aWvC P l V.off w d op ty ps af rest K s = aList P l.toArray rest K (s.put d V.off) := nr rfl
@[go_sem ↓] theorem e_wCff : aWvC P l (V.bool false) false d op ty ps af rest K s = aList P l.toArray (⟨d, op, ty, ps, af, none⟩ :: rest) K s := by simp [aWvC, aWv]
def aPick (c x y : V) (K : V → Prop) : Prop :=
  match c with
  | .w (.c (.val (.bool t))) => (t = true → K x) ∧ (t = false → K y)
  | _ => False
@[go_sem ↓] theorem e_pk {c a b : Operand} {V' : V → Prop} : aPureOp P (.pick c a b) s V' = aPick (s.ev c) (s.ev a) (s.ev b) V' := nr rfl
@[go_sem ↓] theorem e_pkt {x y : V} {V' : V → Prop} : aPick (V.bool true) x y V' = V' x := by simp [aPick]
@[go_sem ↓] theorem e_pkf {x y : V} {V' : V → Prop} : aPick (V.bool false) x y V' = V' y := by simp [aPick]
variable {R : V → Heap → Prop} {rs : List ResultVar} {KR : List V → Prop}
@[go_sem ↓] theorem e_end_r : aEnd P rs R .ret s = aRes P rs s fun vs => ∃ v h', leV v (packV vs) ∧ leH h' s.heap ∧ R v h' := nr rfl
@[go_sem ↓] theorem e_end_n : aEnd P rs R .normal s = aRes P rs s fun vs => ∃ v h', leV v (packV vs) ∧ leH h' s.heap ∧ R v h' := nr rfl
@[go_sem ↓] theorem e_res0 : aRes P [] s KR = KR [] := nr rfl
@[go_sem ↓] theorem e_rest {t : Tmp} : aRes P (.tmp t :: rs) s KR = aRes P rs s fun vs => KR (s.slots.getD t V.undef :: vs) := nr rfl
@[go_sem ↓] theorem e_resc {b : Tmp} {t : TypeId} : aRes P (.cell b t :: rs) s KR = aLoadBox P t (s.slots.getD b V.undef) s fun v => aRes P rs s fun vs => KR (v :: vs) := nr rfl
@[go_sem ↓] theorem e_pack1 {v : V} : packV [v] = v := nr rfl
@[go_sem ↓] theorem e_pack0 : packV [] = .tup [] := nr rfl
@[go_sem ↓] theorem e_pack2 {v u : V} {l : List V} : packV (v :: u :: l) = .tup ((v :: u :: l).map V.toW) := nr rfl
/-! ### regions that draw -/
@[go_sem ↓] theorem e_pdone : aPlan P ops .done K s = K s := by simp [aPlan]
@[go_sem ↓] theorem e_ptake {i : Nat} {p : Plan} : aPlan P ops (.take i p) K s = aTake P ops i s (aPlan P ops p K) := by simp only [aPlan]
/-- one operation as the head of a list -/
def aStep (P : Program) (ops : Array Oper) (o : Oper) (s : St) (K : St → Prop) : Prop := aWanted ops o s (match o.op with
      | .load t x => aLoad P t (s.ev x) s fun v => K (s.put o.dst v)
      | op => aPureOp P op s fun v => K (s.put o.dst v)) (K (s.put o.dst V.off))
@[go_sem ↓] theorem e_take {l : List Oper} {i : Nat} : aTake P l.toArray i s K = match l[i]? with
    | some o => aStep P l.toArray o s K
    | none => False := by
  unfold aTake aStep
  simp
  rfl
@[go_sem ↓] theorem s_move {x : Operand} : aStep P ops ⟨d, .move x, ty, ps, af, none⟩ s K = K (s.put d (s.ev x)) := nr rfl
@[go_sem ↓] theorem s_assign {x : Operand} : aStep P ops ⟨d, .assign x, ty, ps, af, none⟩ s K = K (s.put d (s.ev x)) := nr rfl
@[go_sem ↓] theorem s_pick {c a b : Operand} : aStep P ops ⟨d, .pick c a b, ty, ps, af, none⟩ s K = aPureOp P (.pick c a b) s fun v => K (s.put d v) := nr rfl
@[go_sem ↓] theorem s_binT {op : BinOp} {t t' : TypeId} {x : Operand} {j : Nat} : aStep P ops ⟨d, .binOp op t x (.tmp j) t', ty, ps, af, none⟩ s K = aBin P op t (s.ev x) (s.ev (.tmp j)) fun v => K (s.put d v) := nr rfl
@[go_sem ↓] theorem s_binI {op : BinOp} {t t' : TypeId} {x : Operand} {k : IntKind} {n : Int} : aStep P ops ⟨d, .binOp op t x (.const (.int k n)) t', ty, ps, af, none⟩ s K = aBin P op t (s.ev x) (s.ev (.const (.int k n))) fun v => K (s.put d v) := nr rfl
@[congr] theorem cg_aNilI {op : BinOp} {t : TypeId} {x x' : V} {V' : V → Prop} (h0 : x = x') : aNilI P op t x V' = aNilI P op t x' V' := by subst h0; rfl
@[go_sem ↓] theorem s_un {op : UnOp} {t : TypeId} {x : Operand} : aStep P ops ⟨d, .unOp op t x, ty, ps, af, none⟩ s K = aUn op (s.ev x) fun v => K (s.put d v) := nr rfl
@[go_sem ↓] theorem s_conv {t t' : TypeId} {x : Operand} : aStep P ops ⟨d, .convert t t' x, ty, ps, af, none⟩ s K = aConv P t t' (s.ev x) fun v => K (s.put d v) := nr rfl
@[go_sem ↓] theorem s_fa {t : TypeId} {x : Operand} {i : Nat} : aStep P ops ⟨d, .fieldAddr t x i, ty, ps, af, none⟩ s K = aFieldAddr P t (s.ev x) i fun v => K (s.put d v) := nr rfl
@[go_sem ↓] theorem s_fld {t : TypeId} {x : Operand} {i : Nat} : aStep P ops ⟨d, .field t x i, ty, ps, af, none⟩ s K = aField P t (s.ev x) i fun v => K (s.put d v) := nr rfl
@[go_sem ↓] theorem s_ia {t : TypeId} {x i : Operand} : aStep P ops ⟨d, .indexAddr t x i, ty, ps, af, none⟩ s K = aIndexAddr P t (s.ev x) (s.ev i) fun v => K (s.put d v) := nr rfl
@[go_sem ↓] theorem s_ix {t : TypeId} {x i : Operand} : aStep P ops ⟨d, .index t x i, ty, ps, af, none⟩ s K = aIndex P t (s.ev x) (s.ev i) fun v => K (s.put d v) := nr rfl
@[go_sem ↓] theorem s_ext {x : Operand} {i : Nat} : aStep P ops ⟨d, .extract x i, ty, ps, af, none⟩ s K = aExtract (s.ev x) i fun v => K (s.put d v) := nr rfl
@[go_sem ↓] theorem s_nc {x : Operand} : aStep P ops ⟨d, .nilCheck x, ty, ps, af, none⟩ s K = aNilCheck (s.ev x) fun v => K (s.put d v) := nr rfl
@[go_sem ↓] theorem s_len {x : Operand} {t : TypeId} : aStep P ops ⟨d, .call ⟨.builtin .len, ⟨[x]⟩, ⟨[t]⟩⟩, ty, ps, af, none⟩ s K = aLen P t (s.ev x) fun v => K (s.put d v) := nr rfl
@[go_sem ↓] theorem s_load {t : TypeId} {x : Operand} : aStep P ops ⟨d, .load t x, ty, ps, af, none⟩ s K = aLoad P t (s.ev x) s fun v => K (s.put d v) := nr rfl
@[go_sem] theorem s_guard {l : List Oper} {op : Op} {j : Nat} {w : Bool} : aStep P l.toArray ⟨d, op, ty, ps, af, some (j, w)⟩ s K = aWn (opDst l j) s w (aStep P l.toArray ⟨d, op, ty, ps, af, none⟩ s K) (K (s.put d V.off)) := by
  show aWanted _ _ _ _ _ = _
  rw [aWanted_eq]
  rfl
def aBt (P : Program) (ops : Array Oper) (q : Option Oper) (s : St) (K : St → Prop) : Prop :=
  match q with
  | some o => aList P ops [o] K s
  | none => False
@[congr] theorem cg_aBt {q q' : Option Oper} (h0 : q = q') : aBt P ops q s K = aBt P ops q' s K := by subst h0; rfl
@[go_sem ↓] theorem e_bt {o : Oper} : aBt P ops (some o) s K = aList P ops [o] K s := nr rfl
@[go_sem ↓] theorem e_plans {l : List Oper} {i : Nat} {p : Plan} {m : List (Nat × Plan)} : aPlans P l.toArray ((i, p) :: m) K s = (aBt P l.toArray (l[i]?) s (aPlan P l.toArray p K) ∧ aPlans P l.toArray m K s) := by
  simp only [aPlans, aBt, aList, List.getElem?_toArray]
  cases l[i]? <;> rfl
@[go_sem ↓] theorem e_plans0 : aPlans P ops [] K s = True := by simp only [aPlans]
@[go_sem ↓] theorem e_both {l : List (Nat × Plan)} : aPlan P ops (.both l) K s = aPlans P ops l K s := by simp only [aPlan]

/-! ### states -/
variable {l : List V} {h : Heap}
@[go_sem ↓] theorem e_tmp {t : Tmp} : St.ev ⟨l, h⟩ (.tmp t) = l.getD t V.undef := nr rfl
@[go_sem ↓] theorem e_const {v : Value} : s.ev (.const v) = ofValue v := nr rfl
@[go_sem ↓] theorem e_func {f : FuncId} : s.ev (.func f) = .w (.c (.fn (.func f) [] [])) := nr rfl
@[go_sem ↓] theorem e_put {k : Nat} {v : V} : St.put ⟨l, h⟩ (some k) v = ⟨l.set k v, h⟩ := nr rfl
@[go_sem ↓] theorem e_put0 {v : V} : s.put none v = s := nr rfl
@[go_sem ↓] theorem e_slots : (⟨l, h⟩ : St).slots = l := nr rfl
@[go_sem ↓] theorem e_heap : (⟨l, h⟩ : St).heap = h := nr rfl
@[go_sem ↓] theorem e_cint {k : IntKind} {n : Int} : ofValue (.int k n) = V.int k n := nr rfl
@[go_sem ↓] theorem e_cbool {b : Bool} : ofValue (.bool b) = V.bool b := nr rfl
@[go_sem ↓] theorem e_cptr : ofValue (.pointer none) = V.val (.pointer none) := nr rfl
@[go_sem ↓] theorem e_cslc : ofValue (.slice none 0 0) = .cell (.lst .full (some true) 1 []) := nr rfl
@[go_sem ↓] theorem e_cnf : ofValue .nilFunc = V.val .nilFunc := nr rfl
@[go_sem ↓] theorem e_get0 {v : V} : (v :: l).getD 0 V.undef = v := nr rfl
@[go_sem ↓] theorem e_getS {v : V} {n : Nat} : (v :: l).getD (n + 1) V.undef = l.getD n V.undef := nr rfl
@[go_sem ↓] theorem e_set0 {v u : V} : (v :: l).set 0 u = u :: l := nr rfl
@[go_sem ↓] theorem e_setS {v u : V} {n : Nat} : (v :: l).set (n + 1) u = v :: l.set n u := nr rfl

/-! ### values -/
variable {V' : V → Prop} {k : IntKind} {a b : Int}
@[go_sem ↓] theorem e_bint {op : BinOp} {t : TypeId} {k' : IntKind} : aBin P op t (V.int k a) (V.int k' b) V' = aInt op k a k' b V' := nr rfl
@[go_sem ↓] theorem e_add : aInt .add k a k b V' = V' (.int k (k.wrap (a + b))) := by simp [aInt]
@[go_sem ↓] theorem e_sub : aInt .sub k a k b V' = V' (.int k (k.wrap (a - b))) := by simp [aInt]
@[go_sem ↓] theorem e_mul : aInt .mul k a k b V' = V' (.int k (k.wrap (a * b))) := by simp [aInt]
@[go_sem ↓] theorem e_and : aInt .and k a k b V' = V' (.int k (k.wrap (BitVec.ofInt k.bits a &&& BitVec.ofInt k.bits b).toNat)) := by simp [aInt]
@[go_sem ↓] theorem e_or : aInt .or k a k b V' = V' (.int k (k.wrap (BitVec.ofInt k.bits a ||| BitVec.ofInt k.bits b).toNat)) := by simp [aInt]
@[go_sem ↓] theorem e_xor : aInt .xor k a k b V' = V' (.int k (k.wrap (BitVec.ofInt k.bits a ^^^ BitVec.ofInt k.bits b).toNat)) := by simp [aInt]
@[go_sem ↓] theorem e_eql : aInt .eql k a k b V' = V' (.bool (decide (a = b))) := by
  have : (a == b) = decide (a = b) := by rw [Bool.eq_iff_iff]; simp
  simp [aInt, this]
@[go_sem ↓] theorem e_neq : aInt .neq k a k b V' = V' (.bool (decide (a ≠ b))) := by
  have : (a != b) = decide (a ≠ b) := by rw [Bool.eq_iff_iff]; simp
  simp only [aInt, this, true_and]
@[go_sem ↓] theorem e_lss : aInt .lss k a k b V' = V' (.bool (decide (a < b))) := by simp [aInt]
@[go_sem ↓] theorem e_leq : aInt .leq k a k b V' = V' (.bool (decide (a ≤ b))) := by simp [aInt]
@[go_sem ↓] theorem e_gtr : aInt .gtr k a k b V' = V' (.bool (decide (b < a))) := by simp [aInt]
@[go_sem ↓] theorem e_geq : aInt .geq k a k b V' = V' (.bool (decide (b ≤ a))) := by simp [aInt]
@[go_sem ↓] theorem e_quo (hb : b ≠ 0) : aInt .quo k a k b V' = V' (.int k (k.wrap (a.tdiv b))) := by simp [aInt, hb]
@[go_sem ↓] theorem e_rem (hb : b ≠ 0) : aInt .rem k a k b V' = V' (.int k (a.tmod b)) := by simp [aInt, hb]
@[go_sem ↓] theorem e_shl {k' : IntKind} (hb : 0 ≤ b) : aInt .shl k a k' b V' = V' (.int k (k.wrap (a * 2 ^ min b.toNat k.bits))) := by simp [aInt, hb]
@[go_sem ↓] theorem e_shr {k' : IntKind} (hb : 0 ≤ b) : aInt .shr k a k' b V' = V' (.int k (a.fdiv (2 ^ min b.toNat k.bits))) := by simp [aInt, hb]
@[go_sem] theorem wrap_i64 {n : Int} (h : -9223372036854775808 ≤ n) (h' : n ≤ 9223372036854775807) : IntKind.i64.wrap n = n := by
  simp [IntKind.wrap, IntKind.bits, IntKind.signed]; omega
@[go_sem ↓] theorem e_eqA {t : TypeId} {cs ds : List C} : aBin P .eql t (.w (.agg cs)) (.w (.agg ds)) V' = aEqA (flatT P t) cs ds fun b => V' (.bool b) := nr rfl
@[go_sem ↓] theorem e_neA {t : TypeId} {cs ds : List C} : aBin P .neq t (.w (.agg cs)) (.w (.agg ds)) V' = aEqA (flatT P t) cs ds fun b => V' (.bool !b) := nr rfl
@[congr] theorem cg_aEqA {q q' : Option (List (Option IntKind))} {cs ds : List C} {J : Bool → Prop} (h0 : q = q') : aEqA q cs ds J = aEqA q' cs ds J := by subst h0; rfl
@[go_sem ↓] theorem e_nilp {t : TypeId} {i : Id} {o : Nat} : aBin P .neq t (.cell (.ptr i o)) (V.val (.pointer none)) V' = (isPtrT P t = true ∧ V' (.bool true)) := nr rfl
@[go_sem ↓] theorem e_nilq {t : TypeId} {i : Id} {o : Nat} : aBin P .eql t (.cell (.ptr i o)) (V.val (.pointer none)) V' = (isPtrT P t = true ∧ V' (.bool false)) := nr rfl
@[go_sem ↓] theorem e_nc_p {i : Id} {o : Nat} : aNilCheck (.cell (.ptr i o)) V' = V' (.cell (.ptr i o)) := nr rfl
@[go_sem ↓] theorem e_not {c : Bool} : aUn .not (V.bool c) V' = V' (.bool !c) := nr rfl
def aFA (q : Option (Nat × TypeId × Nat)) (x : V) (K : V → Prop) : Prop :=
  match q, x with
  | some (off, _, sz), .w (.c (.ptr j o)) => sz ≠ 0 ∧ K (.cell (.ptr j (o + off)))
  | some (off, _, sz), .w (.c (.mem xs)) => sz ≠ 0 ∧ K (.cell (.mem (xs.drop off)))
  | _, _ => False
@[go_sem ↓] theorem e_fap {t : TypeId} {i : Nat} {x : V} : aFieldAddr P t x i V' = aFA (fldT P t i) x V' := by
  unfold aFieldAddr aFA
  split
  · cases h : fldT P t i with
    | none => simp
    | some q => obtain ⟨x, y, z⟩ := q; simp; exact ⟨fun ⟨_, _, _, ⟨h1, _, h2⟩, h3⟩ => by subst h1; subst h2; exact h3, fun h => ⟨_, _, _, ⟨rfl, rfl, rfl⟩, h⟩⟩
  · cases h : fldT P t i with
    | none => simp
    | some q => obtain ⟨x, y, z⟩ := q; simp; exact ⟨fun ⟨_, _, _, ⟨h1, _, h2⟩, h3⟩ => by subst h1; subst h2; exact h3, fun h => ⟨_, _, _, ⟨rfl, rfl, rfl⟩, h⟩⟩
  rename_i h1 h2
  cases h : fldT P t i with
  | none => rfl
  | some q =>
    obtain ⟨x, y, z⟩ := q
    split
    · rename_i e _; exact absurd rfl (h1 _ _)
    · rename_i e _; exact absurd rfl (h2 _)
    rfl
@[go_sem ↓] theorem e_FA1 {off sz : Nat} {t : TypeId} {j : Id} {o : Nat} (hz : sz ≠ 0) : aFA (some (off, t, sz)) (.cell (.ptr j o)) V' = V' (.cell (.ptr j (o + off))) := by simp [aFA, hz]
@[go_sem ↓] theorem e_FA2 {off sz : Nat} {t : TypeId} {xs : List D} (hz : sz ≠ 0) : aFA (some (off, t, sz)) (.cell (.mem xs)) V' = V' (.cell (.mem (xs.drop off))) := by simp [aFA, hz]
def aIA (q : Option (Option Nat × TypeId × Nat)) (x : V) (i : Int) (K : V → Prop) : Prop :=
  match q with
  | some (l, _, sz) => match x, l with
    | .w (.c (.ptr j o)), some n => 0 ≤ i ∧ i < n ∧ K (.cell (.ptr j (o + i.toNat * sz)))
    | .w (.c (.mem xs)), some n => 0 ≤ i ∧ i < n ∧ K (.cell (.mem (xs.drop (i.toNat * sz))))
    | .w (.c (.lst _ _ sz' xs)), none => sz' = sz ∧ 0 ≤ i ∧ i * sz < xs.length ∧ K (.cell (.mem (xs.drop (i.toNat * sz))))
    | .w (.c (.row j o n _)), none => 0 ≤ i ∧ i < n ∧ K (.cell (.ptr j (o + i.toNat * sz)))
    | .w (.c (.stk τ sz' xs)), none => sz' = sz ∧ 0 ≤ i ∧ i < (xs.length / sz : Nat) ∧ K (.cell (.sptr τ (i.toNat * sz) sz xs))
    | _, _ => False
  | none => False
@[go_sem ↓] theorem e_iap {t : TypeId} {x : V} {i : Int} : aIndexAddr P t x (V.int k i) V' = aIA (idxT P t) x i V' := by
  unfold aIndexAddr aIA
  simp only
  cases h : idxT P t with
  | none => simp
  | some q => obtain ⟨l, e, sz⟩ := q; simp only [Option.some.injEq, Prod.mk.injEq]; exact propext ⟨fun ⟨_, _, _, ⟨h1, _, h2⟩, h3⟩ => by subst h1; subst h2; exact h3, fun h => ⟨_, _, _, ⟨rfl, rfl, rfl⟩, h⟩⟩
@[go_sem ↓] theorem e_IA2 {j : Id} {o n sz : Nat} {t : TypeId} {i : Int} (h0 : 0 ≤ i) (h1 : i < n) : aIA (some (some n, t, sz)) (.cell (.ptr j o)) i V' = V' (.cell (.ptr j (o + i.toNat * sz))) := by
  simp [aIA, h0, h1]
@[go_sem ↓] theorem e_IA3 {j : Id} {o n c sz : Nat} {t : TypeId} {i : Int} (h0 : 0 ≤ i) (h1 : i < n) : aIA (some (none, t, sz)) (.cell (.row j o n c)) i V' = V' (.cell (.ptr j (o + i.toNat * sz))) := by
  simp [aIA, h0, h1]
@[go_sem ↓] theorem e_lenL {t : TypeId} {o : Own} {nl : Option Bool} {xs : List D} : aLen P t (.cell (.lst o nl 1 xs)) V' = (isSlcT P t = true ∧ V' (.int .i64 xs.length)) := by simp [aLen]
@[go_sem ↓] theorem e_IA3k {τ : Tag} {xs : List D} {t : TypeId} {i : Int} (h0 : 0 ≤ i) (h1 : i < xs.length) : aIA (some (none, t, 1)) (.cell (.stk τ 1 xs)) i V' = V' (.cell (.sptr τ i.toNat 1 xs)) := by
  simp [aIA, h0, h1]
@[go_sem ↓] theorem e_lenK {t : TypeId} {τ : Tag} {xs : List D} : aLen P t (.cell (.stk τ 1 xs)) V' = (isSlcT P t = true ∧ V' (.int .i64 xs.length)) := by simp [aLen]
@[go_sem ↓] theorem e_lenR {t : TypeId} {i : Id} {o n c : Nat} : aLen P t (.cell (.row i o n c)) V' = (isSlcT P t = true ∧ V' (.int .i64 n)) := by simp [aLen]
/-- what is there, first -/
def aSm {α : Type} (o : Option α) (K : α → Prop) : Prop := ∃ x, o = some x ∧ K x
@[congr] theorem cg_aSm {α : Type} {o o' : Option α} {K : α → Prop} (h : o = o') : aSm o K = aSm o' K := by subst h; rfl
@[go_sem] theorem e_Sm {α : Type} {x : α} {K : α → Prop} : aSm (some x) K = K x := by simp [aSm]
def aPt (q : Option Bool) (sz : Nat) (cs : List C) (off : Nat) (K : V → Prop) : Prop :=
  match q with
  | some true => off + sz ≤ cs.length ∧ K (.w (.agg ((cs.drop off).take sz)))
  | some false => ∃ c, cs[off]? = some c ∧ K (.w (.c c))
  | none => False
@[go_sem ↓] theorem e_part {t : TypeId} {sz : Nat} {cs : List C} {off : Nat} : aPart P t sz cs off V' = aPt (isAggT P t) sz cs off V' := nr rfl
@[go_sem ↓] theorem e_pt_f {sz : Nat} {cs : List C} {off : Nat} : aPt (some false) sz cs off V' = ∃ c, cs[off]? = some c ∧ V' (.w (.c c)) := nr rfl
@[go_sem ↓] theorem e_pt_t {sz : Nat} {cs : List C} {off : Nat} : aPt (some true) sz cs off V' = (off + sz ≤ cs.length ∧ V' (.w (.agg ((cs.drop off).take sz)))) := nr rfl
@[go_sem ↓] theorem e_ldm {t : TypeId} {xs : List D} : aLoad P t (.cell (.mem xs)) s V' = ∃ sz, sizeT P t = some sz ∧ aPart P t sz (xs.map D.toC) 0 V' := nr rfl
@[go_sem ↓] theorem e_ldk {t : TypeId} {τ : Tag} {off sz : Nat} {xs : List D} : aLoad P t (.cell (.sptr τ off sz xs)) s V' = ∃ z, sizeT P t = some z ∧ aPart P t z (xs.map D.toC) off V' := nr rfl
@[go_sem ↓] theorem e_ldb {t : TypeId} {i : Id} {o : Nat} : aLoad P t (.cell (.ptr i o)) s V' = aSm (hget s.heap i) fun cs => aSm (sizeT P t) fun sz => aPart P t sz cs o V' := by
  simp only [aLoad, aLoadBox, aSm]
  exact propext ⟨fun ⟨a, b, h1, h2, h3⟩ => ⟨a, h1, b, h2, h3⟩, fun ⟨a, h1, b, h2, h3⟩ => ⟨a, b, h1, h2, h3⟩⟩

end
/-! ### less said -/
section
variable {a b : C} {l m : List C} {v u : V} {k : List V} {n : List V}
@[go_sem ↓] theorem l_L0 : leL [] [] = True := nr rfl
@[go_sem ↓] theorem l_L : leL (v :: k) (u :: n) = (leV v u ∧ leL k n) := nr rfl
@[go_sem ↓ high] theorem l_Vr : leV v v = True := eq_true (leV_refl v)
@[go_sem ↓] theorem l_Vu : leV V.undef v = True := nr rfl
@[go_sem ↓ high] theorem l_Cr : leC a a = True := eq_true (leC_refl a)
@[go_sem ↓] theorem l_Cu : leC .undef a = True := nr rfl
@[go_sem ↓ high] theorem l_Csr : leCs l l = True := eq_true (leCs_refl l)
@[go_sem ↓] theorem l_Cs : leCs (a :: l) (b :: m) = (leC a b ∧ leCs l m) := nr rfl
@[go_sem ↓] theorem l_S {h h' : Heap} : leS ⟨k, h⟩ ⟨n, h'⟩ = (leL k n ∧ leH h h') := nr rfl
@[go_sem ↓] theorem l_H0 {h : Heap} : leH [] h = True := by simp [leH, hget]
@[go_sem ↓ high] theorem l_Hr {h : Heap} : leH h h = True := eq_true (leH_refl h)
end
attribute [go_sem] List.contains_cons List.contains_nil Bool.or_false Bool.false_or Bool.or_true Bool.true_or Bool.false_eq_true
attribute [go_sem] true_and and_true Nat.zero_add Nat.add_zero Int.toNat_natCast Option.some.injEq exists_eq_left' Int.natCast_add Int.natCast_mul Int.cast_ofNat_Int List.replicate_succ List.replicate_zero List.cons_append List.nil_append not_true_eq_false not_false_eq_true
/-! ### what is reckoned first -/
@[congr] theorem cg_awp {P : Program} {c : Code} {Q : AExit → St → Prop} {s s' : St} (h0 : s = s') : awp P c Q s = awp P c Q s' := by subst h0; rfl
@[congr] theorem cg_aWn {t t' : Option Tmp} {s s' : St} {w : Bool} {x y : Prop} (h0 : t = t') (h1 : s = s') : aWn t s w x y = aWn t' s' w x y := by subst h0; subst h1; rfl
@[congr] theorem cg_aWv {v v' : V} {w : Bool} {x y : Prop} (h0 : v = v') : aWv v w x y = aWv v' w x y := by subst h0; rfl
@[congr] theorem cg_aPick {c c' x x' y y' : V} {K : V → Prop} (h0 : c = c') (h1 : x = x') (h2 : y = y') : aPick c x y K = aPick c' x' y' K := by subst h0; subst h1; subst h2; rfl
@[congr] theorem cg_aStep {P : Program} {ops : Array Oper} {o : Oper} {s s' : St} {K : St → Prop} (h0 : s = s') : aStep P ops o s K = aStep P ops o s' K := by subst h0; rfl
@[congr] theorem cg_aPlan {P : Program} {ops : Array Oper} {p : Plan} {s s' : St} {K : St → Prop} (h0 : s = s') : aPlan P ops p K s = aPlan P ops p K s' := by subst h0; rfl
@[congr] theorem cg_aList {P : Program} {ops : Array Oper} {l : List Oper} {K : St → Prop} {s s' : St} (h0 : s = s') : aList P ops l K s = aList P ops l K s' := by subst h0; rfl
@[congr] theorem cg_aCond {c c' : V} {x y : Prop} (h0 : c = c') : aCond c x y = aCond c' x y := by subst h0; rfl
@[congr] theorem cg_aBin {P : Program} {op : BinOp} {t : TypeId} {x y x' y' : V} {K : V → Prop} (h0 : x = x') (h1 : y = y') : aBin P op t x y K = aBin P op t x' y' K := by subst h0; subst h1; rfl
@[congr] theorem cg_aInt {op : BinOp} {k k2 : IntKind} {a b a' b' : Int} {K : V → Prop} (h0 : a = a') (h1 : b = b') : aInt op k a k2 b K = aInt op k a' k2 b' K := by subst h0; subst h1; rfl
@[congr] theorem cg_aUn {op : UnOp} {x x' : V} {K : V → Prop} (h0 : x = x') : aUn op x K = aUn op x' K := by subst h0; rfl
@[congr] theorem cg_aConv {P : Program} {t t2 : TypeId} {x x' : V} {K : V → Prop} (h0 : x = x') : aConv P t t2 x K = aConv P t t2 x' K := by subst h0; rfl
@[congr] theorem cg_aConvS {P : Program} {t t2 : TypeId} {x x' : V} {s s' : St} {K : V → St → Prop} (h0 : x = x') (h1 : s = s') : aConvS P t t2 x s K = aConvS P t t2 x' s' K := by subst h0; subst h1; rfl
@[congr] theorem cg_aField {P : Program} {t : TypeId} {i : Nat} {x x' : V} {K : V → Prop} (h0 : x = x') : aField P t x i K = aField P t x' i K := by subst h0; rfl
@[congr] theorem cg_aFieldAddr {P : Program} {t : TypeId} {i : Nat} {x x' : V} {K : V → Prop} (h0 : x = x') : aFieldAddr P t x i K = aFieldAddr P t x' i K := by subst h0; rfl
@[congr] theorem cg_aFA {q q' : Option (Nat × TypeId × Nat)} {x x' : V} {K : V → Prop} (h0 : q = q') (h1 : x = x') : aFA q x K = aFA q' x' K := by subst h0; subst h1; rfl
@[congr] theorem cg_aIndexAddr {P : Program} {t : TypeId} {x x' ix ix' : V} {K : V → Prop} (h0 : x = x') (h1 : ix = ix') : aIndexAddr P t x ix K = aIndexAddr P t x' ix' K := by subst h0; subst h1; rfl
@[congr] theorem cg_aIA {q q' : Option (Option Nat × TypeId × Nat)} {x x' : V} {i i' : Int} {K : V → Prop} (h0 : q = q') (h1 : x = x') (h2 : i = i') : aIA q x i K = aIA q' x' i' K := by subst h0; subst h1; subst h2; rfl
@[congr] theorem cg_aIndex {P : Program} {t : TypeId} {x x' ix ix' : V} {K : V → Prop} (h0 : x = x') (h1 : ix = ix') : aIndex P t x ix K = aIndex P t x' ix' K := by subst h0; subst h1; rfl
@[congr] theorem cg_aExtract {i : Nat} {x x' : V} {K : V → Prop} (h0 : x = x') : aExtract x i K = aExtract x' i K := by subst h0; rfl
@[congr] theorem cg_aNilCheck {x x' : V} {K : V → Prop} (h0 : x = x') : aNilCheck x K = aNilCheck x' K := by subst h0; rfl
@[congr] theorem cg_aMakeFunc {f : Fn} {l m l' m' : List V} {K : V → Prop} (h0 : l = l') (h1 : m = m') : aMakeFunc f l m K = aMakeFunc f l' m' K := by subst h0; subst h1; rfl
@[congr] theorem cg_aLen {P : Program} {t : TypeId} {x x' : V} {K : V → Prop} (h0 : x = x') : aLen P t x K = aLen P t x' K := by subst h0; rfl
@[congr] theorem cg_aMakeIface {P : Program} {t : TypeId} {x x' : V} {K : V → Prop} (h0 : x = x') : aMakeIface P t x K = aMakeIface P t x' K := by subst h0; rfl
@[congr] theorem cg_aSlice {P : Program} {t : TypeId} {x x' : V} {lo hi lo' hi' : Option V} {K : V → Prop} (h0 : x = x') (h1 : lo = lo') (h2 : hi = hi') : aSlice P t x lo hi K = aSlice P t x' lo' hi' K := by subst h0; subst h1; subst h2; rfl
@[congr] theorem cg_aLoad {P : Program} {t : TypeId} {x x' : V} {s s' : St} {K : V → Prop} (h0 : x = x') (h1 : s = s') : aLoad P t x s K = aLoad P t x' s' K := by subst h0; subst h1; rfl
@[congr] theorem cg_aPart {P : Program} {t : TypeId} {n i i' : Nat} {cs cs' : List C} {K : V → Prop} (h0 : cs = cs') (h1 : i = i') : aPart P t n cs i K = aPart P t n cs' i' K := by subst h0; subst h1; rfl
@[congr] theorem cg_aPt {q q' : Option Bool} {n i i' : Nat} {cs cs' : List C} {K : V → Prop} (h0 : q = q') (h1 : cs = cs') (h2 : i = i') : aPt q n cs i K = aPt q' n cs' i' K := by subst h0; subst h1; subst h2; rfl
@[congr] theorem cg_aMinMax {b : Bool} {xs xs' : List V} {K : V → Prop} (h0 : xs = xs') : aMinMax b xs K = aMinMax b xs' K := by subst h0; rfl
@[congr] theorem cg_aNil {P : Program} {t : TypeId} {x y x' y' : V} {K : Bool → Prop} (h0 : x = x') (h1 : y = y') : aNil P t x y K = aNil P t x' y' K := by subst h0; subst h1; rfl
@[congr] theorem cg_aStr {op : BinOp} {b1 b2 b1' b2' : ByteArray} {K : V → Prop} (h0 : b1 = b1') (h1 : b2 = b2') : aStr op b1 b2 K = aStr op b1' b2' K := by subst h0; subst h1; rfl
@[congr] theorem cg_aStore {P : Program} {t : TypeId} {x y x' y' : V} {s s' : St} {K : V → St → Prop} (h0 : x = x') (h1 : y = y') (h2 : s = s') : aStore P t x y s K = aStore P t x' y' s' K := by subst h0; subst h1; subst h2; rfl
@[congr] theorem cg_aNewA {n : Nat} {cs cs' : List C} {s s' : St} {K : V → St → Prop} (h0 : cs = cs') (h1 : s = s') : aNewA n cs s K = aNewA n cs' s' K := by subst h0; subst h1; rfl
@[congr] theorem cg_aNew {n : Nat} {cs cs' : List C} {s s' : St} {K : V → St → Prop} (h0 : cs = cs') (h1 : s = s') : aNew n cs s K = aNew n cs' s' K := by subst h0; subst h1; rfl
@[congr] theorem cg_aBuild {P : Program} {t : TypeId} {pa pa' : List (Nat × V)} {K : V → Prop} (h0 : pa = pa') : aBuild P t pa K = aBuild P t pa' K := by subst h0; rfl
@[congr] theorem cg_aBuildSlice {P : Program} {t : TypeId} {n i : Nat} {pa pa' : List (Nat × V)} {s s' : St} {K : V → St → Prop} (h0 : pa = pa') (h1 : s = s') : aBuildSlice P t n pa i s K = aBuildSlice P t n pa' i s' K := by subst h0; subst h1; rfl
@[congr] theorem cg_aMakeSlice {P : Program} {t : TypeId} {i : Nat} {x y x' y' : V} {s s' : St} {K : V → St → Prop} (h0 : x = x') (h1 : y = y') (h2 : s = s') : aMakeSlice P t x y i s K = aMakeSlice P t x' y' i s' K := by subst h0; subst h1; subst h2; rfl
@[congr] theorem cg_aSrc {n : Nat} {x x' : V} {s s' : St} {K : List D → Prop} (h0 : x = x') (h1 : s = s') : aSrc n x s K = aSrc n x' s' K := by subst h0; subst h1; rfl
@[congr] theorem cg_aAppend {P : Program} {t : TypeId} {i : Nat} {x y x' y' : V} {s s' : St} {K : V → St → Prop} (h0 : x = x') (h1 : y = y') (h2 : s = s') : aAppend P t x y i s K = aAppend P t x' y' i s' K := by subst h0; subst h1; subst h2; rfl
@[congr] theorem cg_aAppX {P : Program} {t : TypeId} {i : Nat} {x y x' y' : V} {s s' : St} {K : V → St → Prop} (h0 : x = x') (h1 : y = y') (h2 : s = s') : aAppX P t x y i s K = aAppX P t x' y' i s' K := by subst h0; subst h1; subst h2; rfl
@[congr] theorem cg_aCopy {P : Program} {t : TypeId} {x y x' y' : V} {s s' : St} {K : V → St → Prop} (h0 : x = x') (h1 : y = y') (h2 : s = s') : aCopy P t x y s K = aCopy P t x' y' s' K := by subst h0; subst h1; subst h2; rfl
@[congr] theorem cg_aCall {P : Program} {i : Nat} {x x' : V} {xs xs' : List V} {s s' : St} {K : V → St → Prop} (h0 : x = x') (h1 : xs = xs') (h2 : s = s') : aCall P x xs i s K = aCall P x' xs' i s' K := by subst h0; subst h1; subst h2; rfl
@[congr] theorem cg_aCallF {P : Program} {f i : Nat} {xs xs' : List V} {s s' : St} {K : V → St → Prop} (h0 : xs = xs') (h1 : s = s') : aCallF P f xs i s K = aCallF P f xs' i s' K := by subst h0; subst h1; rfl
@[congr] theorem cg_aPureOp {P : Program} {o : Op} {s s' : St} {K : V → Prop} (h0 : s = s') : aPureOp P o s K = aPureOp P o s' K := by subst h0; rfl
@[congr] theorem cg_aWanted {ops : Array Oper} {oo : Oper} {s s' : St} {y1 y2 : Prop} (h0 : s = s') : aWanted ops oo s y1 y2 = aWanted ops oo s' y1 y2 := by subst h0; rfl
@[congr] theorem cg_aEnd {P : Program} {rs : List ResultVar} {R : V → Heap → Prop} {e : AExit} {s s' : St} (h0 : s = s') : aEnd P rs R e s = aEnd P rs R e s' := by subst h0; rfl
end
section
abbrev W.byt (bs : List UInt8) : W := .c (.lst .no none 1 (Go.Proofs.YtgeelaafmnedmaaGreat.byt bs))
abbrev C.byt (bs : List UInt8) : C := .lst .no none 1 (Go.Proofs.YtgeelaafmnedmaaGreat.byt bs)
abbrev V.byt (bs : List UInt8) : V := .w (.byt bs)
abbrev V.own (p : List Nat) (bs : List UInt8) : V := .w (.c (.lst (.tag (.slot p)) none 1 (Go.Proofs.YtgeelaafmnedmaaGreat.byt bs)))
abbrev W.int (k : IntKind) (n : Int) : W := .c (.val (.int k n))
abbrev W.ptr (i : Id) (o : Nat) : W := .c (.ptr i o)

theorem byt_app (a b : List UInt8) : byt a ++ byt b = byt (a ++ b) := by simp [byt]
theorem byt_take (a : List UInt8) (n : Nat) : (byt a).take n = byt (a.take n) := by simp [byt]
theorem byt_drop (a : List UInt8) (n : Nat) : (byt a).drop n = byt (a.drop n) := by simp [byt]
/-! ### cleaning -/
attribute [go_sem] List.map_cons List.map_nil List.any_cons List.any_nil Id.loc.injEq Id.arg.injEq Tag.slot.injEq Tag.cell.injEq Tag.made.injEq Tag.bslot.injEq Tag.bcell.injEq List.cons.injEq eq_self_iff_true and_self List.length_cons List.length_nil List.nil_append List.cons_append exists_eq' exists_eq Prod.mk.injEq List.getElem?_cons_zero List.getElem?_cons_succ Option.getD_some
section
variable {bi : Id → Bool} {bt : Tag → Bool} {l : List V} {h : Heap} {d : Nat} {s : St}
@[go_sem ↓] theorem e_clean : St.clean bi bt ⟨l, h⟩ = ⟨l.map (V.clean bi bt), hclean bi bt h⟩ := nr rfl
@[go_sem] theorem k_V {c : C} : V.clean bi bt (.w (.c c)) = .w (.c (C.clean bi bt c)) := nr rfl
@[go_sem] theorem k_Va {cs : List C} : V.clean bi bt (.w (.agg cs)) = .w (.agg (cs.map (C.clean bi bt))) := nr rfl
@[go_sem] theorem k_Vt {xs : List W} : V.clean bi bt (.tup xs) = .tup (xs.map (W.clean bi bt)) := nr rfl
@[go_sem] theorem k_W {c : C} : W.clean bi bt (.c c) = .c (C.clean bi bt c) := nr rfl
@[go_sem] theorem k_Wa {cs : List C} : W.clean bi bt (.agg cs) = .agg (cs.map (C.clean bi bt)) := nr rfl
@[go_sem] theorem k_u : C.clean bi bt .undef = .undef := nr rfl
@[go_sem] theorem k_v {x : Value} : C.clean bi bt (.val x) = .val x := nr rfl
@[go_sem] theorem k_m {x : List D} : C.clean bi bt (.mem x) = .mem x := nr rfl
@[go_sem] theorem k_l0 {nl : Option Bool} {sz : Nat} {xs : List D} : C.clean bi bt (.lst .no nl sz xs) = .lst .no nl sz xs := nr rfl
@[go_sem] theorem k_l1 {nl : Option Bool} {sz : Nat} {xs : List D} : C.clean bi bt (.lst .full nl sz xs) = .lst .full nl sz xs := nr rfl
@[go_sem] theorem k_l2 {nl : Option Bool} {sz : Nat} {xs : List D} {t : Tag} : C.clean bi bt (.lst (.tag t) nl sz xs) = if bt t = true then .lst .no nl sz xs else .lst (.tag t) nl sz xs := nr rfl
@[go_sem] theorem k_p {i : Id} {o : Nat} : C.clean bi bt (.ptr i o) = if bi i = true then .undef else .ptr i o := nr rfl
@[go_sem] theorem k_r {i : Id} {o n c : Nat} : C.clean bi bt (.row i o n c) = if bi i = true then .undef else .row i o n c := nr rfl
@[go_sem] theorem k_f {f : Fn} {x y : List (Id × Nat)} : C.clean bi bt (.fn f x y) = if (x.any (fun p => bi p.1) || y.any (fun p => bi p.1)) = true then .undef else .fn f x y := nr rfl
@[go_sem] theorem k_D {xs : List D} : (xs.map D.toC).map (C.clean bi bt) = xs.map D.toC := by
  rw [List.map_map]
  exact List.map_congr_left fun d _ => by cases d <;> rfl
@[go_sem] theorem k_ri1 {x : Nat} {p : List Nat} : rootI d (.loc (x :: p)) = (x == d) := nr rfl
@[go_sem] theorem k_ri2 {k : Nat} : rootI d (.arg k) = false := nr rfl
@[go_sem] theorem k_rt1 {x : Nat} {p : List Nat} : rootT d (.slot (x :: p)) = (x == d) := nr rfl
@[go_sem] theorem k_rt3 {x : Nat} {p : List Nat} : rootT d (.made (x :: p)) = (x == d) := nr rfl
@[go_sem] theorem k_rt2 {i : Id} {o : Nat} : rootT d (.cell i o) = rootI d i := nr rfl
@[go_sem] theorem k_kt1 {t τ : Tag} : killT (.tag τ) d t = (rootT d t || decide (t = τ)) := nr rfl
@[go_sem] theorem k_kt2 {t : Tag} : killT .full d t = rootT d t := by simp [killT]
@[go_sem] theorem k_bt1 {ks : List Id} {p : List Nat} : bornT ks d (.slot p) = rootT d (.slot p) := by simp [bornT]
@[go_sem] theorem k_bt3 {ks : List Id} {p : List Nat} : bornT ks d (.made p) = rootT d (.made p) := by simp [bornT]
@[go_sem] theorem k_bt2 {ks : List Id} {i : Id} {o : Nat} : bornT ks d (.cell i o) = (rootI d i || ks.contains i) := nr rfl
@[go_sem] theorem k_teq {t τ : Tag} : (t == τ) = decide (t = τ) := nr rfl
@[go_sem] theorem k_ieq {t τ : Id} : (t == τ) = decide (t = τ) := nr rfl
attribute [go_sem] decide_true decide_false and_false false_and Bool.or_true Bool.or_false
@[go_sem] theorem k_h0 : hclean bi bt [] = [] := nr rfl
@[go_sem] theorem k_h {j : Id} {cs : List C} : hclean bi bt ((j, cs) :: h) = if bi j = true then hclean bi bt h else (j, cs.map (C.clean bi bt)) :: hclean bi bt h := nr rfl
@[go_sem] theorem k_g {j i : Id} {cs : List C} : hget ((j, cs) :: h) i = if j = i then some cs else hget h i := nr rfl
@[go_sem] theorem k_s {j i : Id} {cs ds : List C} : hset ((j, cs) :: h) i ds = if j = i then (i, ds) :: h else (j, cs) :: hset h i ds := nr rfl
attribute [go_sem] spl List.set_cons_zero List.set_cons_succ

/-! ### stores -/
variable {P : Program} {K : V → St → Prop} {i : Id} {off : Nat} {cs : List C}
@[go_sem ↓] theorem w_val {x : Value} : St.stow ⟨l, h⟩ i off cs [.val x] = ⟨l, hset h i (spl cs off [.val x])⟩ := nr rfl
@[go_sem ↓] theorem w_l2a {nl : Option Bool} {sz : Nat} {xs : List D} {p : List Nat} : St.stow ⟨l, h⟩ i off cs [.lst (.tag (.slot p)) nl sz xs] =
    ⟨l.map (V.clean (fun _ => false) fun t => t == .slot p || t == Tag.cell i off), hset (hclean (fun _ => false) (fun t => t == .slot p || t == Tag.cell i off) h) i (spl (cs.map (C.clean (fun _ => false) fun t => t == .slot p || t == Tag.cell i off)) off [.lst (.tag (.cell i off)) nl sz xs])⟩ := nr rfl
@[go_sem ↓] theorem w_two {a b : C} {vs : List C} : St.stow ⟨l, h⟩ i off cs (a :: b :: vs) = ⟨l, hset h i (spl cs off ((a :: b :: vs).map (C.clean (fun _ => false) fun _ => true)))⟩ := by
  unfold St.stow
  split
  · rename_i e; simp at e
  · rename_i e; simp at e
  rfl
@[go_sem ↓] theorem o_val {x : Value} : cellsOf (.w (.c (.val x))) = some [.val x] := nr rfl
@[go_sem ↓] theorem o_lst {o : Own} {nl : Option Bool} {sz : Nat} {xs : List D} : cellsOf (.w (.c (.lst o nl sz xs))) = some [.lst o nl sz xs] := nr rfl
@[go_sem ↓] theorem o_fn {f : Fn} {x y : List (Id × Nat)} : cellsOf (.w (.c (.fn f x y))) = some [.fn f x y] := nr rfl
@[go_sem ↓] theorem o_agg : cellsOf (.w (.agg cs)) = some cs := nr rfl
@[go_sem] theorem n_val {x : Value} : known (.val x) = true := nr rfl
@[go_sem] theorem n_lst {o : Own} {nl : Option Bool} {sz : Nat} {xs : List D} : known (.lst o nl sz xs) = true := nr rfl
@[go_sem] theorem n_fn {f : Fn} {x y : List (Id × Nat)} : known (.fn f x y) = true := nr rfl
@[go_sem] theorem n_D {xs : List D} : (xs.map D.toC).all known = true := by
  rw [List.all_eq_true]; intro c hc; obtain ⟨d, _, rfl⟩ := List.mem_map.1 hc; cases d <;> rfl
attribute [go_sem] List.all_cons List.all_nil Bool.and_self Bool.and_true Bool.true_and
@[go_sem ↓] theorem e_sto {t : TypeId} {v : V} : aStore P t (.cell (.ptr i off)) v s K = aSm (hget s.heap i) fun cs => aSm (cellsOf v) fun vs => sizeT P t = some vs.length ∧ off + vs.length ≤ cs.length ∧ vs.all known = true ∧ K V.undef (s.stow i off cs vs) := by
  unfold aStore aSm
  exact propext ⟨fun ⟨a, b, h1, h2, h3⟩ => ⟨a, h1, b, h2, h3⟩, fun ⟨a, h1, b, h2, h3⟩ => ⟨a, b, h1, h2, h3⟩⟩
@[go_sem ↓] theorem e_newA : aNewA d cs ⟨l, h⟩ K = K (.cell (.ptr (.loc [d]) 0)) ⟨l.map (V.clean (rootI d) (rootT d)), (.loc [d], cs) :: hclean (rootI d) (rootT d) h⟩ := nr rfl
@[go_sem] theorem k_sk {t : Tag} {sz : Nat} {xs : List D} : C.clean bi bt (.stk t sz xs) = if bt t = true then .undef else .stk t sz xs := nr rfl
@[go_sem] theorem k_sp {t : Tag} {o sz : Nat} {xs : List D} : C.clean bi bt (.sptr t o sz xs) = if bt t = true then .undef else .sptr t o sz xs := nr rfl
@[go_sem] theorem n_sk {t : Tag} {sz : Nat} {xs : List D} : known (.stk t sz xs) = true := nr rfl
@[go_sem ↓] theorem o_sk {t : Tag} {sz : Nat} {xs : List D} : cellsOf (.w (.c (.stk t sz xs))) = some [.stk t sz xs] := nr rfl
@[go_sem ↓] theorem w_sk {τ : Tag} {sz : Nat} {xs : List D} : St.stow ⟨l, h⟩ i off cs [.stk τ sz xs] =
    ⟨l.map (V.clean (fun _ => false) fun t => t == τ || t == Tag.cell i off), hset (hclean (fun _ => false) (fun t => t == τ || t == Tag.cell i off) h) i (spl (cs.map (C.clean (fun _ => false) fun t => t == τ || t == Tag.cell i off)) off [.stk (.cell i off) sz xs])⟩ := nr rfl
@[go_sem ↓] theorem e_new : aNew d cs ⟨l, h⟩ K = K (.cell (.ptr (.loc [d]) 0)) ⟨l.map (V.clean (rootI d) (rootT d)), (.loc [d], cs.map (C.clean (rootI d) fun _ => true)) :: hclean (rootI d) (rootT d) h⟩ := nr rfl

/-! ### rows that grow -/
theorem src_no {sz : Nat} {x : V} {J : List D → Prop} (h : aSrc sz x s J) (hj : ∀ ys, ¬ J ys) : False := by
  unfold aSrc at h
  split at h
  · exact hj _ h.2
  · obtain ⟨_, ds, _, _, _, h⟩ := h; exact hj _ h
  exact h
def nlA (nl : Option Bool) : Option Bool := if nl = some false then some false else none
@[go_sem] theorem nlA_f : nlA (some false) = some false := nr rfl
@[go_sem] theorem nlA_n : nlA none = none := nr rfl
def aAp2 (z : Option (List C)) (b : Option Nat) (o : Own) (nl : Option Bool) (sz' : Nat) (xs : List D) (sz : Nat) (x : V) (d : Nat) (s : St) (K : V → St → Prop) : Prop :=
  match z, b with
  | some z, some b => 0 < sz ∧ z.length = sz ∧ 0 < b ∧ (sz' = sz ∨ xs = [] ∧ ∀ τ, o ≠ .tag τ) ∧ o ≠ .no ∧ aSrc sz x s fun ys =>
    (xs.length + ys.length) / sz * b ≤ 140737488355328 ∧ K (.cell (.lst (.tag (.slot [d])) (nlA nl) sz (xs ++ ys))) (s.clean (fun _ => false) (killT o d))
  | _, _ => False
def aAp (P : Program) (q : Option (Option Nat × TypeId × Nat)) (o : Own) (nl : Option Bool) (sz' : Nat) (xs : List D) (x : V) (d : Nat) (s : St) (K : V → St → Prop) : Prop :=
  match q with
  | some (none, e, sz) => aAp2 (zeroC P e) (bytesT P e) o nl sz' xs sz x d s K
  | _ => False
@[congr] theorem cg_aAp {q q' : Option (Option Nat × TypeId × Nat)} {o : Own} {nl : Option Bool} {sz' : Nat} {xs : List D} {x : V} (h0 : q = q') : aAp P q o nl sz' xs x d s K = aAp P q' o nl sz' xs x d s K := by subst h0; rfl
@[congr] theorem cg_aAp2 {q q' : Option (List C)} {b b' : Option Nat} {o : Own} {nl : Option Bool} {sz' sz : Nat} {xs : List D} {x : V} (h0 : q = q') (h1 : b = b') : aAp2 q b o nl sz' xs sz x d s K = aAp2 q' b' o nl sz' xs sz x d s K := by subst h0; subst h1; rfl
@[go_sem ↓] theorem e_apd {t : TypeId} {o : Own} {nl : Option Bool} {sz' : Nat} {xs : List D} {x : V} : aAppend P t (.cell (.lst o nl sz' xs)) x d s K = aAp P (idxT P t) o nl sz' xs x d s K := by
  unfold aAppend aAp aAp2
  refine propext ⟨fun ⟨e, sz, z, b, h1, h2, h3, h4, h5, h6⟩ => ?_, fun h => ?_⟩
  · rw [h1]; simp only [h3, h5]; exact ⟨h2, h4, h6⟩
  split at h
  · rename_i e sz hq
    split at h
    · rename_i z b hz hb
      exact ⟨e, sz, z, b, hq, h.1, hz, h.2.1, hb, h.2.2⟩
    exact h.elim
  exact h.elim
@[go_sem ↓] theorem e_aX1a {t : TypeId} {p : List Nat} {nl : Option Bool} {sz' : Nat} {xs : List D} {x : V} : aAppX P t (.cell (.lst (.tag (.slot p)) nl sz' xs)) x d s K = aAppend P t (.cell (.lst (.tag (.slot p)) nl sz' xs)) x d s K := by
  refine propext ⟨fun h => ?_, .inl⟩
  rcases h with h | h | ⟨_, _, _, _, _, _, _, _, _, _, _, h⟩ | h
  · exact h
  · exact h.elim
  rotate_left
  · exact h.elim
  exact (src_no h fun _ hh => by rcases hh.1 with ⟨hh, _⟩ | ⟨_, hh, h2⟩ <;> cases hh; cases h2).elim
@[go_sem ↓] theorem e_aX1b {t : TypeId} {j : Id} {q : Nat} {nl : Option Bool} {sz' : Nat} {xs : List D} {x : V} : aAppX P t (.cell (.lst (.tag (.cell j q)) nl sz' xs)) x d s K = aAppend P t (.cell (.lst (.tag (.cell j q)) nl sz' xs)) x d s K := by
  refine propext ⟨fun h => ?_, .inl⟩
  rcases h with h | h | ⟨_, _, _, _, _, _, _, _, _, _, _, h⟩ | h
  · exact h
  · exact h.elim
  rotate_left
  · exact h.elim
  exact (src_no h fun _ hh => by rcases hh.1 with ⟨hh, _⟩ | ⟨_, hh, h2⟩ <;> cases hh; cases h2).elim
@[go_sem ↓] theorem e_aX1c {t : TypeId} {p : List Nat} {nl : Option Bool} {sz' : Nat} {xs : List D} {x : V} : aAppX P t (.cell (.lst (.tag (.made p)) nl sz' xs)) x d s K = aAppend P t (.cell (.lst (.tag (.made p)) nl sz' xs)) x d s K := by
  refine propext ⟨fun h => ?_, .inl⟩
  rcases h with h | h | ⟨_, _, _, _, _, _, _, _, _, _, _, h⟩ | h
  · exact h
  · exact h.elim
  rotate_left
  · exact h.elim
  exact (src_no h fun _ hh => by rcases hh.1 with ⟨hh, _⟩ | ⟨_, hh, h2⟩ <;> cases hh; cases h2).elim
def aApK2 (z : Option (List C)) (b : Option Nat) (τ : Tag) (sz' : Nat) (xs : List D) (sz : Nat) (x : V) (d : Nat) (s : St) (K : V → St → Prop) : Prop :=
  match z, b with
  | some z, some b => 0 < sz ∧ z.length = sz ∧ 0 < b ∧ sz' = sz ∧ aSrc sz x s fun ys =>
    (xs.length + ys.length) / sz * b ≤ 140737488355328 ∧ K (.cell (.stk (.slot [d]) sz (xs ++ ys))) (s.clean (fun _ => false) (killT (.tag τ) d))
  | _, _ => False
def aApK (P : Program) (q : Option (Option Nat × TypeId × Nat)) (τ : Tag) (sz' : Nat) (xs : List D) (x : V) (d : Nat) (s : St) (K : V → St → Prop) : Prop :=
  match q with
  | some (none, e, sz) => aApK2 (zeroC P e) (bytesT P e) τ sz' xs sz x d s K
  | _ => False
@[congr] theorem cg_aApK {q q' : Option (Option Nat × TypeId × Nat)} {τ : Tag} {sz' : Nat} {xs : List D} {x : V} (h0 : q = q') : aApK P q τ sz' xs x d s K = aApK P q' τ sz' xs x d s K := by subst h0; rfl
@[congr] theorem cg_aApK2 {q q' : Option (List C)} {b b' : Option Nat} {τ : Tag} {sz' sz : Nat} {xs : List D} {x : V} (h0 : q = q') (h1 : b = b') : aApK2 q b τ sz' xs sz x d s K = aApK2 q' b' τ sz' xs sz x d s K := by subst h0; subst h1; rfl
@[go_sem ↓] theorem e_apK1 {e sz : Nat} {τ : Tag} {sz' : Nat} {xs : List D} {x : V} : aApK P (some (none, e, sz)) τ sz' xs x d s K = aApK2 (zeroC P e) (bytesT P e) τ sz' xs sz x d s K := nr rfl
@[go_sem ↓] theorem e_apK2 {z : List C} {b : Nat} {τ : Tag} {sz' sz : Nat} {xs : List D} {x : V} : aApK2 (some z) (some b) τ sz' xs sz x d s K = (0 < sz ∧ z.length = sz ∧ 0 < b ∧ sz' = sz ∧ aSrc sz x s fun ys =>
    (xs.length + ys.length) / sz * b ≤ 140737488355328 ∧ K (.cell (.stk (.slot [d]) sz (xs ++ ys))) (s.clean (fun _ => false) (killT (.tag τ) d))) := nr rfl
@[go_sem ↓] theorem e_aXk {t : TypeId} {τ : Tag} {sz' : Nat} {xs : List D} {x : V} : aAppX P t (.cell (.stk τ sz' xs)) x d s K = aApK P (idxT P t) τ sz' xs x d s K := by
  have h0 : aAppX P t (.cell (.stk τ sz' xs)) x d s K = aAppendK P t (.cell (.stk τ sz' xs)) x d s K := by simp [aAppX, aAppend, aAppendB, aAppendS]
  rw [h0]
  unfold aAppendK aApK aApK2
  refine propext ⟨fun ⟨e, sz, z, b, h1, h2, h3, h4, h5, h6⟩ => ?_, fun h => ?_⟩
  · rw [h1]; simp only [h3, h5]; exact ⟨h2, h4, h6⟩
  split at h
  · rename_i e sz hq
    split at h
    · rename_i z b hz hb
      exact ⟨e, sz, z, b, hq, h.1, hz, h.2.1, hb, h.2.2⟩
    exact h.elim
  exact h.elim
theorem a_apA {t : TypeId} {sv x : V} (h : aAppend P t sv x d s K) : aAppX P t sv x d s K := .inl h
/-- .. and its rules: onto a full row -/
def aApB2 (z : Option (List C)) (b : Option Nat) (nl : Option Bool) (sz' : Nat) (xs : List D) (sz : Nat) (x : V) (d : Nat) (s : St) (K : V → St → Prop) : Prop :=
  match z, b with
  | some z, some b => 0 < sz ∧ z.length = sz ∧ 0 < b ∧ (sz' = sz ∨ xs = []) ∧ aSrc sz x s fun ys =>
    (xs.length + ys.length) / sz * b ≤ 140737488355328 ∧
    (ys = [] → K (.cell (.lst .full nl sz xs)) s) ∧
    (ys ≠ [] → ∀ c', (xs.length + ys.length) / sz ≤ c' → c' ≤ maxLen → aNew d ((xs ++ ys).map D.toC ++ List.replicate (c' * sz - (xs.length + ys.length)) .undef) s fun _ s' => K (.cell (.row (.loc [d]) 0 ((xs.length + ys.length) / sz) c')) s')
  | _, _ => False
def aApR2 (z : Option (List C)) (b : Option Nat) (i : Id) (off n c sz : Nat) (x : V) (d : Nat) (s : St) (K : V → St → Prop) : Prop :=
  match z, b with
  | some z, some b => 0 < sz ∧ z.length = sz ∧ 0 < b ∧ off = 0 ∧ n ≤ c ∧ c ≤ maxLen ∧ ∃ cs, hget s.heap i = some cs ∧ c * sz ≤ cs.length ∧ aSrc sz x s fun ys =>
    (n + ys.length / sz) * b ≤ 140737488355328 ∧
    (n + ys.length / sz ≤ c → K (.cell (.row i 0 (n + ys.length / sz) c)) ⟨s.slots, hset s.heap i (spl cs (n * sz) (ys.map D.toC))⟩) ∧
    (c < n + ys.length / sz → ∀ c', n + ys.length / sz ≤ c' → c' ≤ maxLen → aNew d (cs.take (n * sz) ++ ys.map D.toC ++ List.replicate (c' * sz - (n * sz + ys.length)) .undef) s fun _ s' => K (.cell (.row (.loc [d]) 0 (n + ys.length / sz) c')) s')
  | _, _ => False
def aApB (P : Program) (q : Option (Option Nat × TypeId × Nat)) (sv x : V) (d : Nat) (s : St) (K : V → St → Prop) : Prop :=
  match q, sv with
  | some (none, e, sz), .w (.c (.lst _ nl sz' xs)) => aApB2 (zeroC P e) (bytesT P e) nl sz' xs sz x d s K
  | some (none, e, sz), .w (.c (.row i off n c)) => aApR2 (zeroC P e) (bytesT P e) i off n c sz x d s K
  | _, _ => False
@[congr] theorem cg_aApB {q q' : Option (Option Nat × TypeId × Nat)} {sv x : V} (h0 : q = q') : aApB P q sv x d s K = aApB P q' sv x d s K := by subst h0; rfl
@[congr] theorem cg_aApB2 {q q' : Option (List C)} {b b' : Option Nat} {nl : Option Bool} {sz' sz : Nat} {xs : List D} {x : V} (h0 : q = q') (h1 : b = b') : aApB2 q b nl sz' xs sz x d s K = aApB2 q' b' nl sz' xs sz x d s K := by subst h0; subst h1; rfl
@[congr] theorem cg_aApR2 {q q' : Option (List C)} {b b' : Option Nat} {j : Id} {o n c sz : Nat} {x : V} (h0 : q = q') (h1 : b = b') : aApR2 q b j o n c sz x d s K = aApR2 q' b' j o n c sz x d s K := by subst h0; subst h1; rfl
@[go_sem ↓] theorem e_ap1 {o : Own} {nl : Option Bool} {sz' sz e : Nat} {xs : List D} {x : V} : aAp P (some (none, e, sz)) o nl sz' xs x d s K = aAp2 (zeroC P e) (bytesT P e) o nl sz' xs sz x d s K := nr rfl
@[go_sem ↓] theorem e_ap2 {z : C} {b : Nat} {o : Own} {nl : Option Bool} {xs : List D} {x : V} : aAp2 (some [z]) (some (b + 1)) o nl 1 xs 1 x d s K = (o ≠ .no ∧ aSrc 1 x s fun ys =>
    (xs.length + ys.length) * (b + 1) ≤ 140737488355328 ∧ K (.cell (.lst (.tag (.slot [d])) (nlA nl) 1 (xs ++ ys))) (s.clean (fun _ => false) (killT o d))) := by
  simp [aAp2]
@[go_sem ↓] theorem e_srcB {o : Own} {nl : Option Bool} {ys : List D} {J : List D → Prop} : aSrc 1 (.cell (.lst o nl 1 ys)) s J = J ys := by simp [aSrc]
@[go_sem] theorem e_own1 : (Own.full = .no) = False := by simp
@[go_sem] theorem e_own2 {t : Tag} : (Own.tag t = .no) = False := by simp
attribute [go_sem] not_false_eq_true ne_eq
attribute [go_sem] byt_app byt_len byt_take byt_drop
def aBs2 (z : Option (List C)) (len : Nat) (parts : List (Nat × V)) (sz d : Nat) (s : St) (K : V → St → Prop) : Prop :=
  match z with
  | some z => 0 < sz ∧ len * sz ≤ 16777216 ∧ z.length = sz ∧ ∃ cs, aFill (fun i => some (i * sz, sz)) (List.replicate len z).flatten parts = some cs ∧ ∃ ds, allD cs = some ds ∧
    K (.cell (.lst (ownB len d) (some false) sz ds)) (s.clean (fun _ => false) (rootT d))
  | none => False
def aBs (P : Program) (q : Option (Option Nat × TypeId × Nat)) (len : Nat) (parts : List (Nat × V)) (d : Nat) (s : St) (K : V → St → Prop) : Prop :=
  match q with
  | some (none, e, sz) => aBs2 (zeroC P e) len parts sz d s K
  | _ => False
@[congr] theorem cg_aBs {q q' : Option (Option Nat × TypeId × Nat)} {len : Nat} {parts : List (Nat × V)} (h0 : q = q') : aBs P q len parts d s K = aBs P q' len parts d s K := by subst h0; rfl
@[congr] theorem cg_aBs2 {q q' : Option (List C)} {len sz : Nat} {parts : List (Nat × V)} (h0 : q = q') : aBs2 q len parts sz d s K = aBs2 q' len parts sz d s K := by subst h0; rfl
@[go_sem ↓] theorem e_bsd {t : TypeId} {len : Nat} {parts : List (Nat × V)} : aBuildSlice P t len parts d s K = aBs P (idxT P t) len parts d s K := by
  unfold aBuildSlice aBs aBs2
  refine propext ⟨fun ⟨e, sz, z, cs, ds, h1, h2, h3, h4, h5, h6, h7, h8⟩ => ?_, fun h => ?_⟩
  · rw [h1]; simp only [h4]; exact ⟨h2, h3, h5, cs, h6, ds, h7, h8⟩
  split at h
  · rename_i e sz hq
    split at h
    · rename_i z hz
      obtain ⟨h2, h3, h5, cs, h6, ds, h7, h8⟩ := h
      exact ⟨e, sz, z, cs, ds, hq, h2, h3, hz, h5, h6, h7, h8⟩
    exact h.elim
  exact h.elim
@[go_sem ↓] theorem e_bs1 {len sz e : Nat} {parts : List (Nat × V)} : aBs P (some (none, e, sz)) len parts d s K = aBs2 (zeroC P e) len parts sz d s K := nr rfl
@[go_sem ↓] theorem e_bs2 {z : List C} {len sz : Nat} {parts : List (Nat × V)} : aBs2 (some z) len parts sz d s K = (0 < sz ∧ len * sz ≤ 16777216 ∧ z.length = sz ∧ ∃ cs, aFill (fun i => some (i * sz, sz)) (List.replicate len z).flatten parts = some cs ∧ ∃ ds, allD cs = some ds ∧
    K (.cell (.lst (ownB len d) (some false) sz ds)) (s.clean (fun _ => false) (rootT d))) := rfl
@[go_sem ↓] theorem ownB0 : ownB 0 d = .full := nr rfl
@[go_sem ↓] theorem ownB1 {n : Nat} : ownB (n + 1) d = .tag (.made [d]) := nr rfl
attribute [go_sem] List.flatten_cons List.flatten_nil List.replicate_succ List.replicate_zero List.append_nil
@[go_sem] theorem e_fill0 {pl : Nat → Option (Nat × Nat)} : aFill pl cs [] = some cs := nr rfl
def aFl (q : Option (Nat × Nat)) (vs : Option (List C)) (pl : Nat → Option (Nat × Nat)) (cs : List C) (rest : List (Nat × V)) : Option (List C) :=
  match q, vs with
  | some (off, size), some vs => if vs.length ≠ size ∨ off + vs.length > cs.length then none else aFill pl (spl cs off vs) rest
  | _, _ => none
@[go_sem] theorem e_fill {pl : Nat → Option (Nat × Nat)} {i : Nat} {v : V} {rest : List (Nat × V)} : aFill pl cs ((i, v) :: rest) = aFl (pl i) (cellsOf v) pl cs rest := nr rfl
@[go_sem] theorem e_fl {pl : Nat → Option (Nat × Nat)} {off size : Nat} {vs : List C} {rest : List (Nat × V)} : aFl (some (off, size)) (some vs) pl cs rest = if vs.length ≠ size ∨ off + vs.length > cs.length then none else aFill pl (spl cs off vs) rest := nr rfl
def cD (d : Option D) (l : Option (List D)) : Option (List D) :=
  match d, l with
  | some d, some l => some (d :: l)
  | _, _ => none
@[go_sem] theorem e_aD0 : allD [] = some [] := nr rfl
@[go_sem] theorem e_aD {c : C} {cs : List C} : allD (c :: cs) = cD c.toD (allD cs) := by
  simp only [allD, cD]; cases c.toD <;> cases allD cs <;> rfl
@[go_sem] theorem e_cD {x : D} {ds : List D} : cD (some x) (some ds) = some (x :: ds) := nr rfl
@[go_sem] theorem e_tD1 {x : Value} : C.toD (.val x) = some (.val x) := nr rfl
attribute [go_sem] gt_iff_lt not_true_eq_false or_self or_false false_or

/-! ### parts of rows -/
def cutO : Own → Own
  | .full => .full
  | _ => .no
@[go_sem] theorem cut_n : cutO .no = .no := nr rfl
variable {V' : V → Prop} {o : Own} {nl : Option Bool} {bs : List UInt8} {k : IntKind} {a b : Int} {t : TypeId}
def slB (q : Option (Option Nat × TypeId × Nat)) : Prop := match q with
  | some (none, _, 1) => True
  | _ => False
@[go_sem] theorem slB1 {e : Nat} : slB (some (none, e, 1)) = True := nr rfl
theorem slB_eq {q : Option (Option Nat × TypeId × Nat)} : slB q = ∃ e, q = some (none, e, 1) := by
  unfold slB
  split
  · exact (eq_true ⟨_, rfl⟩).symm
  rename_i h; exact (eq_false fun ⟨e, he⟩ => h e he).symm
theorem e_slK {t : TypeId} {τ : Tag} {xs : List D} {hi : Int} {n : Nat} {s : St} {K' : V → St → Prop} : aSliceK P t τ 1 xs hi n s K' = (slB (idxT P t) ∧ 0 ≤ hi ∧ hi.toNat ≤ xs.length ∧ K' (.cell (.stk (.slot [n]) 1 (xs.take hi.toNat))) (s.clean (fun _ => false) (killT (.tag τ) n))) := by
  rw [slB_eq]
  unfold aSliceK
  simp only [Nat.mul_one]
  exact propext ⟨fun ⟨e, h1, h2⟩ => ⟨⟨e, h1⟩, h2⟩, fun ⟨⟨e, h1⟩, h2⟩ => ⟨e, h1, h2⟩⟩
attribute [go_sem ↓] e_slK
attribute [go_sem] Option.map_some Option.map_none
@[go_sem ↓] theorem e_nilL3 {sz : Nat} {xs ys : List D} {o' : Own} {sz' : Nat} : aBin P .eql t (.cell (.lst o none sz xs)) (.cell (.lst o' (some true) sz' ys)) V' = (isSlcT P t = true ∧ (xs = [] → V' (.bool true)) ∧ V' (.bool false)) := nr rfl
@[go_sem ↓] theorem e_nilq0 : aBin P .eql t (V.val (.pointer none)) (V.val (.pointer none)) V' = (isPtrT P t = true ∧ V' (.bool true)) := nr rfl

/-! ### structs and arrays -/
inductive Lay where
  | arr (n : Nat)
  | str (l : List (Nat × Nat))
def Lay.at : Lay → Nat → Option (Nat × Nat)
  | .arr n, i => some (i * n, n)
  | .str l, i => l[i]?
def layT (P : Program) (t : TypeId) : Option Lay := match P.underlying t with
  | some (.array _ e) => (sizeT P e).map .arr
  | some (.struct fs) => (fs.toList.mapM (fun f => (P.info? f.type).map fun i => (f.offset, i.size))).map .str
  | _ => none
def aBld (z : Option (List C)) (q : Option Lay) (parts : List (Nat × V)) (K : V → Prop) : Prop :=
  match z, q with
  | some z, some q => ∃ cs, aFill q.at z parts = some cs ∧ K (.w (.agg cs))
  | _, _ => False
@[congr] theorem cg_aBld {z z' : Option (List C)} {q q' : Option Lay} {parts : List (Nat × V)} (h0 : z = z') (h1 : q = q') : aBld z q parts V' = aBld z' q' parts V' := by subst h0; subst h1; rfl
theorem e_bld0 {parts : List (Nat × V)} (h : aBld (zeroC P t) (layT P t) parts V') : aBuild P t parts V' := by
  unfold aBld at h
  split at h
  · rename_i z q hz hq
    obtain ⟨cs, h1, h2⟩ := h
    unfold layT at hq
    refine ⟨z, q.at, cs, hz, ?_, h1, h2⟩
    split at hq
    · rename_i n e hu
      simp only [Option.map_eq_some_iff] at hq
      obtain ⟨n, hn, rfl⟩ := hq
      rw [hu]
      exact ⟨n, hn, rfl⟩
    · rename_i fs hu
      simp only [Option.map_eq_some_iff] at hq
      obtain ⟨l, hl, rfl⟩ := hq
      rw [hu]
      exact ⟨l, hl, rfl⟩
    cases hq
  exact h.elim
@[go_sem ↓] theorem e_bld {parts : List (Nat × V)} : aBuild P t parts V' = aBld (zeroC P t) (layT P t) parts V' := by
  refine propext ⟨fun ⟨z, pl, cs, hz, hpl, hf, h⟩ => ?_, e_bld0⟩
  unfold aBld layT
  rw [hz]
  split at hpl
  · rename_i n e hu
    obtain ⟨n, hn, rfl⟩ := hpl
    rw [hu]
    simp only [hn]
    exact ⟨cs, hf, h⟩
  · rename_i fs hu
    obtain ⟨l, hl, rfl⟩ := hpl
    rw [hu]
    simp only [hl]
    exact ⟨cs, hf, h⟩
  exact hpl.elim
@[go_sem ↓] theorem e_bld1 {z : List C} {q : Lay} {parts : List (Nat × V)} : aBld (some z) (some q) parts V' = ∃ cs, aFill q.at z parts = some cs ∧ V' (.w (.agg cs)) := nr rfl
@[go_sem] theorem lay_a {n i : Nat} : (Lay.arr n).at i = some (i * n, n) := nr rfl
@[go_sem] theorem lay_s {m : List (Nat × Nat)} {i : Nat} : (Lay.str m).at i = m[i]? := nr rfl
@[go_sem ↓] theorem x_tup {xs : List W} {i : Nat} : aExtract (.tup xs) i V' = ∃ x, xs[i]? = some x ∧ V' (.w x) := by
  unfold aExtract; rfl

/-! ### rows of bytes and strings -/
/-! ### calls -/
def leB (ks : List Id) (d : Nat) : Heap → Heap → Prop
  | [], _ => True
  | (.arg k, cs) :: l, h => (∃ j, ks[k]? = some j ∧ ∃ ds, hget h j = some ds ∧ leCs (cs.map (C.ren ks d)) ds) ∧ leB ks d l h
  | _, _ => False
theorem leB_get {ks : List Id} {d : Nat} {l h : Heap} (H : leB ks d l h) : ∀ i cs, hget l i = some cs → ∃ k j ds, i = .arg k ∧ ks[k]? = some j ∧ hget h j = some ds ∧ leCs (cs.map (C.ren ks d)) ds := by
  induction l with
  | nil => intro i cs h; cases h
  | cons p l ih =>
    obtain ⟨j, ds⟩ := p
    cases j with
    | loc _ => exact H.elim
    | arg k =>
      intro i cs hi
      simp only [hget] at hi
      split at hi
      · rename_i e
        cases hi
        obtain ⟨j, h1, ds, h2, h3⟩ := H.1
        exact ⟨k, j, ds, e.symm, h1, h2, h3⟩
      exact ih H.2 i cs hi
theorem a_call {f : FuncId} {args : List V} {args' : List W} {hl : Heap} {R : V → Heap → Prop} (ks : List Id) (H : Holds P f args' hl R) (hk : okKs ks d) (ha : leA ks d args' args) (hb : leB ks d hl s.heap) (hR : ∀ v h', R v h' → K (v.ren ks d) (s.back ks d h')) : aCallF P f args d s K :=
  .inl ⟨[], ks, args', hl, R, H, hk, by have e : V.retags [] = id := rfl; rw [e, List.map_id]; exact ha, leB_get hb, hR⟩
theorem ok0 : okKs [] d := ⟨by simp, fun i hi => by cases hi⟩
theorem ok1 {i : Id} (h : rootI d i = false) : okKs [i] d := ⟨by simp, fun j hj => by simp at hj; subst hj; exact h⟩
theorem ok2 {i j : Id} (hij : i ≠ j) (h : rootI d i = false) (h' : rootI d j = false) : okKs [i, j] d := ⟨by simp [hij], fun j hj => by simp at hj; rcases hj with rfl | rfl <;> assumption⟩
variable {ks : List Id}
@[go_sem] theorem r_B0 : leB ks d [] h = True := nr rfl
@[go_sem ↓ 1200] theorem r_B_0 {i0 : Id} {js : List Id} {l' : Heap} : leB (i0 :: js) d ((.arg 0, cs) :: l') h = ((aSm (hget h i0) fun ds => leCs (cs.map (C.ren (i0 :: js) d)) ds) ∧ leB (i0 :: js) d l' h) := by
  refine propext ⟨?_, ?_⟩
  · rintro ⟨⟨_, h1, h2⟩, h3⟩
    cases h1
    exact ⟨h2, h3⟩
  rintro ⟨h2, h3⟩
  exact ⟨⟨_, rfl, h2⟩, h3⟩
@[go_sem ↓ 1200] theorem r_B_1 {i0 i1 : Id} {js : List Id} {l' : Heap} : leB (i0 :: i1 :: js) d ((.arg 1, cs) :: l') h = ((aSm (hget h i1) fun ds => leCs (cs.map (C.ren (i0 :: i1 :: js) d)) ds) ∧ leB (i0 :: i1 :: js) d l' h) := by
  refine propext ⟨?_, ?_⟩
  · rintro ⟨⟨_, h1, h2⟩, h3⟩
    cases h1
    exact ⟨h2, h3⟩
  rintro ⟨h2, h3⟩
  exact ⟨⟨_, rfl, h2⟩, h3⟩
@[go_sem] theorem r_A0 : leA ks d [] [] = True := nr rfl
@[go_sem] theorem r_A {x y : W} {l' : List W} {m : List V} : leA ks d (x :: l') (.w y :: m) = (leW (x.ren ks d) y ∧ leA ks d l' m) := nr rfl
@[go_sem] theorem r_V {x : W} : V.ren ks d (.w x) = .w (x.ren ks d) := nr rfl
@[go_sem] theorem r_Vt {xs : List W} : V.ren ks d (.tup xs) = .tup (xs.map (W.ren ks d)) := nr rfl
@[go_sem] theorem r_W {x : C} : W.ren ks d (.c x) = .c (x.ren ks d) := nr rfl
@[go_sem] theorem r_Wa : W.ren ks d (.agg cs) = .agg (cs.map (C.ren ks d)) := nr rfl
@[go_sem] theorem r_v {x : Value} : C.ren ks d (.val x) = .val x := nr rfl
@[go_sem] theorem r_sk {t : Tag} {sz : Nat} {xs : List D} : C.ren ks d (.stk t sz xs) = .stk (renT ks d t) sz xs := nr rfl
@[go_sem] theorem r_l0 {sz : Nat} {xs : List D} : C.ren ks d (.lst .no nl sz xs) = .lst .no nl sz xs := nr rfl
@[go_sem] theorem r_l2 {sz : Nat} {xs : List D} {t : Tag} : C.ren ks d (.lst (.tag t) nl sz xs) = .lst (.tag (renT ks d t)) nl sz xs := nr rfl
@[go_sem] theorem r_p {o : Nat} : C.ren ks d (.ptr i o) = .ptr (renI ks d i) o := nr rfl
@[go_sem] theorem r_r {o n c : Nat} : C.ren ks d (.row i o n c) = .row (renI ks d i) o n c := nr rfl
@[go_sem] theorem r_f {f : Fn} {x y : List (Id × Nat)} : C.ren ks d (.fn f x y) = .fn f (x.map fun p => (renI ks d p.1, p.2)) (y.map fun p => (renI ks d p.1, p.2)) := nr rfl
@[go_sem] theorem r_D {xs : List D} : (xs.map D.toC).map (C.ren ks d) = xs.map D.toC := by
  rw [List.map_map]
  exact List.map_congr_left fun d _ => by cases d <;> rfl
@[go_sem] theorem r_Ia {k : Nat} : renI ks d (.arg k) = (ks[k]?).getD (.loc (d :: 1 :: [k])) := nr rfl
@[go_sem] theorem r_Il {p : List Nat} : renI ks d (.loc p) = .loc (d :: 0 :: p) := nr rfl
@[go_sem] theorem r_Ts {p : List Nat} : renT ks d (.slot p) = .slot (d :: 0 :: p) := nr rfl
@[go_sem] theorem r_Tm {p : List Nat} : renT ks d (.made p) = .made (d :: 0 :: p) := nr rfl
@[go_sem] theorem r_Tc {o : Nat} : renT ks d (.cell i o) = .cell (renI ks d i) o := nr rfl
@[go_sem ↓] theorem e_back {h' : Heap} : St.back ⟨l, h⟩ ks d h' = ⟨l.map (V.clean (rootI d) (bornT ks d)), hren ks d h' ++ hkeep ks (hclean (rootI d) (bornT ks d) h)⟩ := nr rfl
@[go_sem] theorem r_h0 : hren ks d [] = [] := nr rfl
@[go_sem] theorem r_h {h' : Heap} : hren ks d ((i, cs) :: h') = (renI ks d i, cs.map (C.ren ks d)) :: hren ks d h' := nr rfl
@[go_sem] theorem r_k0 : hkeep ks [] = [] := nr rfl
@[go_sem] theorem r_k {h' : Heap} : hkeep ks ((i, cs) :: h') = if ks.contains i = true then hkeep ks h' else (i, cs) :: hkeep ks h' := nr rfl
@[go_sem ↓] theorem e_cl {f : Nat} {x y : List (Id × Nat)} {args : List V} : aCall P (.cell (.fn (.func f) x y)) args d s K = aCallF P f (x.map pvV ++ args ++ y.map pvV) d s K := nr rfl
@[go_sem] theorem e_pvV {p : Id × Nat} : pvV p = .cell (.ptr p.1 p.2) := nr rfl
attribute [go_sem] Option.getD_none List.append_nil

@[go_sem] theorem e_toW {x : W} : V.toW (.w x) = x := nr rfl
variable {ta tb : Tag}
@[go_sem] theorem x_s {p : List Nat} : Tag.lax (.slot p) = true := nr rfl
@[go_sem] theorem x_c {o : Nat} : Tag.lax (.cell i o) = true := nr rfl
@[go_sem] theorem d_C1 {x : Value} : D.toC (.val x) = .val x := nr rfl
@[go_sem] theorem d_nil : byt [] = [] := nr rfl
def aMf (p q : Option (List (Id × Nat))) (f : Fn) (K : V → Prop) : Prop :=
  match p, q with
  | some a, some b => K (.cell (.fn f a b))
  | _, _ => False
@[congr] theorem cg_aMf {p p' q q' : Option (List (Id × Nat))} {f : Fn} (h0 : p = p') (h1 : q = q') : aMf p q f V' = aMf p' q' f V' := by subst h0; subst h1; rfl
@[go_sem ↓] theorem e_mkf {f : Fn} {x y : List V} : aMakeFunc f x y V' = aMf (ptrs x) (ptrs y) f V' := by
  unfold aMakeFunc aMf
  cases ptrs x <;> cases ptrs y <;> simp
@[go_sem ↓] theorem e_mkf1 {f : Fn} {x y : List (Id × Nat)} : aMf (some x) (some y) f V' = V' (.cell (.fn f x y)) := nr rfl
@[go_sem ↓] theorem ptrs0 : ptrs [] = some [] := nr rfl
@[go_sem ↓] theorem ptrs1 {i : Id} {o : Nat} : ptrs [.cell (.ptr i o)] = some [(i, o)] := nr rfl
/-! ### freezing -/
section
variable {sz : Nat} {ds : List D} {cs : List C} {h : Heap} {j : Id}
end
/-! ### less said -/
variable {xs ys : List D} {sz : Nat}
@[go_sem ↓] theorem l_Cno : leC (.lst .no none sz xs) (.lst o nl sz ys) = (xs = ys) := by simp [leC]
@[go_sem ↓] theorem l_Cnon : leC (.lst .no nl sz xs) (.lst o nl sz ys) = (xs = ys) := by simp [leC]
@[go_sem ↓] theorem l_Ctag {τ : Tag} : leC (.lst (.tag τ) none sz xs) (.lst (.tag τ) nl sz ys) = (xs = ys) := by simp [leC]
@[go_sem ↓] theorem l_Ctagf {τ : Tag} : leC (.lst (.tag τ) none sz xs) (.lst .full nl sz ys) = (τ.lax = true ∧ xs = ys) := by simp [leC, Own.lax]
@[go_sem ↓] theorem l_Cv {x y : Value} : leC (.val x) (.val y) = (x = y) := by simp [leC]
@[go_sem ↓] theorem l_Wc {x y : C} : leW (.c x) (.c y) = leC x y := by
  cases x <;> first | rfl | (simp [leW, leC])
@[go_sem ↓] theorem l_Wa {ds : List C} : leW (.agg cs) (.agg ds) = leCs cs ds := nr rfl
@[go_sem ↓] theorem l_Vw {x y : C} : leV (.w (.c x)) (.w (.c y)) = leC x y := by
  cases x <;> first | rfl | (simp [leV, leC])
@[go_sem ↓] theorem l_Va {ds : List C} : leV (.w (.agg cs)) (.w (.agg ds)) = leCs cs ds := nr rfl
@[go_sem ↓] theorem l_Vt {x y : List W} : leV (.tup x) (.tup y) = leWs x y := nr rfl
@[go_sem ↓] theorem l_Ws0 : leWs [] [] = True := nr rfl
@[go_sem ↓] theorem l_Ws {x y : W} {p q : List W} : leWs (x :: p) (y :: q) = (leW x y ∧ leWs p q) := nr rfl
@[go_sem ↓] theorem l_H {h' : Heap} : leH ((i, cs) :: h') h = ((∃ ds, hget h i = some ds ∧ leCs cs ds) ∧ leH (h'.filter fun p => decide (p.1 ≠ i)) h) := by
  refine propext ⟨fun H => ⟨H i cs (by simp [hget]), fun j ds hj => ?_⟩, ?_⟩
  · have key : ∀ l : Heap, hget (l.filter fun p => decide (p.1 ≠ i)) j = some ds → j ≠ i ∧ hget l j = some ds := by
      intro l
      induction l with
      | nil => intro h; cases h
      | cons p l ih =>
        obtain ⟨k, c⟩ := p
        intro h
        by_cases hk : k = i
        · subst hk
          simp at h
          obtain ⟨a, b⟩ := ih (by simpa using h)
          refine ⟨a, ?_⟩
          simp only [hget]
          rw [if_neg (Ne.symm a)]
          exact b
        have e : ((k, c) :: l).filter (fun p => decide (p.1 ≠ i)) = (k, c) :: l.filter fun p => decide (p.1 ≠ i) := by simp [hk]
        rw [e] at h
        simp only [hget] at h ⊢
        split at h
        · rename_i e; subst e; exact ⟨hk, by simpa using h⟩
        rename_i e
        obtain ⟨a, b⟩ := ih h
        exact ⟨a, by rw [if_neg e]; exact b⟩
    obtain ⟨a, b⟩ := key h' hj
    exact H j ds (by simp only [hget]; rw [if_neg (Ne.symm a)]; exact b)
  rintro ⟨⟨ds, h1, h2⟩, H⟩ j es hj
  simp only [hget] at hj
  split at hj
  · rename_i e; cases hj; subst e; exact ⟨ds, h1, h2⟩
  rename_i e
  refine H j es ?_
  clear H
  induction h' with
  | nil => cases hj
  | cons p l ih =>
    obtain ⟨k, c⟩ := p
    simp only [hget] at hj
    by_cases hk : k = i
    · subst hk
      rw [if_neg e] at hj
      simpa using ih hj
    have e' : ((k, c) :: l).filter (fun p => decide (p.1 ≠ i)) = (k, c) :: l.filter fun p => decide (p.1 ≠ i) := by simp [hk]
    rw [e']
    simp only [hget]
    split at hj
    · rename_i e1; rw [if_pos e1]; exact hj
    rename_i e1; rw [if_neg e1]; exact ih hj
@[go_sem ↓] theorem e_fin {X A : V} {B H : Heap} : (∃ v h', leV v X ∧ leH h' H ∧ v = A ∧ h' = B) = (leV A X ∧ leH B H) :=
  propext ⟨fun ⟨_, _, h1, h2, e1, e2⟩ => by subst e1; subst e2; exact ⟨h1, h2⟩, fun ⟨h1, h2⟩ => ⟨_, _, h1, h2, rfl, rfl⟩⟩
attribute [go_sem] Nat.mul_one Nat.le_refl List.filter_nil List.filter_cons
end
@[congr] theorem cg_aIf {q q' : Prop} [Decidable q] [Decidable q'] {α : Type} {x y : α} (h : q = q') : (if q then x else y) = (if q' then x else y) := by subst h; congr
end
section
theorem pure_inj {x y : Value} (P : Program) (w : World) (h : (pure x : Sem Value) = pure y) : x = y := by
  have := congrArg (fun s : Sem Value => s.run P w) h
  simp only [Sem.run_pure] at this
  injection this
variable {V' : V → Prop} {P : Program} {t t' : TypeId}
@[go_sem ↓ 1200] theorem i8_or (a b : UInt8) : aInt .or .u8 (U8 a) .u8 (U8 b) V' = V' (.int .u8 (U8 (or8 a b))) := by
  rw [e_or]; exact congrArg (fun z => V' (.w (.c (.val z)))) (pure_inj (default : Program) (default : World) (u8_or_ a b))
@[go_sem ↓ 1100] theorem i8_or_r (k : Int) (a : UInt8) (h0 : 0 ≤ k) (h1 : k < 256) : aInt .or .u8 (U8 a) .u8 k V' = V' (.int .u8 (U8 (or8 a (UInt8.ofNat k.toNat)))) := by
  have h := i8_or (V' := V') a (UInt8.ofNat k.toNat); rw [← u8_of k h0 h1] at h; exact h
@[go_sem ↓ 1200] theorem i32_xor (a b : UInt32) : aInt .xor .u32 (U32 a) .u32 (U32 b) V' = V' (.int .u32 (U32 (xor32 a b))) := by
  rw [e_xor]; exact congrArg (fun z => V' (.w (.c (.val z)))) (pure_inj (default : Program) (default : World) (u32_xor_ a b))
@[go_sem ↓ 1200] theorem i32_shl (a : UInt32) (k : IntKind) (y : Int) (hy : 0 ≤ y) : aInt .shl .u32 (U32 a) k y V' = V' (.int .u32 (U32 (shl32 a y.toNat))) := by
  rw [e_shl hy]
  refine congrArg (fun z => V' (.w (.c (.val z)))) (pure_inj (default : Program) (default : World) ?_)
  have h := u32_shl_ a k y hy
  simp only [Op.shift, Int.not_lt.mpr hy, if_false] at h
  exact h
@[go_sem ↓ 1200] theorem i32_shr (a : UInt32) (k : IntKind) (y : Int) (hy : 0 ≤ y) : aInt .shr .u32 (U32 a) k y V' = V' (.int .u32 (U32 (shr32 a y.toNat))) := by
  rw [e_shr hy]
  refine congrArg (fun z => V' (.w (.c (.val z)))) (pure_inj (default : Program) (default : World) ?_)
  have h := u32_shr_ a k y hy
  simp only [Op.shift, Int.not_lt.mpr hy, if_false] at h
  exact h
@[go_sem ↓ 1200] theorem i64_add (a b : UInt64) : aInt .add .u64 (U64 a) .u64 (U64 b) V' = V' (.int .u64 (U64 (add64 a b))) := by
  rw [e_add]; exact congrArg (fun z => V' (.w (.c (.val z)))) (pure_inj (default : Program) (default : World) (u64_add_ a b))
@[go_sem ↓ 1100] theorem i64_add_r (k : Int) (a : UInt64) (h0 : 0 ≤ k) (h1 : k < 18446744073709551616) : aInt .add .u64 (U64 a) .u64 k V' = V' (.int .u64 (U64 (add64 a (UInt64.ofNat k.toNat)))) := by
  have h := i64_add (V' := V') a (UInt64.ofNat k.toNat); rw [← u64_of k h0 h1] at h; exact h
@[go_sem ↓ 1200] theorem i64_mul (a b : UInt64) : aInt .mul .u64 (U64 a) .u64 (U64 b) V' = V' (.int .u64 (U64 (mul64 a b))) := by
  rw [e_mul]; exact congrArg (fun z => V' (.w (.c (.val z)))) (pure_inj (default : Program) (default : World) (u64_mul_ a b))
@[go_sem ↓ 1100] theorem i64_mul_l (k : Int) (a : UInt64) (h0 : 0 ≤ k) (h1 : k < 18446744073709551616) : aInt .mul .u64 k .u64 (U64 a) V' = V' (.int .u64 (U64 (mul64 (UInt64.ofNat k.toNat) a))) := by
  have h := i64_mul (V' := V') (UInt64.ofNat k.toNat) a; rw [← u64_of k h0 h1] at h; exact h
@[go_sem ↓ 1200] theorem i64_and (a b : UInt64) : aInt .and .u64 (U64 a) .u64 (U64 b) V' = V' (.int .u64 (U64 (and64 a b))) := by
  rw [e_and]; exact congrArg (fun z => V' (.w (.c (.val z)))) (pure_inj (default : Program) (default : World) (u64_and_ a b))
@[go_sem ↓ 1100] theorem i64_and_r (k : Int) (a : UInt64) (h0 : 0 ≤ k) (h1 : k < 18446744073709551616) : aInt .and .u64 (U64 a) .u64 k V' = V' (.int .u64 (U64 (and64 a (UInt64.ofNat k.toNat)))) := by
  have h := i64_and (V' := V') a (UInt64.ofNat k.toNat); rw [← u64_of k h0 h1] at h; exact h
@[go_sem ↓ 1200] theorem i64_xor (a b : UInt64) : aInt .xor .u64 (U64 a) .u64 (U64 b) V' = V' (.int .u64 (U64 (xor64 a b))) := by
  rw [e_xor]; exact congrArg (fun z => V' (.w (.c (.val z)))) (pure_inj (default : Program) (default : World) (u64_xor_ a b))
@[go_sem ↓ 1200] theorem i64_shr (a : UInt64) (k : IntKind) (y : Int) (hy : 0 ≤ y) : aInt .shr .u64 (U64 a) k y V' = V' (.int .u64 (U64 (shr64 a y.toNat))) := by
  rw [e_shr hy]
  refine congrArg (fun z => V' (.w (.c (.val z)))) (pure_inj (default : Program) (default : World) ?_)
  have h := u64_shr_ a k y hy
  simp only [Op.shift, Int.not_lt.mpr hy, if_false] at h
  exact h
def aCv (q : Option IntKind) (n : Int) (K : V → Prop) : Prop :=
  match q with
  | some k => K (.int k (k.wrap n))
  | none => False
@[congr] theorem cg_aCv {q q' : Option IntKind} {n : Int} (h0 : q = q') : aCv q n V' = aCv q' n V' := by subst h0; rfl
@[go_sem ↓] theorem e_cvi {k : IntKind} {n : Int} : aConv P t t' (.w (.c (.val (.int k n)))) V' = (knownT P t = true ∧ aCv (kindT P t') n V') := by
  unfold aConv aCv
  cases h : kindT P t' <;> simp
@[go_sem ↓] theorem e_cvs {s : ByteArray} : aConv P t t' (.w (.c (.val (.string s)))) V' = (knownT P t = true ∧ isStrT P t' = true ∧ V' (.val (.string s))) := rfl
@[go_sem ↓ 1200] theorem cv_32_8 (a : UInt32) : aCv (some .u8) (U32 a) V' = V' (.int .u8 (U8 (c32to8 a))) := by
  show V' (.int .u8 (IntKind.u8.wrap (U32 a))) = _
  rw [wrapc_32_8]
@[go_sem ↓ 1200] theorem cv_64_8 (a : UInt64) : aCv (some .u8) (U64 a) V' = V' (.int .u8 (U8 (c64to8 a))) := by
  show V' (.int .u8 (IntKind.u8.wrap (U64 a))) = _
  rw [wrapc_64_8]
@[go_sem ↓ 1100] theorem cv_i_32 (n : Int) (h0 : 0 ≤ n) (h1 : n < 4294967296) : aCv (some .u32) n V' = V' (.int .u32 (U32 (UInt32.ofNat n.toNat))) := by
  show V' (.int .u32 (IntKind.u32.wrap n)) = _
  rw [U32_lit _ (by omega), wrap_u32_]
  congr 3; omega
@[go_sem ↓ 1100] theorem cv_i_64 (n : Int) (h0 : 0 ≤ n) (h1 : n < 18446744073709551616) : aCv (some .u64) n V' = V' (.int .u64 (U64 (UInt64.ofNat n.toNat))) := by
  show V' (.int .u64 (IntKind.u64.wrap n)) = _
  rw [U64_lit _ (by omega), wrap_u64_]
  congr 3; omega
@[go_sem ↓ 1100] theorem cv_i_i (n : Int) (h0 : -9223372036854775808 ≤ n) (h1 : n ≤ 9223372036854775807) : aCv (some .i64) n V' = V' (.int .i64 n) := by
  show V' (.int .i64 (IntKind.i64.wrap n)) = _
  rw [wrap_i64 h0 h1]
@[go_sem ↓] theorem cv_a (k : IntKind) (n : Int) : aCv (some k) n V' = V' (.int k (k.wrap n)) := rfl
attribute [go_sem] Int.reduceToNat
end
section
def BV (c : UInt8) : Value := .int .u8 (U8 c)
def WV (c : UInt32) : Value := .int .u32 (U32 c)

/-- What a call keeps: all blocks that were there but those of S. -/
structure Kept (S : List Nat) (w w' : World) : Prop where
  os : w'.os = w.os
  tape : w'.tape = w.tape
  output : w'.output = w.output
  size : w.heap.size ≤ w'.heap.size
  block : ∀ k, k < w.heap.size → k ∉ S → w'.heap[k]? = w.heap[k]?

section
variable {S S' : List Nat} {w w' w'' : World}
theorem Kept.refl (S : List Nat) (w : World) : Kept S w w := ⟨rfl, rfl, rfl, Nat.le_refl _, fun _ _ _ => rfl⟩
theorem Kept.trans (h : Kept S w w') (k : Kept S w' w'') : Kept S w w'' :=
  ⟨k.os.trans h.os, k.tape.trans h.tape, k.output.trans h.output, Nat.le_trans h.size k.size, fun i hi hn => (k.block i (Nat.lt_of_lt_of_le hi h.size) hn).trans (h.block i hi hn)⟩
theorem Kept.mono (h : Kept S w w') (hs : ∀ k, k ∈ S → k ∈ S' ∨ w.heap.size ≤ k) : Kept S' w w' :=
  ⟨h.os, h.tape, h.output, h.size, fun i hi hn => h.block i hi (fun hm => by rcases hs i hm with h | h; exact hn h; omega)⟩
/-- a later step that touches what is new since w, or S -/
theorem Kept.then_ (h : Kept S w w') (k : Kept S' w' w'') (hs : ∀ i, i ∈ S' → i ∈ S ∨ w.heap.size ≤ i) : Kept S w w'' :=
  ⟨k.os.trans h.os, k.tape.trans h.tape, k.output.trans h.output, Nat.le_trans h.size k.size, fun i hi hn =>
    (k.block i (Nat.lt_of_lt_of_le hi h.size) (fun hm => by rcases hs i hm with h | h; exact hn h; omega)).trans (h.block i hi hn)⟩
theorem Kept.alloc (h : Kept S w w') (o : Obj) : Kept S w (w'.alloc o) :=
  ⟨h.os, h.tape, h.output, by simpa using Nat.le_succ_of_le h.size, fun k hk hn => (Below.heap_alloc w' o k (Nat.lt_of_lt_of_le hk h.size)).trans (h.block k hk hn)⟩
theorem Kept.setCell (h : Kept S w w') {p : Addr} (hp : p.block ∈ S ∨ w.heap.size ≤ p.block) (u : Value) : Kept S w (w'.setCell p u) :=
  ⟨h.os, h.tape, h.output, by simpa using h.size, fun k hk hn => (Below.heap_setCell w' p u k (fun e => by subst e; rcases hp with hp | hp; exact hn hp; omega)).trans (h.block k hk hn)⟩
theorem Kept.drew (h : Kept S w w') : Kept S w w'.drew := ⟨h.os, h.tape, h.output, h.size, h.block⟩
theorem Kept.grown {row : Option Nat} (h : Kept S w w') (hg : w'.grownBy w'' row) (hr : ∀ k, row = some k → k ∈ S ∨ w.heap.size ≤ k) : Kept S w w'' :=
  ⟨hg.os.trans h.os, hg.tape.trans h.tape, hg.output.trans h.output, Nat.le_trans h.size hg.size, fun k hk hn =>
    (hg.block k (Nat.lt_of_lt_of_le hk h.size) (fun e => by rcases hr k e.symm with h | h; exact hn h; omega)).trans (h.block k hk hn)⟩
theorem Kept.of_grown {row : Option Nat} (hg : w.grownBy w' row) (hr : ∀ k, row = some k → k ∈ S ∨ w.heap.size ≤ k) : Kept S w w' :=
  (Kept.refl S w).grown hg hr
theorem Kept.below (h : Kept [] w w') : Below w.heap.size w w' := ⟨h.os, h.tape, h.output, h.size, fun k hk => h.block k hk (by simp)⟩
theorem Kept.cell (h : Kept S w w') {p : Addr} (hp : p.block < w.heap.size) (hn : p.block ∉ S) : w'.cell? p = w.cell? p :=
  World.cell?_of_block (w := w) (h.block p.block hp hn)
theorem Kept.cell_some (h : Kept S w w') {p : Addr} {v : Value} (hc : w.cell? p = some v) (hn : p.block ∉ S) : w'.cell? p = some v :=
  (h.cell (World.block_lt_of_cell? w p hc) hn).trans hc
theorem Kept.frozen (h : Kept S w w') {p : Addr} (hp : p.block < w.heap.size) (hn : p.block ∉ S) : w'.frozen? p = w.frozen? p :=
  World.frozen?_of_block (w := w) (h.block p.block hp hn)
end

/-- a row that reads xs at A -/
def Rd (w : World) (A : Option Addr) (xs : List Value) : Prop :=
  0 < xs.length → ∃ a, A = some a ∧ ∀ i v, xs[i]? = some v → w.cell? (a.add i) = some v
theorem Rd.kept {S : List Nat} {w w' : World} {A : Option Addr} {xs : List Value} (h : Rd w A xs) (hk : Kept S w w') (hn : ∀ a, A = some a → a.block ∉ S) : Rd w' A xs := by
  intro hl
  obtain ⟨a, e, h⟩ := h hl
  exact ⟨a, e, fun i v hv => hk.cell_some (h i v hv) (by rw [block_of_add]; exact hn a e)⟩
theorem Rd.nil (w : World) (A : Option Addr) : Rd w A [] := fun h => by simp at h
theorem Rd.drop {w : World} {A : Option Addr} {xs : List Value} (h : Rd w A xs) (k cap : Nat) (hk : k ≤ xs.length) (hc : xs.length ≤ cap) :
    Rd w (if cap = k then A else A.map (·.add k)) (xs.drop k) := by
  intro hl
  rw [List.length_drop] at hl
  obtain ⟨a, rfl, h2⟩ := h (by omega)
  rw [if_neg (by omega)]
  refine ⟨a.add k, rfl, fun i v hv => ?_⟩
  rw [add_of_add]
  exact h2 _ v (by rw [← hv, List.getElem?_drop])
theorem Rd.take {w : World} {A : Option Addr} {xs : List Value} (h : Rd w A xs) (k : Nat) : Rd w A (xs.take k) := by
  intro hl
  obtain ⟨a, e, h⟩ := h (by rw [List.length_take] at hl; omega)
  refine ⟨a, e, fun i v hv => h i v ?_⟩
  rw [List.getElem?_take] at hv
  split at hv
  · exact hv
  cases hv

/-- as Rd, and the row lies below block B -/
def RdB (B : Nat) (w : World) (A : Option Addr) (xs : List Value) : Prop :=
  0 < xs.length → ∃ a, A = some a ∧ a.block < B ∧ ∀ i v, xs[i]? = some v → w.cell? (a.add i) = some v
theorem Rd.bound {w : World} {A : Option Addr} {xs : List Value} (h : Rd w A xs) : RdB w.heap.size w A xs := by
  intro hl
  obtain ⟨a, e, h⟩ := h hl
  refine ⟨a, e, ?_, h⟩
  have := World.block_lt_of_cell? w _ (h 0 xs[0] (List.getElem?_eq_getElem hl))
  rwa [block_of_add] at this
theorem RdB.rd {B : Nat} {w : World} {A : Option Addr} {xs : List Value} (h : RdB B w A xs) : Rd w A xs := fun hl => by
  obtain ⟨a, e, _, h⟩ := h hl
  exact ⟨a, e, h⟩
theorem RdB.mono {B B' : Nat} {w : World} {A : Option Addr} {xs : List Value} (h : RdB B w A xs) (hB : B ≤ B') : RdB B' w A xs := fun hl => by
  obtain ⟨a, e, hb, h⟩ := h hl
  exact ⟨a, e, by omega, h⟩
theorem RdB.kept {B : Nat} {S : List Nat} {w w' : World} {A : Option Addr} {xs : List Value} (h : RdB B w A xs) (hk : Kept S w w') (hS : ∀ k, k ∈ S → B ≤ k) : RdB B w' A xs := by
  intro hl
  obtain ⟨a, e, hb, h⟩ := h hl
  exact ⟨a, e, hb, fun i v hv => hk.cell_some (h i v hv) (by rw [block_of_add]; intro hm; have := hS _ hm; omega)⟩
theorem RdB.drop {B : Nat} {w : World} {A : Option Addr} {xs : List Value} (h : RdB B w A xs) (k cap : Nat) (hk : k ≤ xs.length) (hc : xs.length ≤ cap) :
    RdB B w (if cap = k then A else A.map (·.add k)) (xs.drop k) := by
  intro hl
  rw [List.length_drop] at hl
  obtain ⟨a, rfl, hb, h2⟩ := h (by omega)
  rw [if_neg (by omega)]
  refine ⟨a.add k, rfl, by rw [block_of_add]; exact hb, fun i v hv => ?_⟩
  rw [add_of_add]
  exact h2 _ v (by rw [← hv, List.getElem?_drop])
theorem RdB.take {B : Nat} {w : World} {A : Option Addr} {xs : List Value} (h : RdB B w A xs) (k : Nat) : RdB B w A (xs.take k) := by
  intro hl
  obtain ⟨a, e, hb, h⟩ := h (by rw [List.length_take] at hl; omega)
  refine ⟨a, e, hb, fun i v hv => h i v ?_⟩
  rw [List.getElem?_take] at hv
  split at hv
  · exact hv
  cases hv

/-- bytes as cells -/
def bcells (xs : List UInt8) : Array Value := (xs.map BV).toArray
theorem bcells_size (xs : List UInt8) : (bcells xs).size = xs.length := by simp [bcells]
theorem bcells_one (xs : List UInt8) : ∀ u ∈ (bcells xs).toList, u.oneCell' = true := by
  intro u hu
  simp [bcells, BV] at hu
  obtain ⟨a, _, rfl⟩ := hu
  rfl
theorem bv_one (xs : List UInt8) : ∀ u ∈ xs.map BV, u.oneCell' = true := by
  intro u hu
  simp [BV] at hu
  obtain ⟨a, _, rfl⟩ := hu
  rfl

/-- a block known whole, nothing frozen -/
def Blk (w : World) (g : Nat) (t : TypeId) (cs : Array Value) : Prop := w.heap[g]? = some (.cells cs t (0, 0))
section
variable {w w' : World} {g : Nat} {t : TypeId} {cs : Array Value} {S : List Nat}
theorem Blk.lt (h : Blk w g t cs) : g < w.heap.size := by
  rcases Nat.lt_or_ge g w.heap.size with hlt | hge
  · exact hlt
  unfold Blk at h; rw [Array.getElem?_eq_none hge] at h; cases h
theorem Blk.cell (h : Blk w g t cs) (i : Nat) : w.cell? ⟨g, i, none⟩ = cs[i]? := cell_of_row w g i cs t (0, 0) h
theorem Blk.frozen (h : Blk w g t cs) (i : Nat) : w.frozen? ⟨g, i, none⟩ = false := by
  unfold Blk at h
  simp [World.frozen?, h]
theorem Blk.new (w : World) (t : TypeId) (cs : Array Value) : Blk (w.alloc (.cells cs t)) w.heap.size t cs := heap_alloc_new w _
theorem Blk.drew (h : Blk w g t cs) : Blk w.drew g t cs := h
theorem Blk.alloc (h : Blk w g t cs) (o : Obj) : Blk (w.alloc o) g t cs := (Below.heap_alloc w o g h.lt).trans h
theorem Blk.set_ (h : Blk w g t cs) (i : Nat) (u : Value) : Blk (w.setCell ⟨g, i, none⟩ u) g t (cs.setIfInBounds i u) := by
  unfold Blk at h ⊢
  simp [World.setCell, Array.getElem?_modify, h]
theorem Blk.far (h : Blk w g t cs) {p : Addr} (hp : g ≠ p.block) (u : Value) : Blk (w.setCell p u) g t cs := (Below.heap_setCell w p u g hp).trans h
theorem Blk.kept (h : Blk w g t cs) (hk : Kept S w w') (hg : g ∉ S) : Blk w' g t cs := (hk.block g h.lt hg).trans h
theorem Blk.grown {row : Option Nat} (h : Blk w g t cs) (hb : w.grownBy w' row) (hg : some g ≠ row) : Blk w' g t cs := (hb.block g h.lt hg).trans h
/-- a block's cells read as a row -/
theorem Blk.rd {xs : List Value} (h : Blk w g t xs.toArray) : Rd w (some ⟨g, 0, none⟩) xs :=
  fun _ => ⟨_, rfl, fun i v hv => by rw [add_mk, Nat.zero_add, h.cell i]; simpa using hv⟩
theorem Blk.rd_at {xs : List Value} (h : Blk w g t cs) (o : Nat) (hx : xs = cs.toList.drop o) : Rd w (some ⟨g, o, none⟩) xs :=
  fun _ => ⟨_, rfl, fun i v hv => by rw [add_mk, h.cell]; subst hx; simpa [List.getElem?_drop] using hv⟩
end
end
section
open Go Go.RowKit Go.ChangeShapes Go.WideShapes

theorem rowOwn : ownKnob Tryz.prog.godebug = none := by kernel_rfl
theorem rowLaid : laidOutB Tryz.prog = true := by kernel_rfl
/-- all that a world holds, as the logic's memory -/
def ghOf (w : World) : Gh := ⟨fun a => w.cell? a, fun _ => 0, fun _ => none⟩
theorem ghOf_wi (w : World) : WI (ghOf w) [] w :=
  ⟨fun _ _ h => h, (fun _ _ h => by cases h), (fun _ _ _ _ h => by cases h), (fun _ _ _ _ h => by cases h), (fun _ _ h => by cases h), (fun _ _ _ _ h => by cases h), (fun _ _ _ _ h => by cases h), (fun _ _ h => by cases h)⟩
/-- a contract without boxes, as the rows want it -/
theorem Holds.calls {P : Program} {f : FuncId} {args : List W} {b : Bool} (H : Holds P f args [] (fun r h' => r = V.bool b ∧ h' = [])) (w : World) (hG : GlobOK (ghOf w).M) {xs : List Value} (hx : All2 (RelW (ghOf w)) args xs) :
    Calls P f xs.toArray w fun e w' => e = .returned (.bool b) ∧ Kept [] w w' := by
  refine (H.2 (ghOf w) w xs hG hx (ghOf_wi w)).mono ?_
  rintro e w' ⟨x, v, h', g', rfl, ⟨rfl, rfl⟩, hv, hw, hc⟩
  obtain ⟨_, rfl⟩ := hv
  refine ⟨rfl, hc.os, hc.tape, hc.output, hc.size, fun k hk _ => hc.unch k hk ?_⟩
  rintro (⟨i, cs, hi, _⟩ | ⟨t, r, ht, _⟩)
  · cases hi
  cases ht
/-- the places that an argument reads lie in the heap -/
theorem places_lt {H : Type} {enc : TypeId × Value → H} {W : World} {t : TypeId} {v : Value} {d : DataW H} {ps : List MemPlace} (h : DataW.Trod enc Tryz.prog W 0 (fun _ => true) true t v d ps) : ∀ x ∈ ps, x.block < W.heap.size := by
  obtain ⟨m, hm⟩ := h
  exact DataW.trod_lt m _ _ _ hm
set_option maxRecDepth 100000 in
theorem open_i64n {H : Type} {enc : TypeId × Value → H} {W : World} {t : TypeId} {v : Value} {d : DataW H} {ps : List MemPlace} {r : Reach} {b0 : Nat} (ht : Tryz.prog.underlying t = some (.int .i64))
    (hv : Value.okWide Tryz.prog W r b0 t v) (h : DataW.Trod enc Tryz.prog W 0 (fun _ => true) true t v d ps) : ∃ z : Int, RelW (ghOf W) (.int .i64 z) v ∧ -9223372036854775808 ≤ z ∧ z ≤ 9223372036854775807 := by
  obtain ⟨n, rfl, _, _, hw⟩ := open_int ht hv h
  simp only [Lit.wf, Bool.and_eq_true, decide_eq_true_eq] at hw
  have e1 : IntKind.i64.min = -9223372036854775808 := by kernel_rfl
  have e2 : IntKind.i64.max = 9223372036854775807 := by kernel_rfl
  rw [e1, e2] at hw
  exact ⟨n, ⟨rfl, rfl⟩, hw.1, hw.2⟩
/-- no tables -/
theorem globNone (hg : globD = fun _ => []) (w : World) : GlobOK (ghOf w).M := fun k i d hd => by rw [hg] at hd; cases hd
end
section
def ls {α : Type} (f : α → D) (xs : List α) : List D := xs.map f
section
variable {α : Type} {f : α → D} {xs ys : List α}
@[go_sem] theorem ls_len : (ls f xs).length = xs.length := by simp [ls]
@[go_sem] theorem ls_drop {n : Nat} : (ls f xs).drop n = ls f (xs.drop n) := by simp [ls]
variable {P : Program} {V' : V → Prop} {o : Own} {nl : Option Bool} {k : IntKind} {a b : Int} {t : TypeId}
@[go_sem ↓ 1200] theorem e_IA1l {i : Int} (h0 : 0 ≤ i) (h1 : i < xs.length) : aIA (some (none, t, 1)) (.cell (.lst o nl 1 (ls f xs))) i V' = V' (.cell (.mem ((ls f xs).drop i.toNat))) := by
  simp [aIA, h0, h1, ls_len]
end
@[go_sem ↓] theorem w_D {l : List V} {h : Heap} {i : Id} {off : Nat} {cs : List C} {xs : List D} : St.stow ⟨l, h⟩ i off cs (xs.map D.toC) = ⟨l, hset h i (spl cs off (xs.map D.toC))⟩ := by
  have e : (xs.map D.toC).map (C.clean (fun _ => false) fun _ => true) = xs.map D.toC := k_D
  unfold St.stow
  split
  · rename_i τ nl sz ys hq
    cases xs with
    | nil => simp at hq
    | cons x xs => cases x <;> simp [D.toC] at hq
  · rename_i τ sz ys hq
    cases xs with
    | nil => simp at hq
    | cons x xs => cases x <;> simp [D.toC] at hq
  rw [e]
/-! ### arrays of bytes -/
/-! ### bytes in a box -/
section
variable {bs l : List UInt8} {c n k : Nat} {bi : Id → Bool} {bt : Tag → Bool} {ks : List Id} {d sz : Nat} {ta tb : Tag} {i : Id} {ds : List D}
end

/-! ### bytes of a box as a string -/
section
variable {P : Program} {K : V → St → Prop} {s : St} {t t' : TypeId} {bs : List UInt8} {c n : Nat} {i : Id}
end
/-! ### bits of an int -/
end
section
variable {V' : V → Prop} {k k' : IntKind} {a b : Int}
@[go_sem] theorem wrap_i32 {n : Int} (h : -2147483648 ≤ n) (h' : n ≤ 2147483647) : IntKind.i32.wrap n = n := by
  simp [IntKind.wrap, IntKind.bits, IntKind.signed]; omega
@[go_sem ↓] theorem e_maxi : aMinMax true [V.int k a, V.int k b] V' = V' (.int k (max a b)) := by simp [aMinMax]
@[go_sem ↓] theorem e_mini : aMinMax false [V.int k a, V.int k b] V' = V' (.int k (min a b)) := by simp [aMinMax]
@[go_sem ↓] theorem e_neg : aUn .neg (V.int k a) V' = V' (.int k (k.wrap (0 - a))) := nr rfl
@[go_sem ↓ 1150] theorem e_shr16 : aInt .shr .i64 a k' 16 V' = V' (.int .i64 (a / 65536)) := by
  rw [e_shr (by decide)]
  have e : a.fdiv (2 ^ min (16 : Int).toNat IntKind.i64.bits) = a / 65536 := Int.fdiv_eq_ediv_of_nonneg a (by decide)
  rw [e]
theorem bits_u64 : IntKind.u64.bits = 64 := rfl
theorem bits_i64 : IntKind.i64.bits = 64 := rfl
/-! ### parts of an array -/
def aSlP (q : Option (Option Nat × TypeId × Nat)) (i : Id) (off : Nat) (l : Int) (h : Option Int) (K : V → Prop) : Prop :=
  match q with
  | some (some n, _, sz) => 0 ≤ l ∧ l ≤ h.getD n ∧ h.getD n ≤ n ∧ K (.cell (.row i (if n = l.toNat then off else off + l.toNat * sz) ((h.getD n).toNat - l.toNat) (n - l.toNat)))
  | _ => False
section
variable {P : Program} {t : TypeId} {i : Id} {off : Nat} {q q' : Option (Option Nat × TypeId × Nat)} {l : Int} {h : Option Int}
@[congr] theorem cg_aSlP (h0 : q = q') : aSlP q i off l h V' = aSlP q' i off l h V' := by subst h0; rfl
@[go_sem ↓] theorem e_slP1 {n e sz : Nat} : aSlP (some (some n, e, sz)) i off l none V' = (0 ≤ l ∧ l ≤ n ∧ V' (.cell (.row i (if n = l.toNat then off else off + l.toNat * sz) (n - l.toNat) (n - l.toNat)))) := by
  simp [aSlP]
theorem slP_eq {lo hi : Option V} (hl : bnd 0 lo = some l) (hh : ∀ n : Int, bnd n hi = some (h.getD n)) : aSlice P t (.cell (.ptr i off)) lo hi V' = aSlP (idxT P t) i off l h V' := by
  unfold aSlP
  refine propext ⟨fun ⟨n, e, sz, h0, l', h', h1, h2, h3⟩ => ?_, fun H => ?_⟩
  · rw [h0]
    rw [hl] at h1
    rw [hh] at h2
    cases h1; cases h2
    exact h3
  split at H
  · rename_i n e sz hq
    exact ⟨n, e, sz, hq, l, h.getD n, hl, hh n, H⟩
  exact H.elim
@[go_sem ↓] theorem e_slPc : aSlice P t (.cell (.ptr i off)) none none V' = aSlP (idxT P t) i off 0 none V' := slP_eq rfl (fun _ => rfl)
end
/-! ### strings -/
@[go_sem ↓ 1100] theorem e_cstr' {l : List UInt8} : ofValue (.string ⟨l.toArray⟩) = V.val (.string (strB l)) := nr rfl
theorem U64n {n : Nat} (h1 : n < 18446744073709551616) : U64 (UInt64.ofNat n) = (n : Int) := by
  unfold U64; rw [UInt64.toNat_ofNat']; omega
/-- i32, told by its bounds -/
def B32 (a : Int) : Prop := -2147483648 ≤ a ∧ a ≤ 2147483647
theorem tdiv_bound {a b : Int} {m : Nat} (h1 : -(m : Int) ≤ a) (h2 : a ≤ m) : -(m : Int) ≤ a.tdiv b ∧ a.tdiv b ≤ m := by
  have h : (a.tdiv b).natAbs ≤ a.natAbs := by
    rw [Int.natAbs_tdiv]; exact Nat.div_le_self _ _
  omega
theorem mul_bound {a b : Int} (ha : B32 a) (hb : B32 b) : -4611686018427387904 ≤ a * b ∧ a * b ≤ 4611686018427387904 := by
  obtain ⟨a1, a2⟩ := ha
  obtain ⟨b1, b2⟩ := hb
  have h : (a * b).natAbs ≤ 2147483648 * 2147483648 := by
    rw [Int.natAbs_mul]; exact Nat.mul_le_mul (by omega) (by omega)
  omega
/-! ### what is reckoned -/
theorem zs {p q : Prop} (hq : q) (h : p = q := by (conv => lhs; simp (maxSteps:=2000000) (disch:=omega) only [go_sem,Nat.reduceAdd,Nat.reduceSub,Nat.reduceMul,Nat.reduceBEq,Nat.reduceEqDiff,Nat.reduceLT,Nat.reduceLeDiff,Nat.reduceDiv,reduceIte,reduceCtorEq]); all_goals exact rfl) : p := Eq.mpr h hq
theorem zc {p q : Prop} (hq : q) (h : p = q := by (conv => lhs; simp (maxSteps:=2000000) (disch:=omega) only [go_sem,Nat.reduceAdd,Nat.reduceSub,Nat.reduceMul,Nat.reduceBEq,Nat.reduceEqDiff,Nat.reduceLT,Nat.reduceLeDiff,Nat.reduceDiv,reduceIte,reduceCtorEq, Int.reduceLT, Int.reduceLE, Int.reduceEq, Int.reduceNe, Int.reduceAdd, Int.reduceSub, Int.reduceMul, Int.reduceNeg, Int.reduceDiv, Int.reduceMod, Int.reduceTMod, Int.reduceTDiv, Int.reduceFDiv, Int.reducePow, Int.reduceToNat, U64n, BitVec.reduceOfInt, BitVec.reduceAnd, BitVec.reduceToNat, bits_u64, bits_i64]); all_goals exact rfl) : p := Eq.mpr h hq
theorem zE {p q : Prop} (hq : q) (h : p = q := by (conv => lhs; simp only [entrySt, List.map_cons, List.map_nil, List.length_cons, List.length_nil, Nat.reduceAdd, Nat.reduceSub, List.replicate_succ, List.replicate_zero, List.cons_append, List.nil_append]); all_goals exact rfl) : p := Eq.mpr h hq
end
section
open Go Go.RowKit Go.ChangeShapes Go.WideShapes
theorem All2.app' {α β : Type} {R : α → β → Prop} {a c : List α} {b d : List β} (h1 : All2 R a b) (h2 : All2 R c d) : All2 R (a ++ c) (b ++ d) := by
  induction h1 with
  | nil => exact h2
  | cons h _ ih => exact .cons h ih
def okV : Option IntKind → Value → Prop
  | none, v => ∃ b, v = .bool b
  | some k, v => ∃ n, v = .int k n ∧ (Lit.int k n).wf = true
theorem All2.split {α β : Type} {R : α → β → Prop} {a b : List α} {l : List β} (h : All2 R (a ++ b) l) : ∃ l1 l2, l = l1 ++ l2 ∧ All2 R a l1 ∧ All2 R b l2 := by
  refine ⟨l.take a.length, l.drop a.length, (List.take_append_drop _ _).symm, ?_, ?_⟩
  · have := h.take a.length; rwa [List.take_left' rfl] at this
  have := h.drop a.length; rwa [List.drop_left' rfl] at this
section
variable {H : Type} {enc : TypeId × Value → H} {P : Program} {w : World} {base : Nat} {sp : Nat → Bool} {held : Bool}
theorem flatFs_ok {K : TypeId → Option (List (Option IntKind))} {cs : List Value} : ∀ (fs : List Field) (off : Nat) (ks : List (Option IntKind)), flatFs K off fs = some ks →
    (∀ f ∈ fs, ∀ k1, K f.type = some k1 → All2 okV k1 ((cs.drop f.offset).take (P.cellsOf f.type))) → All2 okV ks ((cs.drop off).take ks.length) := by
  intro fs
  induction fs with
  | nil => intro off ks h _; cases h; exact .nil
  | cons f fs ih =>
    intro off ks h hf
    unfold flatFs at h
    split at h
    · cases h
    rename_i hn
    have hoff : f.offset = off := Decidable.byContradiction fun e => hn (.inr e)
    split at h
    · rename_i k1 hk1
      simp only [Option.map_eq_some_iff] at h
      obtain ⟨k2, hk2, rfl⟩ := h
      have h1 := hf f (List.mem_cons_self ..) k1 hk1
      rw [hoff] at h1
      have hl := h1.length
      have hc : (cs.drop off).take k1.length = (cs.drop off).take (P.cellsOf f.type) := by
        have e : ((cs.drop off).take (P.cellsOf f.type)).take k1.length = (cs.drop off).take (P.cellsOf f.type) := List.take_of_length_le (by omega)
        rw [List.take_take] at e
        have hle : k1.length ≤ P.cellsOf f.type := by rw [hl, List.length_take]; omega
        rw [Nat.min_eq_left hle] at e
        exact e
      have h2 := ih (off + k1.length) k2 hk2 fun g hg => hf g (List.mem_cons_of_mem _ hg)
      rw [List.length_append, List.take_add, hc, List.drop_drop]
      exact h1.app' h2
    cases h
theorem flat_trod : ∀ (d : Nat) {t : TypeId} {ks : List (Option IntKind)} {fuel : Nat} {cs : List Value} {x : DataW H × List MemPlace}, flatK P d t = some ks → DataW.trod enc P w base sp held fuel t cs = some x → All2 okV ks cs := by
  intro d
  induction d with
  | zero => intro t ks fuel cs x h; cases h
  | succ d ih =>
    intro t ks fuel cs x h hx
    unfold flatK at h
    split at h
    · cases h
    split at h
    · rename_i hu
      cases h
      obtain ⟨b, rfl, _⟩ := DataW.trod_bool hu hx
      exact .cons ⟨b, rfl⟩ .nil
    · rename_i k hu
      cases h
      obtain ⟨n, rfl, _, hw⟩ := DataW.trod_int hu hx
      exact .cons ⟨n, rfl, hw⟩ .nil
    · rename_i n e hu
      split at h
      · rename_i k1 hk1
        split at h
        · rename_i hc
          cases h
          obtain ⟨xs, m, _, _, hlen, hxl, hall⟩ := DataW.trod_array hu hx
          have key : ∀ j, j ≤ n → All2 okV (List.replicate j k1).flatten (cs.take (j * k1.length)) := by
            intro j
            induction j with
            | zero => intro _; simp only [List.replicate_zero, List.flatten_nil, Nat.zero_mul, List.take_zero]; exact .nil
            | succ j ihj =>
              intro hj
              have h1 := ihj (by omega)
              have hq := hall j (by omega)
              rw [List.getElem?_eq_getElem (by omega)] at hq
              have h2 := ih hk1 hq
              rw [hc.1] at h2
              rw [show List.replicate (j + 1) k1 = List.replicate j k1 ++ [k1] by rw [List.replicate_succ'], List.flatten_append, Nat.succ_mul, List.take_add]
              simp only [List.flatten_cons, List.flatten_nil, List.append_nil]
              exact h1.app' h2
          have := key n (Nat.le_refl _)
          rwa [List.take_of_length_le (by rw [hlen, hc.2]; omega)] at this
        cases h
      cases h
    · rename_i fs hu
      split at h
      · cases h
      split at h
      · rename_i k1 hk1
        split at h
        · rename_i hc
          cases h
          obtain ⟨xs, m, _, _, hlen, hxl, hall⟩ := DataW.trod_struct hu hx
          have := flatFs_ok (P := P) (cs := cs) fs.toList 0 _ hk1 fun f hf kf hkf => by
            obtain ⟨i, hi⟩ := List.mem_iff_getElem?.1 hf
            have hi' : fs[i]? = some f := by simpa using hi
            have hlt : i < fs.size := by
              have := (List.getElem?_eq_some_iff.1 hi).1; simpa using this
            have hq := hall i f hi'
            rw [List.getElem?_eq_getElem (by omega)] at hq
            exact ih hkf hq
          rw [List.drop_zero, List.take_of_length_le (by omega)] at this
          exact this
        cases h
      cases h
    cases h
end
def i64B (n : Int) : Prop := -9223372036854775808 ≤ n ∧ n ≤ 9223372036854775807
theorem i64_wf {n : Int} (h : (Lit.int .i64 n).wf = true) : i64B n := by
  simp only [Lit.wf, Bool.and_eq_true, decide_eq_true_eq] at h
  have e1 : IntKind.i64.min = -9223372036854775808 := by kernel_rfl
  have e2 : IntKind.i64.max = 9223372036854775807 := by kernel_rfl
  rw [e1, e2] at h
  exact h
theorem rel_vals {g : Gh} : ∀ {us : List Value}, (∀ u ∈ us, scalar u = true) → All2 (RelC g) (us.map C.val) us
  | [], _ => .nil
  | u :: us, h => .cons ⟨h u (List.mem_cons_self ..), rfl⟩ (rel_vals fun v hv => h v (List.mem_cons_of_mem _ hv))
theorem okW_scalar {k : Option IntKind} {v : Value} (h : okV k v) : scalar v = true := by
  cases k with
  | none => obtain ⟨b, rfl⟩ := h; rfl
  | some k => obtain ⟨n, rfl, _⟩ := h; rfl
theorem okW_all {ks : List (Option IntKind)} {vs : List Value} (h : All2 okV ks vs) : ∀ v ∈ vs, scalar v = true := by
  induction h with
  | nil => intro v hv; cases hv
  | cons h _ ih => intro v hv; rcases List.mem_cons.1 hv with rfl | hv
                   · exact okW_scalar h
                   exact ih v hv
theorem flat_row {α : Type} {sz : Nat} : ∀ (L : List (List α)), (∀ r ∈ L, r.length = sz) → L.flatten.length = L.length * sz ∧ ∀ (j i : Nat), i < sz → L.flatten[j * sz + i]? = (L[j]?).bind (·[i]?)
  | [], _ => ⟨by simp, fun j i _ => by simp⟩
  | r :: L, h => by
    obtain ⟨h1, h2⟩ := flat_row L fun r hr => h r (List.mem_cons_of_mem _ hr)
    have hr := h r (List.mem_cons_self ..)
    refine ⟨by simp only [List.flatten_cons, List.length_append, h1, hr, List.length_cons, Nat.succ_mul]; omega, fun j i hi => ?_⟩
    rw [List.flatten_cons]
    cases j with
    | zero => rw [Nat.zero_mul, Nat.zero_add, List.getElem?_append_left (by omega)]; simp
    | succ j =>
      rw [List.getElem?_append_right (by rw [Nat.succ_mul]; omega), show (j + 1) * sz + i - r.length = j * sz + i by rw [Nat.succ_mul]; omega, h2 j i hi]
      simp
theorem open_flats {H : Type} {enc : TypeId × Value → H} {P : Program} {W : World} {t e : TypeId} {ks : List (Option IntKind)} {v : Value} {d : DataW H} {ps : List MemPlace} {r : Reach} {b0 sz : Nat}
    (hu : P.underlying t = some (.slice e)) (hk : flatK P 8 e = some ks) (hsz : ks.length = sz) (h0 : 0 < sz)
    (hv : Value.okWide P W r b0 t v) (h : DataW.Trod enc P W 0 (fun _ => true) true t v d ps) :
    ∃ L : List (List Value), (∀ q ∈ L, All2 okV ks q) ∧ L.length ≤ maxLen ∧ RelW (ghOf W) (.c (.lst .no none sz (L.flatten.map D.val))) v := by
  obtain ⟨a, len, cap, rfl⟩ := okWide_slice hu hv
  obtain ⟨fuel, hf⟩ := h
  rcases Go.Deep.open_slice hu hf with ⟨hcs, _⟩ | ⟨x, l, c, m, n, D', Pl, hcs, _, hl, hm, hmm, _, hx⟩
  · simp [Value.cells] at hcs
    obtain ⟨rfl, rfl, rfl⟩ := hcs
    exact ⟨[], by simp, by simp, ⟨RelD.nil (by simp) h0, trivial⟩⟩
  simp [Value.cells] at hcs
  obtain ⟨rfl, rfl, rfl⟩ := hcs
  have hlm : len ≤ m := by rw [hmm]; simp only [if_true]; exact hl
  have hV : ∀ i, i < len → ∃ cs' : List Value, (∀ j, j < sz → W.cell? (x.add (i * sz + j)) = cs'[j]?) ∧ All2 okV ks cs' := by
    intro i hi
    obtain ⟨cs', h1, h2⟩ := hx i (by omega)
    have h3 := flat_trod 8 hk h2
    obtain ⟨_, h4, h5⟩ := World.cells?_some h1
    have h6 : P.cellsOf e = sz := by rw [← h4, ← h3.length, hsz]
    rw [h6] at h5
    refine ⟨cs', fun j hj => ?_, h3⟩
    rw [← add_of_add]
    exact h5 j hj
  obtain ⟨V, hV⟩ := Go.Deep.choose_lt hV
  have hL : ∀ q ∈ (List.range len).map V, All2 okV ks q := by
    intro q hq
    simp only [List.mem_map, List.mem_range] at hq
    obtain ⟨i, hi, rfl⟩ := hq
    exact (hV i hi).2
  have hl2 : ∀ q ∈ (List.range len).map V, q.length = sz := fun q hq => by rw [← (hL q hq).length, hsz]
  obtain ⟨f1, f2⟩ := flat_row _ hl2
  rw [List.length_map, List.length_range] at f1
  refine ⟨(List.range len).map V, hL, by simp; omega, ⟨RelD.mk (by simp) h0 (by simp only [List.length_map, f1]) hl hm ?_, trivial⟩⟩
  intro i dd hi
  rw [List.getElem?_map, Option.map_eq_some_iff] at hi
  obtain ⟨u, hu2, rfl⟩ := hi
  have hlt := (List.getElem?_eq_some_iff.1 hu2).1
  rw [f1] at hlt
  have e1 : i / sz * sz + i % sz = i := by rw [Nat.mul_comm]; exact Nat.div_add_mod i sz
  have e2 : i / sz < len := Nat.div_lt_of_lt_mul (by rw [Nat.mul_comm]; exact hlt)
  have e3 : i % sz < sz := Nat.mod_lt _ h0
  have h7 := f2 (i / sz) (i % sz) e3
  rw [e1, hu2] at h7
  have h8 := (hV _ e2).1 _ e3
  rw [e1] at h8
  rw [List.getElem?_map, List.getElem?_range e2] at h7
  simp only [Option.map_some, Option.bind_some] at h7
  refine ⟨u, by rw [show (ghOf W).M = fun a => W.cell? a from rfl]; dsimp only; rw [h8, ← h7], .val ?_⟩
  exact okW_all (hV _ e2).2 u (List.mem_of_getElem? h7.symm)
/-- one struct (or array) of numbers -/
theorem open_flat {H : Type} {enc : TypeId × Value → H} {P : Program} {W : World} {t : TypeId} {ks : List (Option IntKind)} {cs : Array Value} {d : DataW H} {ps : List MemPlace}
    (hk : flatK P 8 t = some ks) (h : DataW.Trod enc P W 0 (fun _ => true) true t (.agg cs) d ps) : All2 okV ks cs.toList ∧ RelW (ghOf W) (.agg (cs.toList.map C.val)) (.agg cs) := by
  obtain ⟨fuel, hf⟩ := h
  have := flat_trod 8 hk hf
  exact ⟨this, ⟨cs, rfl, rel_vals (okW_all this)⟩⟩
end
section
theorem shr64_nat (a : UInt64) (k : Nat) : (shr64 a k).toNat = a.toNat / 2 ^ k := by
  have := a.toNat_lt
  unfold shr64
  rw [UInt64.toNat_ofNat', Nat.mod_eq_of_lt]
  exact Nat.lt_of_le_of_lt (Nat.div_le_self _ _) this
/-- a number in digits of seven bits, the lowest first -/
def num (a : UInt64) : List UInt8 := if 128 ≤ a.toNat then or8 (c64to8 a) (UInt8.ofNat 128) :: num (shr64 a 7) else [c64to8 a]
termination_by a.toNat
decreasing_by rw [shr64_nat]; omega
theorem num_more {a : UInt64} (h : 128 ≤ a.toNat) : num a = or8 (c64to8 a) (UInt8.ofNat 128) :: num (shr64 a 7) := by rw [num, if_pos h]
theorem num_last {a : UInt64} (h : ¬ 128 ≤ a.toNat) : num a = [c64to8 a] := by rw [num, if_neg h]
theorem num_len' : ∀ (k : Nat) (a : UInt64), a.toNat < 128 ^ (k + 1) → 1 ≤ (num a).length ∧ (num a).length ≤ k + 1
  | 0, a, h => by rw [num_last (by simp at h; omega)]; simp
  | k + 1, a, h => by
    by_cases h1 : 128 ≤ a.toNat
    · rw [num_more h1]
      have := num_len' k (shr64 a 7) (by rw [shr64_nat, Nat.pow_succ] at *; omega)
      simp; omega
    rw [num_last h1]; simp
theorem num_len (a : UInt64) : 1 ≤ (num a).length ∧ (num a).length ≤ 10 := num_len' 9 a (by have := a.toNat_lt; omega)
/-- both signs -/
def zz (v : Int) : UInt64 := UInt64.ofNat (if 0 ≤ v then 2 * v else -2 * v - 1).toNat
theorem zz_nat {v : Int} (h1 : -9223372036854775808 ≤ v) (h2 : v ≤ 9223372036854775807) : ((zz v).toNat : Int) = if 0 ≤ v then 2 * v else -2 * v - 1 := by
  unfold zz
  rw [UInt64.toNat_ofNat']
  split <;> omega
def ofI (n : Int) : UInt64 := UInt64.ofNat (n % 18446744073709551616).toNat
theorem ofI_nat (n : Int) : ((ofI n).toNat : Int) = n % 18446744073709551616 := by
  unfold ofI
  rw [UInt64.toNat_ofNat']
  omega
theorem wrap_i64g (n : Int) : IntKind.i64.wrap n = (n + 9223372036854775808) % 18446744073709551616 - 9223372036854775808 := by
  simp [IntKind.wrap, IntKind.bits, IntKind.signed]; omega
section
variable {V' : V → Prop} {k k' : IntKind} {a b : Int}
@[go_sem ↓ 1050] theorem cv_i_64g (n : Int) : aCv (some .u64) n V' = V' (.int .u64 (U64 (ofI n))) := by
  have e : IntKind.u64.wrap n = U64 (ofI n) := by rw [wrap_u64_]; unfold U64; rw [ofI_nat]
  rw [← e]; rfl
@[go_sem ↓ 1150] theorem e_shl1 : aInt .shl .i64 a k' 1 V' = V' (.int .i64 (IntKind.i64.wrap (a * 2))) := by rw [e_shl (by decide)]; rfl
@[go_sem ↓ 1150] theorem e_shr63 : aInt .shr .i64 a k' 63 V' = V' (.int .i64 (a / 9223372036854775808)) := by
  rw [e_shr (by decide)]
  have e : a.fdiv (2 ^ min (63 : Int).toNat IntKind.i64.bits) = a / 9223372036854775808 := Int.fdiv_eq_ediv_of_nonneg a (by decide)
  rw [e]
def ofI8 (n : Int) : UInt8 := UInt8.ofNat (n % 256).toNat
theorem ofI8_nat (n : Int) : ((ofI8 n).toNat : Int) = n % 256 := by
  unfold ofI8
  rw [UInt8.toNat_ofNat']
  omega
@[go_sem ↓ 1050] theorem cv_i_8g (n : Int) : aCv (some .u8) n V' = V' (.int .u8 (U8 (ofI8 n))) := by
  have e : IntKind.u8.wrap n = U8 (ofI8 n) := by rw [wrap_u8_]; unfold U8; rw [ofI8_nat]
  rw [← e]; rfl
def ofI32 (n : Int) : UInt32 := UInt32.ofNat (n % 4294967296).toNat
theorem ofI32_nat (n : Int) : ((ofI32 n).toNat : Int) = n % 4294967296 := by
  unfold ofI32
  rw [UInt32.toNat_ofNat']
  omega
@[go_sem ↓ 1050] theorem cv_i_32g (n : Int) : aCv (some .u32) n V' = V' (.int .u32 (U32 (ofI32 n))) := by
  have e : IntKind.u32.wrap n = U32 (ofI32 n) := by rw [wrap_u32_]; unfold U32; rw [ofI32_nat]
  rw [← e]; rfl
end
theorem not64_nat (x : UInt64) : (xor64 x (ofI (-1))).toNat = 18446744073709551615 - x.toNat := by
  have e : ofI (-1) = 0 - 1 := by decide
  rw [e]
  have e1 : xor64 x (0 - 1) = ~~~ x := by
    unfold xor64
    rw [← UInt64.toBitVec_inj, UInt64.toBitVec_xor, UInt64.toBitVec_not, BitVec.xor_comm]; exact BitVec.allOnes_xor
  rw [e1, UInt64.toNat_not]
  rfl
theorem xor64_0 (x : UInt64) : xor64 x (ofI 0) = x := by
  have e : ofI 0 = 0 := by decide
  rw [e]; unfold xor64; simp
theorem zz_eq {v : Int} (h1 : -9223372036854775808 ≤ v) (h2 : v ≤ 9223372036854775807) : xor64 (ofI (IntKind.i64.wrap (v * 2))) (ofI (v / 9223372036854775808)) = zz v := by
  rw [← UInt64.toNat_inj, ← Int.ofNat_inj, zz_nat h1 h2]
  have e := ofI_nat (IntKind.i64.wrap (v * 2))
  rw [wrap_i64g] at e
  by_cases h : 0 ≤ v
  · have : v / 9223372036854775808 = 0 := by omega
    rw [this, xor64_0, wrap_i64g, if_pos h, e]; omega
  have : v / 9223372036854775808 = -1 := by omega
  rw [this, not64_nat, wrap_i64g, if_neg h]
  omega
theorem mul2 (x : Int) : ((mul64 (UInt64.ofNat 2) (ofI x)).toNat : Int) = 2 * x % 18446744073709551616 := by
  unfold mul64
  rw [UInt64.toNat_mul]
  have := ofI_nat x
  have e : (UInt64.ofNat 2).toNat = 2 := by decide
  rw [e]
  omega
theorem zz_ref0 {v : Int} (h1 : 0 ≤ v) (h2 : v ≤ 9223372036854775807) : mul64 (UInt64.ofNat 2) (ofI v) = zz v := by
  rw [← UInt64.toNat_inj, ← Int.ofNat_inj, zz_nat (by omega) h2, mul2, if_pos h1]; omega
theorem zz_ref1' {v : Int} (h1 : -9223372036854775808 ≤ v) (h2 : v < 0) : add64 (mul64 (UInt64.ofNat 2) (UInt64.ofNat (0 - (v + 1)).toNat)) (UInt64.ofNat 1) = zz v := by
  rw [← UInt64.toNat_inj, ← Int.ofNat_inj, zz_nat h1 (by omega), if_neg (by omega)]
  unfold add64 mul64
  have e : (UInt64.ofNat 1).toNat = 1 := by decide
  have e2 : (UInt64.ofNat 2).toNat = 2 := by decide
  rw [UInt64.toNat_add, UInt64.toNat_mul, e, e2, UInt64.toNat_ofNat']
  omega
/-! ### digits -/
theorem c64to8_nat (x : UInt64) : (c64to8 x).toNat = x.toNat % 256 := by
  unfold c64to8; simp
theorem or128_nat (x : UInt8) : (or8 x (UInt8.ofNat 128)).toNat = x.toNat % 128 + 128 := by
  have h : ∀ x : Fin 256, (UInt8.ofNat x.val ||| UInt8.ofNat 128).toNat = x.val % 128 + 128 := by decide +kernel
  have := h ⟨x.toNat, x.toNat_lt⟩
  simp only [UInt8.ofNat_toNat] at this
  unfold or8
  exact this
theorem and127_64 (x : UInt64) : (and64 x (UInt64.ofNat 127)).toNat = x.toNat % 128 := by
  unfold and64
  rw [UInt64.toNat_and]
  have e : (UInt64.ofNat 127).toNat = 2 ^ 7 - 1 := by decide
  rw [e, Nat.and_two_pow_sub_one_eq_mod]
theorem dig_ref (x : UInt64) : or8 (c64to8 (and64 x (UInt64.ofNat 127))) (UInt8.ofNat 128) = or8 (c64to8 x) (UInt8.ofNat 128) := by
  rw [← UInt8.toNat_inj, or128_nat, or128_nat, c64to8_nat, c64to8_nat, and127_64]
  omega
/-! ### common rules -/
section
variable {P : Program} {V' : V → Prop} {k : IntKind} {a : Int} {t : TypeId}
/-! ### an item of an array -/
def aIxA (P : Program) (q : Option (Option Nat × TypeId × Nat)) (cs : List C) (i : Int) (K : V → Prop) : Prop :=
  match q with
  | some (some n, e, sz) => 0 ≤ i ∧ i < n ∧ aPt (isAggT P e) sz cs (i.toNat * sz) K
  | _ => False
@[congr] theorem cg_aIxA {q q' : Option (Option Nat × TypeId × Nat)} {cs : List C} (h : q = q') : aIxA P q cs a V' = aIxA P q' cs a V' := by rw [h]
@[go_sem ↓] theorem e_ixA {cs : List C} : aIndex P t (.w (.agg cs)) (V.int k a) V' = aIxA P (idxT P t) cs a V' := by
  unfold aIndex aIxA
  simp only
  cases h : idxT P t with
  | none => simp
  | some q =>
    obtain ⟨l, e, sz⟩ := q
    cases l with
    | none => simp
    | some n => simp only [Option.some.injEq, Prod.mk.injEq]; exact propext ⟨fun ⟨_, _, _, ⟨h1, h2, h3⟩, h4⟩ => by subst h1; subst h2; subst h3; exact h4, fun h => ⟨_, _, _, ⟨rfl, rfl, rfl⟩, h⟩⟩
@[go_sem ↓] theorem e_ixA1 {cs : List C} {n e sz : Nat} (h0 : 0 ≤ a) (h1 : a < n) : aIxA P (some (some n, e, sz)) cs a V' = aPt (isAggT P e) sz cs (a.toNat * sz) V' := by simp [aIxA, h0, h1]
@[go_sem ↓] theorem e_ldbox {P : Program} {t : TypeId} {i : Id} {o : Nat} {s : St} {V' : V → Prop} : aLoadBox P t (.cell (.ptr i o)) s V' = ∃ cs, hget s.heap i = some cs ∧ ∃ sz, sizeT P t = some sz ∧ aPart P t sz cs o V' := by
  simp only [aLoadBox]
  exact propext ⟨fun ⟨a, b, h1, h2, h3⟩ => ⟨a, h1, b, h2, h3⟩, fun ⟨a, h1, b, h2, h3⟩ => ⟨a, b, h1, h2, h3⟩⟩
end
section
variable {P : Program} {t : TypeId} {a b : Bool} {V' : V → Prop}
@[go_sem ↓] theorem e_eqBo : aBin P .eql t (V.bool a) (V.bool b) V' = (isBoolT P t = true ∧ V' (.bool (a == b))) := nr rfl
attribute [go_sem] bne_self_eq_false beq_self_eq_true Bool.not_true Bool.not_false
end
/-! ### copy -/
def aCp (q : Option (Option Nat × TypeId × Nat)) (i : Id) (off n : Nat) (x : V) (s : St) (K : V → St → Prop) : Prop :=
  match q with
  | some (none, _, 1) => ∃ cs, hget s.heap i = some cs ∧ aSrc 1 x s fun ys => off + min ys.length n ≤ cs.length ∧ K (.int .i64 (min ys.length n : Nat)) ⟨s.slots, hset s.heap i (spl cs off ((ys.take n).map D.toC))⟩
  | _ => False
section
variable {P : Program} {t : TypeId} {i : Id} {off n c : Nat} {x : V} {s : St} {K : V → St → Prop}
@[congr] theorem cg_aCp {q q' : Option (Option Nat × TypeId × Nat)} {s' : St} (h : q = q') (h2 : s = s') : aCp q i off n x s K = aCp q' i off n x s' K := by rw [h, h2]
end
/-! ### digits -/
end
section
/-- a state -/
structure Sta where
  frame : Int
  cells : List Int
  seed : UInt32
  over : Bool
  win : Int
  len : cells.length = 16
theorem Sta.ext' {a b : Sta} (h1 : a.frame = b.frame) (h2 : a.cells = b.cells) (h3 : a.seed = b.seed) (h4 : a.over = b.over) (h5 : a.win = b.win) : a = b := by
  cases a; cases b; simp_all
def c32 (l : List Int) : List D := l.map fun n => .val (.int .i32 n)
def sd (s : Sta) : List D := .val (.int .i64 s.frame) :: (c32 s.cells ++ [.val (.int .u32 (U32 s.seed)), .val (.bool s.over), .val (.int .i64 s.win)])
def sds (l : List Sta) : List D := (l.map sd).flatten
/-- nothing but a frame and a seed -/
def stz (f : Int) (n : UInt32) : Sta := ⟨f, List.replicate 16 0, n, false, 0, rfl⟩
@[go_sem] theorem c32_len {l : List Int} : (c32 l).length = l.length := by simp [c32]
@[go_sem] theorem sd_len {s : Sta} : (sd s).length = 20 := by simp [sd, c32, s.len]
theorem sds_cons {s : Sta} {l : List Sta} : sds (s :: l) = sd s ++ sds l := by simp [sds]
@[go_sem] theorem sds_len {l : List Sta} : (sds l).length = l.length * 20 := by
  induction l with
  | nil => rfl
  | cons s l ih => rw [sds_cons, List.length_append, sd_len, ih, List.length_cons]; omega
@[go_sem] theorem sds_app1 {a : List Sta} {s : Sta} : sds a ++ sd s = sds (a ++ [s]) := by simp [sds]
theorem sds_drop (l : List Sta) (k : Nat) : (sds l).drop (k * 20) = sds (l.drop k) := by
  induction l generalizing k with
  | nil => simp [sds]
  | cons s l ih =>
    cases k with
    | zero => simp [sds]
    | succ k => rw [sds_cons, List.drop_succ_cons, List.drop_append, sd_len, List.drop_eq_nil_of_le (by rw [sd_len]; omega), show (k + 1) * 20 - 20 = k * 20 by omega, ih]; rfl
theorem sds_at {l : List Sta} {k : Nat} (h : k < l.length) (d : Sta) : (sds l).drop (k * 20) = sd (l.getD k d) ++ sds (l.drop (k + 1)) := by
  rw [sds_drop, List.drop_eq_getElem_cons h, sds_cons]
  simp [List.getD, h]
section
variable {P : Program} {V' : V → Prop} {K : C → Prop} {s : Sta} {l : List Sta} {r : List D} {o : Own} {nl : Option Bool} {k : IntKind} {a b : Int} {t : TypeId} {i j : Nat}
/-! ### a state's cells -/
theorem sd17 : (sd s)[17]? = some (.val (.int .u32 (U32 s.seed))) := by
  unfold sd
  rw [List.getElem?_cons_succ, List.getElem?_append_right (by simp [c32, s.len])]
  simp [c32, s.len]
theorem sd18 : (sd s)[18]? = some (.val (.bool s.over)) := by
  unfold sd
  rw [List.getElem?_cons_succ, List.getElem?_append_right (by simp [c32, s.len])]
  simp [c32, s.len]
theorem sd19 : (sd s)[19]? = some (.val (.int .i64 s.win)) := by
  unfold sd
  rw [List.getElem?_cons_succ, List.getElem?_append_right (by simp [c32, s.len])]
  simp [c32, s.len]
theorem ex_some {α : Type} {q : Option α} {x : α} {K : α → Prop} (h : q = some x) : (∃ c, q = some c ∧ K c) = K x := by subst h; simp
@[go_sem ↓ 1200] theorem m_sd0 : (∃ c, ((sd s).map D.toC)[0]? = some c ∧ K c) = K (.val (.int .i64 s.frame)) := ex_some rfl
@[go_sem ↓ 1200] theorem m_sd17 : (∃ c, ((sd s).map D.toC)[17]? = some c ∧ K c) = K (.val (.int .u32 (U32 s.seed))) := ex_some (by rw [List.getElem?_map, sd17]; rfl)
@[go_sem ↓ 1200] theorem m_sd18 : (∃ c, ((sd s).map D.toC)[18]? = some c ∧ K c) = K (.val (.bool s.over)) := ex_some (by rw [List.getElem?_map, sd18]; rfl)
@[go_sem ↓ 1200] theorem m_sd19 : (∃ c, ((sd s).map D.toC)[19]? = some c ∧ K c) = K (.val (.int .i64 s.win)) := ex_some (by rw [List.getElem?_map, sd19]; rfl)
theorem toC_take {xs : List D} {n : Nat} : (xs.map D.toC).take n = (xs.take n).map D.toC := by simp
theorem toC_drop {xs : List D} {n : Nat} : (xs.map D.toC).drop n = (xs.drop n).map D.toC := by simp
/-- the whole of it -/
@[go_sem ↓ 1200] theorem p_sd : aPt (some true) 20 ((sd s).map D.toC) 0 V' = V' (.w (.agg ((sd s).map D.toC))) := by
  simp only [aPt, List.length_map, sd_len, List.drop_zero]
  rw [List.take_of_length_le (by simp [sd_len])]
  simp
@[go_sem ↓ 1200] theorem p_sc : aPt (some true) 16 ((sd s).map D.toC) 1 V' = V' (.w (.agg ((c32 s.cells).map D.toC))) := by
  simp only [aPt, List.length_map, sd_len]
  rw [toC_drop, toC_take]
  have : ((sd s).drop 1).take 16 = c32 s.cells := by
    unfold sd
    rw [List.drop_succ_cons, List.drop_zero, List.take_left' (by simp [c32, s.len])]
  rw [this]
  simp
@[go_sem ↓ 1200] theorem p_c32 {l : List Int} (h : i < l.length) : (∃ c, ((c32 l).map D.toC)[i]? = some c ∧ K c) = K (.val (.int .i32 (l.getD i 0))) :=
  ex_some (by simp [c32, h, D.toC])
/-! ### rows of states -/
@[go_sem ↓ 1200] theorem e_IAs {d : Sta} (h0 : 0 ≤ a) (h1 : a < l.length) : aIA (some (none, t, 20)) (.cell (.lst o nl 20 (sds l))) a V' = V' (.cell (.mem (sd (l.getD a.toNat (stz 0 0)) ++ sds (l.drop (a.toNat + 1))))) := by
  have h2 : a.toNat < l.length := by omega
  rw [← sds_at h2]
  simp only [aIA, sds_len, h0, true_and]
  have : a * ((20 : Nat) : Int) < ((l.length * 20 : Nat) : Int) := by omega
  simp only [this, true_and]
@[go_sem ↓ 1200] theorem e_lens : aLen P t (.cell (.lst o nl 20 (sds l))) V' = (isSlcT P t = true ∧ V' (.int .i64 l.length)) := by
  simp only [aLen, sds_len, Nat.mul_div_cancel _ (show 0 < 20 by omega)]
def slB20 (q : Option (Option Nat × TypeId × Nat)) : Prop := match q with
  | some (none, _, 20) => True
  | _ => False
@[congr] theorem cg_slB20 {q q' : Option (Option Nat × TypeId × Nat)} (h : q = q') : slB20 q = slB20 q' := by rw [h]
/-! ### states in a box -/
end
@[go_sem] theorem toC_len {xs : List D} : (xs.map D.toC).length = xs.length := by simp
@[go_sem] theorem t_sd {s : Sta} : (((sd s).map D.toC).drop 0).take 20 = (sd s).map D.toC := by
  rw [List.drop_zero, List.take_of_length_le (by simp [sd_len])]
@[go_sem] theorem t_sdr {s : Sta} {r : List D} : (((sd s ++ r).map D.toC).drop 0).take 20 = (sd s).map D.toC := by
  rw [List.drop_zero, toC_take, List.take_left' sd_len]
attribute [go_sem] List.length_append
theorem allD_map {xs : List D} : allD (xs.map D.toC) = some xs := by
  induction xs with
  | nil => rfl
  | cons x xs ih => rw [List.map_cons, e_aD, ih]; cases x <;> rfl
attribute [go_sem] allD_map
/-! ### states that are written down -/
@[go_sem 900] theorem f_stz {f z : Int} (h0 : 0 ≤ z) (h1 : z < 4294967296) : W.agg [.val (.int .i64 f), .val (.int .i32 0), .val (.int .i32 0), .val (.int .i32 0), .val (.int .i32 0), .val (.int .i32 0), .val (.int .i32 0), .val (.int .i32 0), .val (.int .i32 0), .val (.int .i32 0), .val (.int .i32 0), .val (.int .i32 0), .val (.int .i32 0), .val (.int .i32 0), .val (.int .i32 0), .val (.int .i32 0), .val (.int .i32 0), .val (.int .u32 z), .val (.bool false), .val (.int .i64 0)] = W.agg ((sd (stz f (UInt32.ofNat z.toNat))).map D.toC) := by
  have : U32 (UInt32.ofNat z.toNat) = z := by unfold U32; rw [UInt32.toNat_ofNat']; omega
  unfold sd stz
  rw [this]
  rfl
@[go_sem] theorem f_stzU {f : Int} {n : UInt32} : W.agg [.val (.int .i64 f), .val (.int .i32 0), .val (.int .i32 0), .val (.int .i32 0), .val (.int .i32 0), .val (.int .i32 0), .val (.int .i32 0), .val (.int .i32 0), .val (.int .i32 0), .val (.int .i32 0), .val (.int .i32 0), .val (.int .i32 0), .val (.int .i32 0), .val (.int .i32 0), .val (.int .i32 0), .val (.int .i32 0), .val (.int .i32 0), .val (.int .u32 (U32 n)), .val (.bool false), .val (.int .i64 0)] = W.agg ((sd (stz f n)).map D.toC) := nr rfl
@[go_sem] theorem f_stz0 {f : Int} : W.agg [.val (.int .i64 f), .val (.int .i32 0), .val (.int .i32 0), .val (.int .i32 0), .val (.int .i32 0), .val (.int .i32 0), .val (.int .i32 0), .val (.int .i32 0), .val (.int .i32 0), .val (.int .i32 0), .val (.int .i32 0), .val (.int .i32 0), .val (.int .i32 0), .val (.int .i32 0), .val (.int .i32 0), .val (.int .i32 0), .val (.int .i32 0), .val (.int .u32 0), .val (.bool false), .val (.int .i64 0)] = W.agg ((sd (stz f 0)).map D.toC) := nr rfl
theorem spl_sd' {x : Sta} {y : Sta} {l : List C} (h : l = (sd y).map D.toC) : spl ((sd x).map D.toC) 0 l = (sd y).map D.toC := by
  rw [h, spl_eq (by simp [sd_len]), List.take_zero, List.nil_append, List.drop_eq_nil_of_le (by simp [sd_len]), List.append_nil]
@[go_sem 1150] theorem spl_stz {x : Sta} {f z : Int} (h0 : 0 ≤ z) (h1 : z < 4294967296) : spl ((sd x).map D.toC) 0 [.val (.int .i64 f), .val (.int .i32 0), .val (.int .i32 0), .val (.int .i32 0), .val (.int .i32 0), .val (.int .i32 0), .val (.int .i32 0), .val (.int .i32 0), .val (.int .i32 0), .val (.int .i32 0), .val (.int .i32 0), .val (.int .i32 0), .val (.int .i32 0), .val (.int .i32 0), .val (.int .i32 0), .val (.int .i32 0), .val (.int .i32 0), .val (.int .u32 z), .val (.bool false), .val (.int .i64 0)] = (sd (stz f (UInt32.ofNat z.toNat))).map D.toC := by
  have : U32 (UInt32.ofNat z.toNat) = z := by unfold U32; rw [UInt32.toNat_ofNat']; omega
  refine spl_sd' ?_
  unfold sd stz
  rw [this]
  rfl
@[go_sem 1200] theorem spl_stzU {x : Sta} {f : Int} {n : UInt32} : spl ((sd x).map D.toC) 0 [.val (.int .i64 f), .val (.int .i32 0), .val (.int .i32 0), .val (.int .i32 0), .val (.int .i32 0), .val (.int .i32 0), .val (.int .i32 0), .val (.int .i32 0), .val (.int .i32 0), .val (.int .i32 0), .val (.int .i32 0), .val (.int .i32 0), .val (.int .i32 0), .val (.int .i32 0), .val (.int .i32 0), .val (.int .i32 0), .val (.int .i32 0), .val (.int .u32 (U32 n)), .val (.bool false), .val (.int .i64 0)] = (sd (stz f n)).map D.toC := spl_sd' rfl
@[go_sem 1200] theorem spl_stz0 {x : Sta} {f : Int} : spl ((sd x).map D.toC) 0 [.val (.int .i64 f), .val (.int .i32 0), .val (.int .i32 0), .val (.int .i32 0), .val (.int .i32 0), .val (.int .i32 0), .val (.int .i32 0), .val (.int .i32 0), .val (.int .i32 0), .val (.int .i32 0), .val (.int .i32 0), .val (.int .i32 0), .val (.int .i32 0), .val (.int .i32 0), .val (.int .i32 0), .val (.int .i32 0), .val (.int .i32 0), .val (.int .u32 0), .val (.bool false), .val (.int .i64 0)] = (sd (stz f 0)).map D.toC := spl_sd' rfl
@[go_sem] theorem b_stz0 {i : Id} {f : Int} : ((i, [.val (.int .i64 f), .val (.int .i32 0), .val (.int .i32 0), .val (.int .i32 0), .val (.int .i32 0), .val (.int .i32 0), .val (.int .i32 0), .val (.int .i32 0), .val (.int .i32 0), .val (.int .i32 0), .val (.int .i32 0), .val (.int .i32 0), .val (.int .i32 0), .val (.int .i32 0), .val (.int .i32 0), .val (.int .i32 0), .val (.int .i32 0), .val (.int .u32 0), .val (.bool false), .val (.int .i64 0)]) : Id × List C) = (i, (sd (stz f 0)).map D.toC) := nr rfl
@[go_sem 1200] theorem spl_lit0 {f : Int} {y : Sta} : spl ([.val (.int .i64 f), .val (.int .i32 0), .val (.int .i32 0), .val (.int .i32 0), .val (.int .i32 0), .val (.int .i32 0), .val (.int .i32 0), .val (.int .i32 0), .val (.int .i32 0), .val (.int .i32 0), .val (.int .i32 0), .val (.int .i32 0), .val (.int .i32 0), .val (.int .i32 0), .val (.int .i32 0), .val (.int .i32 0), .val (.int .i32 0), .val (.int .u32 0), .val (.bool false), .val (.int .i64 0)] : List C) 0 ((sd y).map D.toC) = (sd y).map D.toC := spl_sd' (x := stz f 0) rfl
@[go_sem ↓ 1200] theorem spl_sd {x y : Sta} : spl ((sd x).map D.toC) 0 ((sd y).map D.toC) = (sd y).map D.toC := by
  rw [spl_eq (by simp [sd_len]), List.take_zero, List.nil_append, List.drop_eq_nil_of_le (by simp [sd_len]), List.append_nil]
end
section
theorem mixed : Tryz.prog.follows .mixedOrders = true := by kernel_rfl
@[go_sem] theorem ty2_known : knownT Tryz.prog 2 = true ∧ kindT Tryz.prog 2 = some .i64 := ⟨by kernel_rfl, by kernel_rfl⟩
@[go_sem] theorem ty3_size : sizeT Tryz.prog 3 = some 1 ∧ isAggT Tryz.prog 3 = some false ∧ knownT Tryz.prog 3 = true := ⟨by kernel_rfl, by kernel_rfl, by kernel_rfl⟩
@[go_sem] theorem ty4_size : sizeT Tryz.prog 4 = some 1 ∧ isAggT Tryz.prog 4 = some false ∧ isBoolT Tryz.prog 4 = true := ⟨by kernel_rfl, by kernel_rfl, by kernel_rfl⟩
@[go_sem] theorem ty5_kind : kindT Tryz.prog 5 = some .u8 ∧ bytesT Tryz.prog 5 = some 1 ∧ zeroC Tryz.prog 5 = some [.val (.int .u8 0)] := ⟨by kernel_rfl, by kernel_rfl, by kernel_rfl⟩
@[go_sem] theorem ty21_size : sizeT Tryz.prog 21 = some 1 ∧ isAggT Tryz.prog 21 = some false ∧ knownT Tryz.prog 21 = true ∧ kindT Tryz.prog 21 = some .i32 ∧ bytesT Tryz.prog 21 = some 4 ∧ zeroC Tryz.prog 21 = some [.val (.int .i32 0)] := ⟨by kernel_rfl, by kernel_rfl, by kernel_rfl, by kernel_rfl, by kernel_rfl, by kernel_rfl⟩
@[go_sem] theorem ty22_size : sizeT Tryz.prog 22 = some 1 ∧ isAggT Tryz.prog 22 = some false ∧ isSlcT Tryz.prog 22 = true ∧ idxT Tryz.prog 22 = some (none, 119, 2) := ⟨by kernel_rfl, by kernel_rfl, by kernel_rfl, by kernel_rfl⟩
@[go_sem] theorem ty24_size : sizeT Tryz.prog 24 = some 3 ∧ isAggT Tryz.prog 24 = some true ∧ fldT Tryz.prog 24 0 = some (0, 22, 1) ∧ fldT Tryz.prog 24 1 = some (1, 3, 1) ∧ fldT Tryz.prog 24 2 = some (2, 3, 1) ∧ layT Tryz.prog 24 = some (.str [(0, 1), (1, 1), (2, 1)]) ∧ zeroC Tryz.prog 24 = some [.lst .full (some true) 1 [], .val (.int .i64 0), .val (.int .i64 0)] := ⟨by kernel_rfl, by kernel_rfl, by kernel_rfl, by kernel_rfl, by kernel_rfl, by kernel_rfl, by kernel_rfl⟩
@[go_sem] theorem ty25_slc : isSlcT Tryz.prog 25 = true ∧ idxT Tryz.prog 25 = some (none, 71, 10) := ⟨by kernel_rfl, by kernel_rfl⟩
@[go_sem] theorem ty27_size : sizeT Tryz.prog 27 = some 1 ∧ isAggT Tryz.prog 27 = some false ∧ isSlcT Tryz.prog 27 = true ∧ idxT Tryz.prog 27 = some (none, 34, 6) := ⟨by kernel_rfl, by kernel_rfl, by kernel_rfl, by kernel_rfl⟩
@[go_sem] theorem ty28_ptr : isPtrT Tryz.prog 28 = true := by kernel_rfl
@[go_sem] theorem ty32_size : sizeT Tryz.prog 32 = some 1 ∧ isAggT Tryz.prog 32 = some false ∧ knownT Tryz.prog 32 = true ∧ bytesT Tryz.prog 32 = some 2 ∧ zeroC Tryz.prog 32 = some [.val (.int .u16 0)] := ⟨by kernel_rfl, by kernel_rfl, by kernel_rfl, by kernel_rfl, by kernel_rfl⟩
@[go_sem] theorem ty34_size : sizeT Tryz.prog 34 = some 6 ∧ isAggT Tryz.prog 34 = some true ∧ flatT Tryz.prog 34 = some (List.replicate 1 (some .i64) ++ List.replicate 1 (some .i64) ++ List.replicate 1 (some .i64) ++ List.replicate 1 (some .i64) ++ List.replicate 1 (some .u16) ++ List.replicate 1 (some .i64)) ∧ fldT Tryz.prog 34 0 = some (0, 3, 1) ∧ fldT Tryz.prog 34 1 = some (1, 3, 1) ∧ fldT Tryz.prog 34 2 = some (2, 3, 1) ∧ fldT Tryz.prog 34 3 = some (3, 3, 1) ∧ fldT Tryz.prog 34 4 = some (4, 32, 1) ∧ fldT Tryz.prog 34 5 = some (5, 3, 1) ∧ layT Tryz.prog 34 = some (.str [(0, 1), (1, 1), (2, 1), (3, 1), (4, 1), (5, 1)]) ∧ bytesT Tryz.prog 34 = some 48 ∧ zeroC Tryz.prog 34 = some [.val (.int .i64 0), .val (.int .i64 0), .val (.int .i64 0), .val (.int .i64 0), .val (.int .u16 0), .val (.int .i64 0)] ∧ allocC Tryz.prog 34 = some [.val (.int .i64 0), .val (.int .i64 0), .val (.int .i64 0), .val (.int .i64 0), .val (.int .u16 0), .val (.int .i64 0)] := ⟨by kernel_rfl, by kernel_rfl, by kernel_rfl, by kernel_rfl, by kernel_rfl, by kernel_rfl, by kernel_rfl, by kernel_rfl, by kernel_rfl, by kernel_rfl, by kernel_rfl, by kernel_rfl, by kernel_rfl⟩
@[go_sem] theorem ty36_size : sizeT Tryz.prog 36 = some 32 ∧ isAggT Tryz.prog 36 = some true ∧ flatT Tryz.prog 36 = some (List.replicate 32 (some .u8)) ∧ allocC Tryz.prog 36 = some [.val (.int .u8 0), .val (.int .u8 0), .val (.int .u8 0), .val (.int .u8 0), .val (.int .u8 0), .val (.int .u8 0), .val (.int .u8 0), .val (.int .u8 0), .val (.int .u8 0), .val (.int .u8 0), .val (.int .u8 0), .val (.int .u8 0), .val (.int .u8 0), .val (.int .u8 0), .val (.int .u8 0), .val (.int .u8 0), .val (.int .u8 0), .val (.int .u8 0), .val (.int .u8 0), .val (.int .u8 0), .val (.int .u8 0), .val (.int .u8 0), .val (.int .u8 0), .val (.int .u8 0), .val (.int .u8 0), .val (.int .u8 0), .val (.int .u8 0), .val (.int .u8 0), .val (.int .u8 0), .val (.int .u8 0), .val (.int .u8 0), .val (.int .u8 0)] := ⟨by kernel_rfl, by kernel_rfl, by kernel_rfl, by kernel_rfl⟩
@[go_sem] theorem ty38_size : sizeT Tryz.prog 38 = some 36 ∧ isAggT Tryz.prog 38 = some true ∧ flatT Tryz.prog 38 = some (List.replicate 1 (none) ++ List.replicate 1 (some .i64) ++ List.replicate 1 (some .i64) ++ List.replicate 1 (some .i64) ++ List.replicate 32 (some .u8)) ∧ fldT Tryz.prog 38 0 = some (0, 4, 1) ∧ fldT Tryz.prog 38 1 = some (1, 3, 1) ∧ fldT Tryz.prog 38 2 = some (2, 3, 1) ∧ fldT Tryz.prog 38 3 = some (3, 3, 1) ∧ fldT Tryz.prog 38 4 = some (4, 36, 32) ∧ layT Tryz.prog 38 = some (.str [(0, 1), (1, 1), (2, 1), (3, 1), (4, 32)]) ∧ zeroC Tryz.prog 38 = some [.val (.bool false), .val (.int .i64 0), .val (.int .i64 0), .val (.int .i64 0), .val (.int .u8 0), .val (.int .u8 0), .val (.int .u8 0), .val (.int .u8 0), .val (.int .u8 0), .val (.int .u8 0), .val (.int .u8 0), .val (.int .u8 0), .val (.int .u8 0), .val (.int .u8 0), .val (.int .u8 0), .val (.int .u8 0), .val (.int .u8 0), .val (.int .u8 0), .val (.int .u8 0), .val (.int .u8 0), .val (.int .u8 0), .val (.int .u8 0), .val (.int .u8 0), .val (.int .u8 0), .val (.int .u8 0), .val (.int .u8 0), .val (.int .u8 0), .val (.int .u8 0), .val (.int .u8 0), .val (.int .u8 0), .val (.int .u8 0), .val (.int .u8 0), .val (.int .u8 0), .val (.int .u8 0), .val (.int .u8 0), .val (.int .u8 0)] ∧ allocC Tryz.prog 38 = some [.val (.bool false), .val (.int .i64 0), .val (.int .i64 0), .val (.int .i64 0), .val (.int .u8 0), .val (.int .u8 0), .val (.int .u8 0), .val (.int .u8 0), .val (.int .u8 0), .val (.int .u8 0), .val (.int .u8 0), .val (.int .u8 0), .val (.int .u8 0), .val (.int .u8 0), .val (.int .u8 0), .val (.int .u8 0), .val (.int .u8 0), .val (.int .u8 0), .val (.int .u8 0), .val (.int .u8 0), .val (.int .u8 0), .val (.int .u8 0), .val (.int .u8 0), .val (.int .u8 0), .val (.int .u8 0), .val (.int .u8 0), .val (.int .u8 0), .val (.int .u8 0), .val (.int .u8 0), .val (.int .u8 0), .val (.int .u8 0), .val (.int .u8 0), .val (.int .u8 0), .val (.int .u8 0), .val (.int .u8 0), .val (.int .u8 0)] := ⟨by kernel_rfl, by kernel_rfl, by kernel_rfl, by kernel_rfl, by kernel_rfl, by kernel_rfl, by kernel_rfl, by kernel_rfl, by kernel_rfl, by kernel_rfl, by kernel_rfl⟩
@[go_sem] theorem ty44_size : sizeT Tryz.prog 44 = some 16 ∧ isAggT Tryz.prog 44 = some true ∧ idxT Tryz.prog 44 = some (some 16, 21, 1) := ⟨by kernel_rfl, by kernel_rfl, by kernel_rfl⟩
@[go_sem] theorem ty45_size : sizeT Tryz.prog 45 = some 1 ∧ isAggT Tryz.prog 45 = some false ∧ knownT Tryz.prog 45 = true ∧ kindT Tryz.prog 45 = some .u32 := ⟨by kernel_rfl, by kernel_rfl, by kernel_rfl, by kernel_rfl⟩
@[go_sem] theorem ty47_size : sizeT Tryz.prog 47 = some 20 ∧ isAggT Tryz.prog 47 = some true ∧ fldT Tryz.prog 47 0 = some (0, 3, 1) ∧ fldT Tryz.prog 47 1 = some (1, 44, 16) ∧ fldT Tryz.prog 47 2 = some (17, 45, 1) ∧ fldT Tryz.prog 47 3 = some (18, 4, 1) ∧ fldT Tryz.prog 47 4 = some (19, 3, 1) ∧ layT Tryz.prog 47 = some (.str [(0, 1), (1, 16), (17, 1), (18, 1), (19, 1)]) ∧ bytesT Tryz.prog 47 = some 88 ∧ zeroC Tryz.prog 47 = some [.val (.int .i64 0), .val (.int .i32 0), .val (.int .i32 0), .val (.int .i32 0), .val (.int .i32 0), .val (.int .i32 0), .val (.int .i32 0), .val (.int .i32 0), .val (.int .i32 0), .val (.int .i32 0), .val (.int .i32 0), .val (.int .i32 0), .val (.int .i32 0), .val (.int .i32 0), .val (.int .i32 0), .val (.int .i32 0), .val (.int .i32 0), .val (.int .u32 0), .val (.bool false), .val (.int .i64 0)] ∧ allocC Tryz.prog 47 = some [.val (.int .i64 0), .val (.int .i32 0), .val (.int .i32 0), .val (.int .i32 0), .val (.int .i32 0), .val (.int .i32 0), .val (.int .i32 0), .val (.int .i32 0), .val (.int .i32 0), .val (.int .i32 0), .val (.int .i32 0), .val (.int .i32 0), .val (.int .i32 0), .val (.int .i32 0), .val (.int .i32 0), .val (.int .i32 0), .val (.int .i32 0), .val (.int .u32 0), .val (.bool false), .val (.int .i64 0)] := ⟨by kernel_rfl, by kernel_rfl, by kernel_rfl, by kernel_rfl, by kernel_rfl, by kernel_rfl, by kernel_rfl, by kernel_rfl, by kernel_rfl, by kernel_rfl, by kernel_rfl⟩
@[go_sem] theorem ty52_size : sizeT Tryz.prog 52 = some 36 ∧ isAggT Tryz.prog 52 = some true ∧ fldT Tryz.prog 52 0 = some (0, 4, 1) ∧ fldT Tryz.prog 52 1 = some (1, 3, 1) ∧ fldT Tryz.prog 52 2 = some (2, 3, 1) ∧ layT Tryz.prog 52 = some (.str [(0, 1), (1, 1), (2, 1), (3, 1), (4, 32)]) ∧ zeroC Tryz.prog 52 = some [.val (.bool false), .val (.int .i64 0), .val (.int .i64 0), .val (.int .i64 0), .val (.int .u8 0), .val (.int .u8 0), .val (.int .u8 0), .val (.int .u8 0), .val (.int .u8 0), .val (.int .u8 0), .val (.int .u8 0), .val (.int .u8 0), .val (.int .u8 0), .val (.int .u8 0), .val (.int .u8 0), .val (.int .u8 0), .val (.int .u8 0), .val (.int .u8 0), .val (.int .u8 0), .val (.int .u8 0), .val (.int .u8 0), .val (.int .u8 0), .val (.int .u8 0), .val (.int .u8 0), .val (.int .u8 0), .val (.int .u8 0), .val (.int .u8 0), .val (.int .u8 0), .val (.int .u8 0), .val (.int .u8 0), .val (.int .u8 0), .val (.int .u8 0), .val (.int .u8 0), .val (.int .u8 0), .val (.int .u8 0), .val (.int .u8 0)] ∧ allocC Tryz.prog 52 = some [.val (.bool false), .val (.int .i64 0), .val (.int .i64 0), .val (.int .i64 0), .val (.int .u8 0), .val (.int .u8 0), .val (.int .u8 0), .val (.int .u8 0), .val (.int .u8 0), .val (.int .u8 0), .val (.int .u8 0), .val (.int .u8 0), .val (.int .u8 0), .val (.int .u8 0), .val (.int .u8 0), .val (.int .u8 0), .val (.int .u8 0), .val (.int .u8 0), .val (.int .u8 0), .val (.int .u8 0), .val (.int .u8 0), .val (.int .u8 0), .val (.int .u8 0), .val (.int .u8 0), .val (.int .u8 0), .val (.int .u8 0), .val (.int .u8 0), .val (.int .u8 0), .val (.int .u8 0), .val (.int .u8 0), .val (.int .u8 0), .val (.int .u8 0), .val (.int .u8 0), .val (.int .u8 0), .val (.int .u8 0), .val (.int .u8 0)] := ⟨by kernel_rfl, by kernel_rfl, by kernel_rfl, by kernel_rfl, by kernel_rfl, by kernel_rfl, by kernel_rfl, by kernel_rfl⟩
@[go_sem] theorem ty60_size : sizeT Tryz.prog 60 = some 1 ∧ isAggT Tryz.prog 60 = some false ∧ isSlcT Tryz.prog 60 = true ∧ idxT Tryz.prog 60 = some (none, 32, 1) := ⟨by kernel_rfl, by kernel_rfl, by kernel_rfl, by kernel_rfl⟩
@[go_sem] theorem ty61_idx : idxT Tryz.prog 61 = some (some 2, 60, 1) := by kernel_rfl
@[go_sem] theorem ty62_size : sizeT Tryz.prog 62 = some 2 ∧ idxT Tryz.prog 62 = some (some 2, 3, 1) ∧ layT Tryz.prog 62 = some (.arr 1) ∧ zeroC Tryz.prog 62 = some [.val (.int .i64 0), .val (.int .i64 0)] ∧ allocC Tryz.prog 62 = some [.val (.int .i64 0), .val (.int .i64 0)] := ⟨by kernel_rfl, by kernel_rfl, by kernel_rfl, by kernel_rfl, by kernel_rfl⟩
@[go_sem] theorem ty64_f0 : fldT Tryz.prog 64 0 = some (0, 24, 3) ∧ fldT Tryz.prog 64 1 = some (3, 27, 1) ∧ fldT Tryz.prog 64 2 = some (4, 61, 2) ∧ fldT Tryz.prog 64 3 = some (6, 62, 2) ∧ fldT Tryz.prog 64 4 = some (8, 45, 1) ∧ fldT Tryz.prog 64 5 = some (9, 62, 2) ∧ fldT Tryz.prog 64 6 = some (11, 4, 1) ∧ fldT Tryz.prog 64 7 = some (12, 4, 1) ∧ fldT Tryz.prog 64 8 = some (13, 3, 1) ∧ fldT Tryz.prog 64 9 = some (14, 3, 1) ∧ layT Tryz.prog 64 = some (.str [(0, 3), (3, 1), (4, 2), (6, 2), (8, 1), (9, 2), (11, 1), (12, 1), (13, 1), (14, 1)]) ∧ zeroC Tryz.prog 64 = some [.lst .full (some true) 1 [], .val (.int .i64 0), .val (.int .i64 0), .lst .full (some true) 1 [], .lst .full (some true) 1 [], .lst .full (some true) 1 [], .val (.int .i64 0), .val (.int .i64 0), .val (.int .u32 0), .val (.int .i64 0), .val (.int .i64 0), .val (.bool false), .val (.bool false), .val (.int .i64 0), .val (.int .i64 0)] := ⟨by kernel_rfl, by kernel_rfl, by kernel_rfl, by kernel_rfl, by kernel_rfl, by kernel_rfl, by kernel_rfl, by kernel_rfl, by kernel_rfl, by kernel_rfl, by kernel_rfl, by kernel_rfl⟩
@[go_sem] theorem ty65_size : sizeT Tryz.prog 65 = some 1 ∧ isAggT Tryz.prog 65 = some false ∧ isSlcT Tryz.prog 65 = true ∧ idxT Tryz.prog 65 = some (none, 91, 2) := ⟨by kernel_rfl, by kernel_rfl, by kernel_rfl, by kernel_rfl⟩
@[go_sem] theorem ty71_size : sizeT Tryz.prog 71 = some 10 ∧ isAggT Tryz.prog 71 = some true ∧ fldT Tryz.prog 71 0 = some (0, 3, 1) ∧ fldT Tryz.prog 71 1 = some (1, 3, 1) ∧ fldT Tryz.prog 71 2 = some (2, 3, 1) ∧ fldT Tryz.prog 71 3 = some (3, 32, 1) ∧ fldT Tryz.prog 71 4 = some (4, 34, 6) := ⟨by kernel_rfl, by kernel_rfl, by kernel_rfl, by kernel_rfl, by kernel_rfl, by kernel_rfl, by kernel_rfl⟩
@[go_sem] theorem ty72_ptr : isPtrT Tryz.prog 72 = true := by kernel_rfl
@[go_sem] theorem ty77_size : sizeT Tryz.prog 77 = some 11 ∧ isAggT Tryz.prog 77 = some true ∧ fldT Tryz.prog 77 0 = some (0, 62, 2) ∧ fldT Tryz.prog 77 1 = some (2, 45, 1) ∧ fldT Tryz.prog 77 2 = some (3, 62, 2) ∧ fldT Tryz.prog 77 3 = some (5, 62, 2) ∧ fldT Tryz.prog 77 4 = some (7, 4, 1) ∧ fldT Tryz.prog 77 5 = some (8, 3, 1) ∧ fldT Tryz.prog 77 6 = some (9, 3, 1) ∧ fldT Tryz.prog 77 7 = some (10, 4, 1) ∧ allocC Tryz.prog 77 = some [.val (.int .i64 0), .val (.int .i64 0), .val (.int .u32 0), .val (.int .i64 0), .val (.int .i64 0), .val (.int .i64 0), .val (.int .i64 0), .val (.bool false), .val (.int .i64 0), .val (.int .i64 0), .val (.bool false)] := ⟨by kernel_rfl, by kernel_rfl, by kernel_rfl, by kernel_rfl, by kernel_rfl, by kernel_rfl, by kernel_rfl, by kernel_rfl, by kernel_rfl, by kernel_rfl, by kernel_rfl⟩
@[go_sem] theorem ty82_size : sizeT Tryz.prog 82 = some 1 ∧ isAggT Tryz.prog 82 = some false ∧ isSlcT Tryz.prog 82 = true ∧ idxT Tryz.prog 82 = some (none, 5, 1) := ⟨by kernel_rfl, by kernel_rfl, by kernel_rfl, by kernel_rfl⟩
@[go_sem] theorem ty91_size : sizeT Tryz.prog 91 = some 2 ∧ isAggT Tryz.prog 91 = some true ∧ idxT Tryz.prog 91 = some (some 2, 32, 1) ∧ layT Tryz.prog 91 = some (.arr 1) ∧ bytesT Tryz.prog 91 = some 4 ∧ zeroC Tryz.prog 91 = some [.val (.int .u16 0), .val (.int .u16 0)] ∧ allocC Tryz.prog 91 = some [.val (.int .u16 0), .val (.int .u16 0)] := ⟨by kernel_rfl, by kernel_rfl, by kernel_rfl, by kernel_rfl, by kernel_rfl, by kernel_rfl, by kernel_rfl⟩
@[go_sem] theorem ty98_f0 : fldT Tryz.prog 98 0 = some (0, 24, 3) ∧ fldT Tryz.prog 98 1 = some (3, 77, 11) ∧ fldT Tryz.prog 98 2 = some (14, 61, 2) ∧ fldT Tryz.prog 98 3 = some (16, 65, 1) ∧ fldT Tryz.prog 98 4 = some (17, 47, 20) ∧ fldT Tryz.prog 98 5 = some (37, 27, 1) ∧ layT Tryz.prog 98 = some (.str [(0, 3), (3, 11), (14, 2), (16, 1), (17, 20), (37, 1)]) ∧ zeroC Tryz.prog 98 = some [.lst .full (some true) 1 [], .val (.int .i64 0), .val (.int .i64 0), .val (.int .i64 0), .val (.int .i64 0), .val (.int .u32 0), .val (.int .i64 0), .val (.int .i64 0), .val (.int .i64 0), .val (.int .i64 0), .val (.bool false), .val (.int .i64 0), .val (.int .i64 0), .val (.bool false), .lst .full (some true) 1 [], .lst .full (some true) 1 [], .lst .full (some true) 1 [], .val (.int .i64 0), .val (.int .i32 0), .val (.int .i32 0), .val (.int .i32 0), .val (.int .i32 0), .val (.int .i32 0), .val (.int .i32 0), .val (.int .i32 0), .val (.int .i32 0), .val (.int .i32 0), .val (.int .i32 0), .val (.int .i32 0), .val (.int .i32 0), .val (.int .i32 0), .val (.int .i32 0), .val (.int .i32 0), .val (.int .i32 0), .val (.int .u32 0), .val (.bool false), .val (.int .i64 0), .lst .full (some true) 1 []] := ⟨by kernel_rfl, by kernel_rfl, by kernel_rfl, by kernel_rfl, by kernel_rfl, by kernel_rfl, by kernel_rfl, by kernel_rfl⟩
@[go_sem] theorem ty100_known : knownT Tryz.prog 100 = true ∧ kindT Tryz.prog 100 = some .u64 := ⟨by kernel_rfl, by kernel_rfl⟩
@[go_sem] theorem ty109_slc : isSlcT Tryz.prog 109 = true ∧ idxT Tryz.prog 109 = some (none, 47, 20) := ⟨by kernel_rfl, by kernel_rfl⟩
@[go_sem] theorem ty114_size : sizeT Tryz.prog 114 = some 1 ∧ isAggT Tryz.prog 114 = some false ∧ isSlcT Tryz.prog 114 = true ∧ idxT Tryz.prog 114 = some (none, 21, 1) := ⟨by kernel_rfl, by kernel_rfl, by kernel_rfl, by kernel_rfl⟩
@[go_sem] theorem ty116_f0 : fldT Tryz.prog 116 0 = some (0, 47, 20) ∧ fldT Tryz.prog 116 1 = some (20, 91, 2) ∧ fldT Tryz.prog 116 2 = some (22, 114, 1) ∧ fldT Tryz.prog 116 3 = some (23, 3, 1) ∧ fldT Tryz.prog 116 4 = some (24, 3, 1) ∧ fldT Tryz.prog 116 5 = some (25, 4, 1) ∧ layT Tryz.prog 116 = some (.str [(0, 20), (20, 2), (22, 1), (23, 1), (24, 1), (25, 1)]) ∧ zeroC Tryz.prog 116 = some [.val (.int .i64 0), .val (.int .i32 0), .val (.int .i32 0), .val (.int .i32 0), .val (.int .i32 0), .val (.int .i32 0), .val (.int .i32 0), .val (.int .i32 0), .val (.int .i32 0), .val (.int .i32 0), .val (.int .i32 0), .val (.int .i32 0), .val (.int .i32 0), .val (.int .i32 0), .val (.int .i32 0), .val (.int .i32 0), .val (.int .i32 0), .val (.int .u32 0), .val (.bool false), .val (.int .i64 0), .val (.int .u16 0), .val (.int .u16 0), .lst .full (some true) 1 [], .val (.int .i64 0), .val (.int .i64 0), .val (.bool false)] := ⟨by kernel_rfl, by kernel_rfl, by kernel_rfl, by kernel_rfl, by kernel_rfl, by kernel_rfl, by kernel_rfl, by kernel_rfl⟩
@[go_sem] theorem ty119_size : sizeT Tryz.prog 119 = some 2 ∧ isAggT Tryz.prog 119 = some true ∧ fldT Tryz.prog 119 0 = some (0, 3, 1) ∧ fldT Tryz.prog 119 1 = some (1, 3, 1) ∧ bytesT Tryz.prog 119 = some 16 ∧ zeroC Tryz.prog 119 = some [.val (.int .i64 0), .val (.int .i64 0)] ∧ allocC Tryz.prog 119 = some [.val (.int .i64 0), .val (.int .i64 0)] := ⟨by kernel_rfl, by kernel_rfl, by kernel_rfl, by kernel_rfl, by kernel_rfl, by kernel_rfl, by kernel_rfl⟩
@[go_sem] theorem ty124_size : sizeT Tryz.prog 124 = some 1 ∧ isAggT Tryz.prog 124 = some false := ⟨by kernel_rfl, by kernel_rfl⟩
@[go_sem] theorem ty125_agg : isAggT Tryz.prog 125 = some false := by kernel_rfl
@[go_sem] theorem ty126_size : sizeT Tryz.prog 126 = some 1 ∧ isAggT Tryz.prog 126 = some false := ⟨by kernel_rfl, by kernel_rfl⟩
@[go_sem] theorem ty128_size : sizeT Tryz.prog 128 = some 3 ∧ isAggT Tryz.prog 128 = some true ∧ fldT Tryz.prog 128 0 = some (0, 124, 1) ∧ fldT Tryz.prog 128 1 = some (1, 125, 1) ∧ fldT Tryz.prog 128 2 = some (2, 126, 1) ∧ layT Tryz.prog 128 = some (.str [(0, 1), (1, 1), (2, 1)]) ∧ zeroC Tryz.prog 128 = some [.val (.nilFunc), .val (.nilFunc), .val (.nilFunc)] ∧ allocC Tryz.prog 128 = some [.val (.nilFunc), .val (.nilFunc), .val (.nilFunc)] := ⟨by kernel_rfl, by kernel_rfl, by kernel_rfl, by kernel_rfl, by kernel_rfl, by kernel_rfl, by kernel_rfl, by kernel_rfl⟩
@[go_sem] theorem ty129_size : sizeT Tryz.prog 129 = some 18 ∧ isAggT Tryz.prog 129 = some true ∧ idxT Tryz.prog 129 = some (some 6, 128, 3) ∧ layT Tryz.prog 129 = some (.arr 3) ∧ zeroC Tryz.prog 129 = some [.val (.nilFunc), .val (.nilFunc), .val (.nilFunc), .val (.nilFunc), .val (.nilFunc), .val (.nilFunc), .val (.nilFunc), .val (.nilFunc), .val (.nilFunc), .val (.nilFunc), .val (.nilFunc), .val (.nilFunc), .val (.nilFunc), .val (.nilFunc), .val (.nilFunc), .val (.nilFunc), .val (.nilFunc), .val (.nilFunc)] ∧ allocC Tryz.prog 129 = some [.val (.nilFunc), .val (.nilFunc), .val (.nilFunc), .val (.nilFunc), .val (.nilFunc), .val (.nilFunc), .val (.nilFunc), .val (.nilFunc), .val (.nilFunc), .val (.nilFunc), .val (.nilFunc), .val (.nilFunc), .val (.nilFunc), .val (.nilFunc), .val (.nilFunc), .val (.nilFunc), .val (.nilFunc), .val (.nilFunc)] := ⟨by kernel_rfl, by kernel_rfl, by kernel_rfl, by kernel_rfl, by kernel_rfl, by kernel_rfl⟩
@[go_sem] theorem ty135_f0 : fldT Tryz.prog 135 0 = some (0, 82, 1) ∧ allocC Tryz.prog 135 = some [.lst .full (some true) 1 []] := ⟨by kernel_rfl, by kernel_rfl⟩
@[go_sem] theorem ty151_ptr : isPtrT Tryz.prog 151 = true := by kernel_rfl
@[go_sem] theorem ty154_size : sizeT Tryz.prog 154 = some 1 ∧ isAggT Tryz.prog 154 = some false := ⟨by kernel_rfl, by kernel_rfl⟩
@[go_sem] theorem ty155_size : sizeT Tryz.prog 155 = some 1 ∧ isAggT Tryz.prog 155 = some false := ⟨by kernel_rfl, by kernel_rfl⟩
@[go_sem] theorem ty157_f2 : fldT Tryz.prog 157 2 = some (2, 155, 1) ∧ layT Tryz.prog 157 = some (.str [(0, 1), (1, 1), (2, 1)]) ∧ zeroC Tryz.prog 157 = some [.val (.string ⟨#[]⟩), .val (.bool false), .val (.nilFunc)] := ⟨by kernel_rfl, by kernel_rfl, by kernel_rfl⟩
@[go_sem] theorem ty158_size : sizeT Tryz.prog 158 = some 69 ∧ isAggT Tryz.prog 158 = some true ∧ idxT Tryz.prog 158 = some (some 23, 157, 3) ∧ layT Tryz.prog 158 = some (.arr 3) ∧ zeroC Tryz.prog 158 = some [.val (.string ⟨#[]⟩), .val (.bool false), .val (.nilFunc), .val (.string ⟨#[]⟩), .val (.bool false), .val (.nilFunc), .val (.string ⟨#[]⟩), .val (.bool false), .val (.nilFunc), .val (.string ⟨#[]⟩), .val (.bool false), .val (.nilFunc), .val (.string ⟨#[]⟩), .val (.bool false), .val (.nilFunc), .val (.string ⟨#[]⟩), .val (.bool false), .val (.nilFunc), .val (.string ⟨#[]⟩), .val (.bool false), .val (.nilFunc), .val (.string ⟨#[]⟩), .val (.bool false), .val (.nilFunc), .val (.string ⟨#[]⟩), .val (.bool false), .val (.nilFunc), .val (.string ⟨#[]⟩), .val (.bool false), .val (.nilFunc), .val (.string ⟨#[]⟩), .val (.bool false), .val (.nilFunc), .val (.string ⟨#[]⟩), .val (.bool false), .val (.nilFunc), .val (.string ⟨#[]⟩), .val (.bool false), .val (.nilFunc), .val (.string ⟨#[]⟩), .val (.bool false), .val (.nilFunc), .val (.string ⟨#[]⟩), .val (.bool false), .val (.nilFunc), .val (.string ⟨#[]⟩), .val (.bool false), .val (.nilFunc), .val (.string ⟨#[]⟩), .val (.bool false), .val (.nilFunc), .val (.string ⟨#[]⟩), .val (.bool false), .val (.nilFunc), .val (.string ⟨#[]⟩), .val (.bool false), .val (.nilFunc), .val (.string ⟨#[]⟩), .val (.bool false), .val (.nilFunc), .val (.string ⟨#[]⟩), .val (.bool false), .val (.nilFunc), .val (.string ⟨#[]⟩), .val (.bool false), .val (.nilFunc), .val (.string ⟨#[]⟩), .val (.bool false), .val (.nilFunc)] ∧ allocC Tryz.prog 158 = some [.val (.string ⟨#[]⟩), .val (.bool false), .val (.nilFunc), .val (.string ⟨#[]⟩), .val (.bool false), .val (.nilFunc), .val (.string ⟨#[]⟩), .val (.bool false), .val (.nilFunc), .val (.string ⟨#[]⟩), .val (.bool false), .val (.nilFunc), .val (.string ⟨#[]⟩), .val (.bool false), .val (.nilFunc), .val (.string ⟨#[]⟩), .val (.bool false), .val (.nilFunc), .val (.string ⟨#[]⟩), .val (.bool false), .val (.nilFunc), .val (.string ⟨#[]⟩), .val (.bool false), .val (.nilFunc), .val (.string ⟨#[]⟩), .val (.bool false), .val (.nilFunc), .val (.string ⟨#[]⟩), .val (.bool false), .val (.nilFunc), .val (.string ⟨#[]⟩), .val (.bool false), .val (.nilFunc), .val (.string ⟨#[]⟩), .val (.bool false), .val (.nilFunc), .val (.string ⟨#[]⟩), .val (.bool false), .val (.nilFunc), .val (.string ⟨#[]⟩), .val (.bool false), .val (.nilFunc), .val (.string ⟨#[]⟩), .val (.bool false), .val (.nilFunc), .val (.string ⟨#[]⟩), .val (.bool false), .val (.nilFunc), .val (.string ⟨#[]⟩), .val (.bool false), .val (.nilFunc), .val (.string ⟨#[]⟩), .val (.bool false), .val (.nilFunc), .val (.string ⟨#[]⟩), .val (.bool false), .val (.nilFunc), .val (.string ⟨#[]⟩), .val (.bool false), .val (.nilFunc), .val (.string ⟨#[]⟩), .val (.bool false), .val (.nilFunc), .val (.string ⟨#[]⟩), .val (.bool false), .val (.nilFunc), .val (.string ⟨#[]⟩), .val (.bool false), .val (.nilFunc)] := ⟨by kernel_rfl, by kernel_rfl, by kernel_rfl, by kernel_rfl, by kernel_rfl, by kernel_rfl⟩
@[go_sem] theorem ty166_slc : isSlcT Tryz.prog 166 = true ∧ idxT Tryz.prog 166 = some (none, 3, 1) := ⟨by kernel_rfl, by kernel_rfl⟩
@[go_sem] theorem ty169_f0 : fldT Tryz.prog 169 0 = some (0, 47, 20) ∧ fldT Tryz.prog 169 1 = some (20, 91, 2) ∧ fldT Tryz.prog 169 2 = some (22, 114, 1) ∧ fldT Tryz.prog 169 3 = some (23, 3, 1) ∧ fldT Tryz.prog 169 4 = some (24, 4, 1) ∧ fldT Tryz.prog 169 5 = some (25, 4, 1) ∧ layT Tryz.prog 169 = some (.str [(0, 20), (20, 2), (22, 1), (23, 1), (24, 1), (25, 1)]) ∧ zeroC Tryz.prog 169 = some [.val (.int .i64 0), .val (.int .i32 0), .val (.int .i32 0), .val (.int .i32 0), .val (.int .i32 0), .val (.int .i32 0), .val (.int .i32 0), .val (.int .i32 0), .val (.int .i32 0), .val (.int .i32 0), .val (.int .i32 0), .val (.int .i32 0), .val (.int .i32 0), .val (.int .i32 0), .val (.int .i32 0), .val (.int .i32 0), .val (.int .i32 0), .val (.int .u32 0), .val (.bool false), .val (.int .i64 0), .val (.int .u16 0), .val (.int .u16 0), .lst .full (some true) 1 [], .val (.int .i64 0), .val (.bool false), .val (.bool false)] := ⟨by kernel_rfl, by kernel_rfl, by kernel_rfl, by kernel_rfl, by kernel_rfl, by kernel_rfl, by kernel_rfl, by kernel_rfl⟩
@[go_sem] theorem ty170_size : sizeT Tryz.prog 170 = some 1 ∧ isAggT Tryz.prog 170 = some false := ⟨by kernel_rfl, by kernel_rfl⟩
@[go_sem] theorem ty171_size : sizeT Tryz.prog 171 = some 23 ∧ isAggT Tryz.prog 171 = some true ∧ idxT Tryz.prog 171 = some (some 23, 170, 1) ∧ layT Tryz.prog 171 = some (.arr 1) ∧ zeroC Tryz.prog 171 = some [.val (.nilFunc), .val (.nilFunc), .val (.nilFunc), .val (.nilFunc), .val (.nilFunc), .val (.nilFunc), .val (.nilFunc), .val (.nilFunc), .val (.nilFunc), .val (.nilFunc), .val (.nilFunc), .val (.nilFunc), .val (.nilFunc), .val (.nilFunc), .val (.nilFunc), .val (.nilFunc), .val (.nilFunc), .val (.nilFunc), .val (.nilFunc), .val (.nilFunc), .val (.nilFunc), .val (.nilFunc), .val (.nilFunc)] ∧ allocC Tryz.prog 171 = some [.val (.nilFunc), .val (.nilFunc), .val (.nilFunc), .val (.nilFunc), .val (.nilFunc), .val (.nilFunc), .val (.nilFunc), .val (.nilFunc), .val (.nilFunc), .val (.nilFunc), .val (.nilFunc), .val (.nilFunc), .val (.nilFunc), .val (.nilFunc), .val (.nilFunc), .val (.nilFunc), .val (.nilFunc), .val (.nilFunc), .val (.nilFunc), .val (.nilFunc), .val (.nilFunc), .val (.nilFunc), .val (.nilFunc)] := ⟨by kernel_rfl, by kernel_rfl, by kernel_rfl, by kernel_rfl, by kernel_rfl, by kernel_rfl⟩
end
section
def xd (x : Int × Int) : List D := [.val (.int .i64 x.1), .val (.int .i64 x.2)]
def ins (l : List (Int × Int)) : List D := (l.map xd).flatten
def gi (l : List (Int × Int)) (i : Nat) : Int × Int := l.getD i (0, 0)
@[go_sem] theorem xd_len {x : Int × Int} : (xd x).length = 2 := nr rfl
@[go_sem] theorem ins_nil : ins [] = [] := nr rfl
theorem ins_cons {x : Int × Int} {l : List (Int × Int)} : ins (x :: l) = xd x ++ ins l := by simp [ins]
@[go_sem] theorem ins_len {l : List (Int × Int)} : (ins l).length = l.length * 2 := by
  induction l with
  | nil => rfl
  | cons s l ih => rw [ins_cons, List.length_append, xd_len, ih, List.length_cons]; omega
theorem ins_drop (l : List (Int × Int)) (k : Nat) : (ins l).drop (k * 2) = ins (l.drop k) := by
  induction l generalizing k with
  | nil => simp [ins]
  | cons s l ih =>
    cases k with
    | zero => simp [ins]
    | succ k => rw [ins_cons, List.drop_succ_cons, List.drop_append, xd_len, List.drop_eq_nil_of_le (by rw [xd_len]; omega), show (k + 1) * 2 - 2 = k * 2 by omega, ih]; rfl
theorem ins_at {l : List (Int × Int)} {k : Nat} (h : k < l.length) : (ins l).drop (k * 2) = xd (gi l k) ++ ins (l.drop (k + 1)) := by
  rw [ins_drop, List.drop_eq_getElem_cons h, ins_cons]
  simp [gi, List.getD, h]
section
variable {P : Program} {V' : V → Prop} {K : C → Prop} {l : List (Int × Int)} {r : List D} {x y : Value} {o : Own} {nl : Option Bool} {k : IntKind} {a b : Int} {t : TypeId} {i j : Nat}
@[go_sem ↓ 1200] theorem e_IAi (h0 : 0 ≤ a) (h1 : a < l.length) : aIA (some (none, t, 2)) (.cell (.lst o nl 2 (ins l))) a V' = V' (.cell (.mem (.val (.int .i64 (gi l a.toNat).1) :: .val (.int .i64 (gi l a.toNat).2) :: ins (l.drop (a.toNat + 1))))) := by
  have h2 : a.toNat < l.length := by omega
  have e : (.val (.int .i64 (gi l a.toNat).1) :: .val (.int .i64 (gi l a.toNat).2) :: ins (l.drop (a.toNat + 1)) : List D) = xd (gi l a.toNat) ++ ins (l.drop (a.toNat + 1)) := rfl
  rw [e, ← ins_at h2]
  simp only [aIA, ins_len, h0, true_and]
  have : a * ((2 : Nat) : Int) < ((l.length * 2 : Nat) : Int) := by omega
  simp only [this, true_and]
@[go_sem ↓ 1200] theorem e_leni : aLen P t (.cell (.lst o nl 2 (ins l))) V' = (isSlcT P t = true ∧ V' (.int .i64 l.length)) := by
  simp only [aLen, ins_len, Nat.mul_div_cancel _ (show 0 < 2 by omega)]
@[go_sem] theorem t_xd {x y : C} {r : List C} : List.take 2 (List.drop 0 (x :: y :: r)) = [x, y] := nr rfl
end
end
end Go.Proofs.YtgeelaafmnedmaaGreat
