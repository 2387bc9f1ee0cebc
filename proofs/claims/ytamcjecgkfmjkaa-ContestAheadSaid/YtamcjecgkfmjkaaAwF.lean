/- The logic: functions. -/
import Derived.Test.YtamcjecgkfmjkaaAwZ
open Go Go.RowKit
namespace Go.Proofs.Ytamcjecgkfmjkaa
set_option linter.unusedSimpArgs false

def V.toW : V → W
  | .w x => x
  | .tup _ => .c .undef
def packV : List V → V
  | [v] => v
  | vs => .tup (vs.map V.toW)
def aRes (P : Program) : List ResultVar → St → (List V → Prop) → Prop
  | [], _, K => K []
  | .tmp t :: l, s, K => aRes P l s fun vs => K (s.slots.getD t V.undef :: vs)
  | .cell b t :: l, s, K => aLoadBox P t (s.slots.getD b V.undef) s fun v => aRes P l s fun vs => K (v :: vs)
/-- what stands where a function leaves -/
def aEnd (P : Program) (rs : List ResultVar) (R : V → Heap → Prop) : AExit → St → Prop
  | .exit _, _ => False
  | _, s => aRes P rs s fun vs => ∃ v h', leV v (packV vs) ∧ leH h' s.heap ∧ R v h'
def entrySt (n : Nat) (args : List W) (h : Heap) : St := ⟨args.map V.w ++ List.replicate (n - args.length) V.undef, h⟩

section
variable {P : Program} {E : Entry} {g : Gh} {w : World} {s : St} {a : Act}
theorem toW_rel {v : V} {y : Value} (h : RelV g v y) : RelW g v.toW y := by
  cases v with
  | w x => exact h
  | tup xs => trivial
theorem aRes_sound {rs : List ResultVar} : ∀ {K : List V → Prop}, Sim E g s a w → aRes P rs s K → ∃ vs ys, K vs ∧ All2 (RelV g) vs ys ∧ (rs.mapM (m := Sem) fun
    | .tmp t => pure (a.tmps.getD t undef)
    | .cell b t => do loadVar t (← asAddr (a.tmps.getD b undef))).run P w = .ok ys w := by
  induction rs with
  | nil => intro K hs h; exact ⟨[], [], h, .nil, rfl⟩
  | cons r rs ih =>
    intro K hs h
    cases r with
    | tmp t =>
      obtain ⟨vs, ys, h1, h2, h3⟩ := ih hs h
      refine ⟨_, a.tmps.getD t undef :: ys, h1, .cons (hs.ev (.tmp t)) h2, ?_⟩
      simp only [List.mapM_cons, pure_bind, Sem.run_bind, h3, Result.andThen_ok, Sem.run_pure]
    | cell b t =>
      obtain ⟨v, z, h1, h2, h3⟩ := sound_loadBox hs.wi (hs.ev (.tmp b)) h
      obtain ⟨vs, ys, h4, h5, h6⟩ := ih hs h1
      refine ⟨_, z :: ys, h4, .cons h2 h5, ?_⟩
      have h7 := h3 w rfl
      have h8 : (do loadVar t (← asAddr (a.tmps.getD b undef)) : Sem Value).run P w = .ok z w := by
        change (Instr.loadAt t (a.tmps.getD b undef)).run P w = .ok z w at h7
        have hp : ∃ ad, a.tmps.getD b undef = .pointer (some ad) := by
          have hb := hs.ev (.tmp b)
          simp only [St.ev, Act.eval] at hb
          simp only [aRes] at h
          unfold aLoadBox at h
          split at h
          · rename_i heq; rw [heq] at hb; exact ⟨_, hb⟩
          · exact h.elim
        obtain ⟨ad, hp⟩ := hp
        rw [hp] at h7 ⊢
        simpa [Instr.loadAt, Instr.sureAddr, asAddr] using h7
      simp only [List.mapM_cons, Sem.run_bind]
      rw [Sem.run_bind] at h8
      rw [h8]
      simp only [Result.andThen_ok, Sem.run_bind, h6, Sem.run_pure]
theorem callable_of {f : FuncId} {fn : Func} {c : Code} (hf : P.funcs[f]? = some fn) (hb : fn.body = some c) (hn : (fn.name == "runtime.NumGoroutine") = false) : Callable P f := by
  intro args w
  have hn' : fn.name ≠ "runtime.NumGoroutine" := by simpa using hn
  simp [callFunc, hf, hb, hn']
theorem holds_of_awp {f : FuncId} {fn : Func} {c : Code} {n : Nat} {rs : List ResultVar} {args : List W} {h : Heap} {R : V → Heap → Prop} (hf : P.funcs[f]? = some fn) (hb : fn.body = some c) (hname : (fn.name == "runtime.NumGoroutine") = false)
    (hm : P.follows .mixedOrders = true) (hn : fn.ntmps = n) (hrs : fn.results = rs.toArray) (H : awp P c (aEnd P rs R) (entrySt n args h)) : Holds P f args h R := by
  refine ⟨callable_of hf hb hname, fun g w xs hG ha hw => ?_⟩
  refine calls_of_wp hf hb ?_
  have hl := ha.length
  have hs : Sim (entry g h w) g (entrySt n args h) { tmps := xs.toArray ++ Array.replicate (fn.ntmps - xs.toArray.size) undef, defers := [] } w := by
    refine ⟨?_, ⟨rfl, hG⟩, hw, Cum.refl g h w⟩
    simp only [entrySt, Array.toList_append, List.size_toArray, Array.toList_replicate, hn, ← hl]
    exact (ha.map (T := RelV g) (f := V.w) fun _ _ h => h).append (All2.replicate _ trivial)
  refine awp_sound hm c hs H fun e s' g' a' w' hk hs' => ?_
  have fin : aRes P rs s' (fun vs => ∃ v h', leV v (packV vs) ∧ leH h' s'.heap ∧ R v h') → a'.defers = [] ∧ ∃ v, (results fn a'.tmps).run P w' = .ok v w' ∧ (fun e w' => ∃ x v h' g', e = Ending.returned x ∧ R v h' ∧ RelV g' v x ∧ WI g' h' w' ∧ Cum (entry g h w) g' h' w') (.returned v) w' := by
    intro h1
    obtain ⟨vs, ys, ⟨vr, h', hle, hsub, hR⟩, h3, h4⟩ := aRes_sound hs' h1
    refine ⟨hs'.defers.1, if h : ys.toArray.size = 1 then ys.toArray[0] else .tuple ys.toArray, ?_, _, vr, h', g', rfl, hR, leV_rel hle ?_, hs'.wi.le hsub, hs'.cum.le hsub⟩
    · unfold results
      rw [Array.mapM_eq_mapM_toList, hrs]
      simp only []
      rw [Sem.run_bind]
      have h5 : Sem.run P (List.toArray <$> rs.mapM fun
          | .tmp t => pure (a'.tmps.getD t undef)
          | .cell b t => do loadVar t (← asAddr (a'.tmps.getD b undef))) w' = .ok ys.toArray w' := by
        rw [← bind_pure_comp, Sem.run_bind, h4]
        rfl
      refine (congrArg (fun r : Result (Array Value) => r.andThen _) h5).trans ?_
      simp only [Result.andThen_ok, Sem.run_pure]
    · cases h3 with
      | nil => exact ⟨#[], by simp, .nil⟩
      | cons hab t =>
        cases t with
        | nil => simpa [packV] using hab
        | cons hcd t =>
          simp only [List.size_toArray, List.length_cons]
          rw [dif_neg (by omega)]
          refine ⟨_, rfl, ?_⟩
          show All2 (RelW g') (List.map V.toW _) _
          exact (All2.cons hab (All2.cons hcd t)).map fun _ _ h => toW_rel h
  cases e with
  | normal => exact fin hk
  | exit i => exact hk.elim
  | ret => exact fin hk
end
end Go.Proofs.Ytamcjecgkfmjkaa
