/- The logic: '==' of arrays and structs of numbers and truths. -/
import Derived.Test.YtamcjecgkfmjkaaAw
import Derived.Laws.StructEq
import Derived.ChangeKeysEq
open Go Go.RowKit
namespace Go.Proofs.Ytamcjecgkfmjkaa
set_option linter.unusedSimpArgs false
set_option linter.unusedVariables false
/-- the kinds of the fields' cells, one behind the other -/
def flatFs (K : TypeId → Option (List (Option IntKind))) : Nat → List Field → Option (List (Option IntKind))
  | _, [] => some []
  | off, f :: fs => if f.name = "_" ∨ f.offset ≠ off then none else
    match K f.type with
    | some ks => (flatFs K (off + ks.length) fs).map (ks ++ ·)
    | none => none
/-- the kinds of a type's cells (none: a truth) -/
def flatK (P : Program) : Nat → TypeId → Option (List (Option IntKind))
  | 0, _ => none
  | d + 1, t =>
    if (P.info? t).isNone then none else
    match P.underlying t with
    | some .bool => some [none]
    | some (.int k) => some [some k]
    | some (.array n e) => match flatK P d e with
      | some ks => if P.cellsOf e = ks.length ∧ P.cellsOf t = n * ks.length then some (List.replicate n ks).flatten else none
      | none => none
    | some (.struct fs) => if P.stoodInHeld t = true ∨ d = 0 then none else match flatFs (flatK P d) 0 fs.toList with
      | some ks => if P.cellsOf t = ks.length then some ks else none
      | none => none
    | _ => none
def okK : Option IntKind → Value → Prop
  | none, v => ∃ b, v = .bool b
  | some k, v => ∃ n, v = .int k n
def aggB (P : Program) (t : TypeId) : Bool := match P.underlying t with
  | some (.struct _) => true
  | some (.array _ _) => true
  | _ => false
/-- cells as a value of the type -/
def mkT (P : Program) (t : TypeId) (us : List Value) : Value := if aggB P t then .agg us.toArray else us.headD undef
section
variable {P : Program}
theorem run_isAgg' {t : TypeId} {d : TypeDesc} (h : P.underlying t = some d) (w : World) : (isAgg t).run P w = .ok (aggB P t) w := by
  unfold isAgg aggB
  rw [Sem.run_bind, run_underlying h]
  simp only [Result.andThen_ok, h]
  cases d <;> simp
theorem flatK_und {d : Nat} {t : TypeId} {ks : List (Option IntKind)} (h : flatK P (d + 1) t = some ks) : ∃ i ds, P.info? t = some i ∧ P.underlying t = some ds := by
  unfold flatK at h
  cases hi : P.info? t with
  | none => simp [hi] at h
  | some i =>
    cases hu : P.underlying t with
    | none => simp [hi, hu] at h
    | some ds => exact ⟨i, ds, rfl, rfl⟩
theorem flatK_scalar {d : Nat} {t : TypeId} {ks : List (Option IntKind)} (h : flatK P (d + 1) t = some ks) (hb : aggB P t = false) : (P.underlying t = some .bool ∧ ks = [none]) ∨ ∃ k, P.underlying t = some (.int k) ∧ ks = [some k] := by
  unfold flatK at h
  unfold aggB at hb
  split at h
  · cases h
  · split at h
    · rename_i hu; cases h; exact .inl ⟨hu, rfl⟩
    · rename_i k hu; cases h; exact .inr ⟨_, hu, rfl⟩
    · rename_i hu; rw [hu] at hb; cases hb
    · rename_i hu; rw [hu] at hb; cases hb
    · cases h
theorem flatK_size {d : Nat} {t : TypeId} {ks : List (Option IntKind)} (h : flatK P (d + 1) t = some ks) (hb : aggB P t = true) : P.cellsOf t = ks.length := by
  unfold flatK at h
  unfold aggB at hb
  split at h
  · cases h
  · split at h
    · rename_i hu; rw [hu] at hb; cases hb
    · rename_i hu; rw [hu] at hb; cases hb
    · split at h
      · split at h
        · rename_i hq; cases h; rw [hq.2]; simp
        · cases h
      · cases h
    · split at h
      · cases h
      · split at h
        · split at h
          · rename_i hq; cases h; exact hq
          · cases h
        · cases h
    · cases h
/-- a part of an aggregate -/
theorem run_part' {d : Nat} {t : TypeId} {ks : List (Option IntKind)} (h : flatK P (d + 1) t = some ks) (xs : List Value) (off : Nat) (hl : off + ks.length ≤ xs.length) (w : World) :
    (part t xs.toArray off).run P w = .ok (mkT P t ((xs.drop off).take ks.length)) w := by
  obtain ⟨i, ds, hi, hu⟩ := flatK_und h
  have ha := run_isAgg' hu w
  cases hb : aggB P t with
  | true =>
    have hs := flatK_size h hb
    have e : i.size = ks.length := by rw [← hs]; simp [Program.cellsOf, hi]
    rw [hb] at ha
    simp only [part, Sem.run_bind, ha, Result.andThen_ok, if_true, sizeOf, typeInfo, hi, mkT, hb, e]
    simp [hi, e, List.extract_eq_take_drop]
  | false =>
    have h1 : ks.length = 1 := by
      rcases flatK_scalar h hb with ⟨_, rfl⟩ | ⟨_, _, rfl⟩ <;> rfl
    rw [hb] at ha
    rw [h1] at hl
    have hlt : off < xs.length := by omega
    simp only [part, Sem.run_bind, ha, Result.andThen_ok, mkT, hb, h1]
    have e : (List.take 1 (List.drop off xs)).headD undef = xs[off] := by rw [List.drop_eq_getElem_cons hlt]; rfl
    rw [e]
    simp [hlt]
theorem sub_ok {ks : List (Option IntKind)} {us : List Value} (h : All2 okK ks us) (off n : Nat) : All2 okK ((ks.drop off).take n) ((us.drop off).take n) := (h.drop off).take n
theorem eqB {α : Type} {b : Bool} {x y : α} : (b = true ↔ x = y) → (b = false ↔ ¬ x = y) := fun h => by cases b <;> simp_all
/-- what '==' answers -/
def EqRun (P : Program) (d : Nat) (t : TypeId) (us vs : List Value) : Prop := ∃ b : Bool, (b = true ↔ us = vs) ∧ ∀ w : World, (Op.equalIn d t (mkT P t us) (mkT P t vs)).run P w = .ok b w
theorem split_eq {α : Type} {us vs : List α} {n : Nat} (hl : us.length = vs.length) : us = vs ↔ us.take n = vs.take n ∧ us.drop n = vs.drop n :=
  ⟨fun h => by subst h; exact ⟨rfl, rfl⟩, fun ⟨h1, h2⟩ => by rw [← List.take_append_drop n us, h1, h2, List.take_append_drop]⟩
theorem eqItems_run {d : Nat} {e : TypeId} {ks : List (Option IntKind)} (hk : flatK P (d + 1) e = some ks) (hc : P.cellsOf e = ks.length) (IH : ∀ us vs, All2 okK ks us → All2 okK ks vs → EqRun P (d + 1) e us vs)
    (us vs : List Value) (N : Nat) (hu : All2 okK (List.replicate N ks).flatten us) (hv : All2 okK (List.replicate N ks).flatten vs) :
    ∀ (n a : Nat), a + n = N → ∃ b : Bool, (b = true ↔ us.drop (a * ks.length) = vs.drop (a * ks.length)) ∧ ∀ w : World, (Op.eqItems (d + 1) e (P.cellsOf e) us.toArray vs.toArray (List.range' a n)).run P w = .ok b w := by
  have lu := hu.length
  have lv := hv.length
  have lN : ((List.replicate N ks).flatten).length = N * ks.length := by simp
  intro n
  induction n with
  | zero =>
    intro a ha
    refine ⟨true, ?_, fun w => by simp [Op.eqItems]⟩
    have h1 : us.drop (a * ks.length) = [] := List.drop_eq_nil_of_le (by rw [← lu, lN]; simp at ha; subst ha; omega)
    have h2 : vs.drop (a * ks.length) = [] := List.drop_eq_nil_of_le (by rw [← lv, lN]; simp at ha; subst ha; omega)
    simp [h1, h2]
  | succ n ih =>
    intro a ha
    obtain ⟨b2, hb2, hr2⟩ := ih (a + 1) (by omega)
    have hfit : a * ks.length + ks.length ≤ N * ks.length := by rw [← Nat.succ_mul]; exact Nat.mul_le_mul_right _ (by omega)
    have hks : ((List.replicate N ks).flatten.drop (a * ks.length)).take ks.length = ks := by
      have e1 : List.replicate N ks = List.replicate a ks ++ ks :: List.replicate n ks := by
        rw [← List.replicate_succ, List.replicate_append_replicate]; congr 1; omega
      rw [e1, List.flatten_append, List.drop_left' (by simp), List.flatten_cons, List.take_left' rfl]
    have su := sub_ok hu (a * ks.length) ks.length
    have sv := sub_ok hv (a * ks.length) ks.length
    rw [hks] at su sv
    obtain ⟨b1, hb1, hr1⟩ := IH _ _ su sv
    have hp1 := fun w => run_part' hk us (a * ks.length) (by rw [← lu, lN]; omega) w
    have hp2 := fun w => run_part' hk vs (a * ks.length) (by rw [← lv, lN]; omega) w
    refine ⟨b1 && b2, ?_, fun w => ?_⟩
    · rw [Bool.and_eq_true, hb1, hb2, split_eq (n := ks.length) (us := us.drop (a * ks.length)) (by simp; omega)]
      rw [List.drop_drop, List.drop_drop, Nat.succ_mul]
    · simp only [List.range'_succ, Op.eqItems, Sem.run_bind, hc]
      rw [hp1, Result.andThen_ok, hp2, Result.andThen_ok, hr1, Result.andThen_ok]
      cases b1
      · simp
      · have := hr2 w
        rw [hc] at this
        simp [this]
theorem eqFields_run {d : Nat} (IH : ∀ t ks us vs, flatK P (d + 1) t = some ks → All2 okK ks us → All2 okK ks vs → EqRun P (d + 1) t us vs) (us vs : List Value) (hl : us.length = vs.length) :
    ∀ (fs : List Field) (off : Nat) (ks : List (Option IntKind)), off ≤ us.length → flatFs (flatK P (d + 1)) off fs = some ks → All2 okK ks (us.drop off) → All2 okK ks (vs.drop off) →
      ∃ b : Bool, (b = true ↔ us.drop off = vs.drop off) ∧ ∀ w : World, (Op.eqFields (d + 1) us.toArray vs.toArray fs).run P w = .ok b w := by
  intro fs
  induction fs with
  | nil =>
    intro off ks hz h hu hv
    cases h
    refine ⟨true, ?_, fun w => by simp [Op.eqFields]⟩
    rw [hu.nil_inv, hv.nil_inv]
    simp
  | cons f fs ih =>
    intro off ks hz h hu hv
    unfold flatFs at h
    split at h
    · cases h
    · rename_i hn
      obtain ⟨hname, hoff⟩ : f.name ≠ "_" ∧ f.offset = off := by
        constructor
        · exact fun e => hn (.inl e)
        · exact Decidable.byContradiction fun e => hn (.inr e)
      split at h
      · rename_i k1 hk1
        simp only [Option.map_eq_some_iff] at h
        obtain ⟨k2, hk2, rfl⟩ := h
        have lu := hu.length
        have lv := hv.length
        simp only [List.length_append, List.length_drop] at lu lv
        have su := hu.take k1.length
        have sv := hv.take k1.length
        have ru := hu.drop k1.length
        have rv := hv.drop k1.length
        rw [List.take_left' rfl] at su sv
        rw [List.drop_left' rfl, List.drop_drop] at ru rv
        obtain ⟨b1, hb1, hr1⟩ := IH f.type k1 _ _ hk1 su sv
        obtain ⟨b2, hb2, hr2⟩ := ih (off + k1.length) k2 (by omega) hk2 ru rv
        have hp1 := fun w => run_part' hk1 us off (by omega) w
        have hp2 := fun w => run_part' hk1 vs off (by omega) w
        refine ⟨b1 && b2, ?_, fun w => ?_⟩
        · rw [Bool.and_eq_true, hb1, hb2, split_eq (n := k1.length) (us := us.drop off) (by simp; omega), List.drop_drop, List.drop_drop]
        · simp only [Op.eqFields, hname, ne_eq, not_false_eq_true, if_true, Sem.run_bind, hoff]
          rw [hp1, Result.andThen_ok, hp2, Result.andThen_ok, hr1, Result.andThen_ok]
          cases b1
          · simp
          · simpa using hr2 w
      · cases h
theorem eq_run : ∀ (d : Nat) (t : TypeId) (ks : List (Option IntKind)) (us vs : List Value), flatK P d t = some ks → All2 okK ks us → All2 okK ks vs → EqRun P d t us vs := by
  intro d
  induction d with
  | zero => intro t ks us vs h; cases h
  | succ d ih =>
    intro t ks us vs h hu hv
    cases hb : aggB P t with
    | false =>
      rcases flatK_scalar h hb with ⟨hq, rfl⟩ | ⟨k, hq, rfl⟩
      · obtain ⟨u, us', rfl, ⟨a, rfl⟩, h2⟩ := hu.cons_inv
        obtain ⟨v, vs', rfl, ⟨b, rfl⟩, h3⟩ := hv.cons_inv
        obtain rfl := h2.nil_inv
        obtain rfl := h3.nil_inv
        refine ⟨a == b, by simp, fun w => ?_⟩
        simp only [mkT, hb, Bool.false_eq_true, if_false, List.headD_cons]
        exact run_equalIn_bool' w d t a b hq
      · obtain ⟨u, us', rfl, ⟨a, rfl⟩, h2⟩ := hu.cons_inv
        obtain ⟨v, vs', rfl, ⟨b, rfl⟩, h3⟩ := hv.cons_inv
        obtain rfl := h2.nil_inv
        obtain rfl := h3.nil_inv
        refine ⟨a == b, by simp, fun w => ?_⟩
        simp only [mkT, hb, Bool.false_eq_true, if_false, List.headD_cons]
        exact run_equalIn_int w d t k k a b hq
    | true =>
      obtain ⟨i, ds, hi, hq⟩ := flatK_und h
      unfold flatK at h
      simp only [hi, Option.isNone_some, Bool.false_eq_true, if_false] at h
      split at h
      · rename_i hq'; unfold aggB at hb; rw [hq'] at hb; cases hb
      · rename_i hq'; unfold aggB at hb; rw [hq'] at hb; cases hb
      · rename_i n e hq'
        split at h
        · rename_i k1 hk1
          split at h
          · rename_i hc
            cases h
            cases d with
            | zero => cases hk1
            | succ d =>
              obtain ⟨ie, _, hie, _⟩ := flatK_und hk1
              obtain ⟨b, hb1, hr⟩ := eqItems_run hk1 hc.1 (fun us vs => ih e k1 us vs hk1) us vs n hu hv n 0 (by omega)
              refine ⟨b, by simpa using hb1, fun w => ?_⟩
              simp only [mkT, hb, if_true]
              rw [run_equalIn_array w (d + 1) _ _ hq' hie, List.range_eq_range']
              exact hr w
          · cases h
        · cases h
      · rename_i fs hq'
        split at h
        · cases h
        · rename_i hn
          split at h
          · rename_i k1 hk1
            split at h
            · cases h
              cases d with
              | zero => exact absurd (.inr rfl) hn
              | succ d =>
                obtain ⟨b, hb1, hr⟩ := eqFields_run (fun t ks us vs => ih t ks us vs) us vs (by rw [← hu.length, hv.length]) fs.toList 0 _ (Nat.zero_le _) hk1 hu hv
                refine ⟨b, by simpa using hb1, fun w => ?_⟩
                simp only [mkT, hb, if_true]
                have hf : P.fieldsOf t = fs := by unfold Program.fieldsOf; rw [hq']
                rw [run_equalIn_struct w (d + 1) t _ _ (by rw [hf]; exact hq') (by
                  cases hs : P.stoodInHeld t with
                  | false => rfl
                  | true => exact absurd (.inl hs) hn), hf]
                exact hr w
            · cases h
          · cases h
      · cases h
theorem flatK_mono : ∀ (d d' : Nat) (t : TypeId) (ks : List (Option IntKind)), d ≤ d' → flatK P d t = some ks → flatK P d' t = some ks := by
  intro d
  induction d with
  | zero => intro d' t ks _ h; cases h
  | succ d ih =>
    intro d' t ks hle h
    obtain ⟨d', rfl⟩ : ∃ x, d' = x + 1 := ⟨d' - 1, by omega⟩
    have hd : d ≤ d' := by omega
    unfold flatK at h ⊢
    split at h
    · cases h
    · rename_i h0
      rw [if_neg h0]
      split at h
      · exact h
      · exact h
      · split at h
        · rename_i k1 hk1
          rw [ih d' _ _ hd hk1]
          exact h
        · cases h
      · split at h
        · cases h
        · rename_i hn
          have hn' : ¬ (P.stoodInHeld t = true ∨ d' = 0) := fun h => hn (h.imp id (by omega))
          rw [if_neg hn']
          split at h
          · rename_i k1 hk1
            have key : ∀ (fs : List Field) (off : Nat) (ks : List (Option IntKind)), flatFs (flatK P d) off fs = some ks → flatFs (flatK P d') off fs = some ks := by
              intro fs
              induction fs with
              | nil => intro off ks h; exact h
              | cons f fs ihf =>
                intro off ks h
                unfold flatFs at h ⊢
                split at h
                · cases h
                · rename_i hq
                  rw [if_neg hq]
                  split at h
                  · rename_i k2 hk2
                    rw [ih d' _ _ hd hk2]
                    simp only [Option.map_eq_some_iff] at h ⊢
                    obtain ⟨k3, hk3, rfl⟩ := h
                    exact ⟨k3, ihf _ _ hk3, rfl⟩
                  · cases h
            rw [key _ _ _ hk1]
            exact h
          · cases h
      · cases h
/-- the kinds of an aggregate's cells -/
def flatT (P : Program) (t : TypeId) : Option (List (Option IntKind)) := if P.eqGuardType P.depth t = false ∧ aggB P t = true then flatK P 8 t else none
theorem flat_run {t : TypeId} {ks : List (Option IntKind)} {us vs : List Value} (h : flatT P t = some ks) (hu : All2 okK ks us) (hv : All2 okK ks vs) (X Y : Operand) :
    ∃ b : Bool, (b = true ↔ us = vs) ∧ (∀ w : World, (do eqGuard .eql t X Y (.agg us.toArray) (.agg vs.toArray); binOp .eql t (.agg us.toArray) (.agg vs.toArray) : Sem Value).run P w = .ok (.bool b) w) ∧
      (∀ w : World, (do eqGuard .neq t X Y (.agg us.toArray) (.agg vs.toArray); binOp .neq t (.agg us.toArray) (.agg vs.toArray) : Sem Value).run P w = .ok (.bool !b) w) := by
  unfold flatT at h
  split at h
  · rename_i hg
    obtain ⟨b, hb, hr⟩ := eq_run 10000 t ks us vs (flatK_mono _ _ _ _ (by decide) h) hu hv
    simp only [mkT, hg.2, if_true] at hr
    refine ⟨b, hb, fun w => ?_, fun w => ?_⟩
    · rw [Sem.run_bind, run_eqGuard_agg w .eql t X Y _ _ hg.1, Result.andThen_ok, run_eql_struct, hr, Result.andThen_ok]
    · rw [Sem.run_bind, run_eqGuard_agg w .neq t X Y _ _ hg.1, Result.andThen_ok, run_neq_struct, hr, Result.andThen_ok]
  · cases h
/-- '==' of aggregates of numbers and truths -/
def aEqA (q : Option (List (Option IntKind))) (cs ds : List C) (K : Bool → Prop) : Prop :=
  ∃ ks us vs, q = some ks ∧ cs = us.map C.val ∧ ds = vs.map C.val ∧ All2 okK ks us ∧ All2 okK ks vs ∧ ∀ b : Bool, (b = true ↔ us = vs) → K b
theorem vals_eq {g : Gh} : ∀ {us : List Value} {ys : List Value}, All2 (RelC g) (us.map C.val) ys → ys = us
  | [], ys, h => h.nil_inv
  | u :: us, ys, h => by
    obtain ⟨y, ys', rfl, ⟨_, rfl⟩, h2⟩ := h.cons_inv
    rw [vals_eq h2]
theorem run_eqA {g : Gh} {t : TypeId} {cs ds : List C} {u v : Value} {K : Bool → Prop} (hx : RelW g (.agg cs) u) (hy : RelW g (.agg ds) v) (h : aEqA (flatT P t) cs ds K) (X Y : Operand) :
    ∃ b, K b ∧ (∀ w : World, (do eqGuard .eql t X Y u v; binOp .eql t u v : Sem Value).run P w = .ok (.bool b) w) ∧ (∀ w : World, (do eqGuard .neq t X Y u v; binOp .neq t u v : Sem Value).run P w = .ok (.bool !b) w) := by
  obtain ⟨ks, us, vs, hq, rfl, rfl, hu, hv, hK⟩ := h
  obtain ⟨xs, rfl, hx⟩ := hx
  obtain ⟨ys, rfl, hy⟩ := hy
  have ex := vals_eq hx
  have ey := vals_eq hy
  obtain ⟨b, hb, h1, h2⟩ := flat_run hq hu hv X Y
  have e1 : us.toArray = xs := by rw [← ex]
  have e2 : vs.toArray = ys := by rw [← ey]
  rw [e1, e2] at h1 h2
  exact ⟨b, hK b hb, h1, h2⟩
end
end Go.Proofs.Ytamcjecgkfmjkaa
