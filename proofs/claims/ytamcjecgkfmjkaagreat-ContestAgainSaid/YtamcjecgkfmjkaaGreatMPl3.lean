/- Parts of a proof: From the logic to the rows of the laws: rows of structs of numbers, Numbers of both signs as digits of seven bits, in plain words, The logic: states of a game as rows of twenty cells, What the logic asks of the types of this program, The logic: rows of instructions (two numbers each), The logic: cells laid over rows that are joined of parts; cells of a state, Chapter 18: the cells of a Contest (written by genbox.py), Chapter 18: a match, in plain words; who sits where, what may be, From the logic to the rows of the laws: an event, Chapter 18: what an event does, The logic: rows whose items take several cells grow, Chapter 18: copies; what a match tells. -/
import Derived.Test.YtamcjecgkfmjkaaGreatMPl2
import Derived.Deep.Slices
import Derived.Test.YtamcjecgkfmjkaaGreatProg
set_option linter.unusedSimpArgs false
set_option linter.unusedVariables false
open Go Go.RowKit
namespace Go.Proofs.YtamcjecgkfmjkaaGreat
section
open Go Go.RowKit Go.ChangeShapes Go.WideShapes
theorem All2.app' {α β : Type} {R : α → β → Prop} {a c : List α} {b d : List β} (h1 : All2 R a b) (h2 : All2 R c d) : All2 R (a ++ c) (b ++ d) := by
  induction h1 with
  | nil => exact h2
  | cons h _ ih => exact .cons h ih
def okV : Option IntKind → Value → Prop
  | none, v => ∃ b, v = .bool b
  | some k, v => ∃ n, v = .int k n ∧ (Lit.int k n).wf = true
theorem All2.split {α β : Type} {R : α → β → Prop} {a b : List α} {l : List β} (h : All2 R (a ++ b) l) : ∃ l1 l2, l = l1 ++ l2 ∧ All2 R a l1 ∧ All2 R b l2 := by
  refine ⟨l.take a.length, l.drop a.length, (List.take_append_drop _ _).symm, ?_, ?_⟩
  · have := h.take a.length; rwa [List.take_left' rfl] at this
  have := h.drop a.length; rwa [List.drop_left' rfl] at this
section
variable {H : Type} {enc : TypeId × Value → H} {P : Program} {w : World} {base : Nat} {sp : Nat → Bool} {held : Bool}
theorem flatFs_ok {K : TypeId → Option (List (Option IntKind))} {cs : List Value} : ∀ (fs : List Field) (off : Nat) (ks : List (Option IntKind)), flatFs K off fs = some ks →
    (∀ f ∈ fs, ∀ k1, K f.type = some k1 → All2 okV k1 ((cs.drop f.offset).take (P.cellsOf f.type))) → All2 okV ks ((cs.drop off).take ks.length) := by
  intro fs
  induction fs with
  | nil => intro off ks h _; cases h; exact .nil
  | cons f fs ih =>
    intro off ks h hf
    unfold flatFs at h
    split at h
    · cases h
    rename_i hn
    have hoff : f.offset = off := Decidable.byContradiction fun e => hn (.inr e)
    split at h
    · rename_i k1 hk1
      simp only [Option.map_eq_some_iff] at h
      obtain ⟨k2, hk2, rfl⟩ := h
      have h1 := hf f (List.mem_cons_self ..) k1 hk1
      rw [hoff] at h1
      have hl := h1.length
      have hc : (cs.drop off).take k1.length = (cs.drop off).take (P.cellsOf f.type) := by
        have e : ((cs.drop off).take (P.cellsOf f.type)).take k1.length = (cs.drop off).take (P.cellsOf f.type) := List.take_of_length_le (by omega)
        rw [List.take_take] at e
        have hle : k1.length ≤ P.cellsOf f.type := by rw [hl, List.length_take]; omega
        rw [Nat.min_eq_left hle] at e
        exact e
      have h2 := ih (off + k1.length) k2 hk2 fun g hg => hf g (List.mem_cons_of_mem _ hg)
      rw [List.length_append, List.take_add, hc, List.drop_drop]
      exact h1.app' h2
    cases h
theorem flat_trod : ∀ (d : Nat) {t : TypeId} {ks : List (Option IntKind)} {fuel : Nat} {cs : List Value} {x : DataW H × List MemPlace}, flatK P d t = some ks → DataW.trod enc P w base sp held fuel t cs = some x → All2 okV ks cs := by
  intro d
  induction d with
  | zero => intro t ks fuel cs x h; cases h
  | succ d ih =>
    intro t ks fuel cs x h hx
    unfold flatK at h
    split at h
    · cases h
    split at h
    · rename_i hu
      cases h
      obtain ⟨b, rfl, _⟩ := DataW.trod_bool hu hx
      exact .cons ⟨b, rfl⟩ .nil
    · rename_i k hu
      cases h
      obtain ⟨n, rfl, _, hw⟩ := DataW.trod_int hu hx
      exact .cons ⟨n, rfl, hw⟩ .nil
    · rename_i n e hu
      split at h
      · rename_i k1 hk1
        split at h
        · rename_i hc
          cases h
          obtain ⟨xs, m, _, _, hlen, hxl, hall⟩ := DataW.trod_array hu hx
          have key : ∀ j, j ≤ n → All2 okV (List.replicate j k1).flatten (cs.take (j * k1.length)) := by
            intro j
            induction j with
            | zero => intro _; simp only [List.replicate_zero, List.flatten_nil, Nat.zero_mul, List.take_zero]; exact .nil
            | succ j ihj =>
              intro hj
              have h1 := ihj (by omega)
              have hq := hall j (by omega)
              rw [List.getElem?_eq_getElem (by omega)] at hq
              have h2 := ih hk1 hq
              rw [hc.1] at h2
              rw [show List.replicate (j + 1) k1 = List.replicate j k1 ++ [k1] by rw [List.replicate_succ'], List.flatten_append, Nat.succ_mul, List.take_add]
              simp only [List.flatten_cons, List.flatten_nil, List.append_nil]
              exact h1.app' h2
          have := key n (Nat.le_refl _)
          rwa [List.take_of_length_le (by rw [hlen, hc.2]; omega)] at this
        cases h
      cases h
    · rename_i fs hu
      split at h
      · cases h
      split at h
      · rename_i k1 hk1
        split at h
        · rename_i hc
          cases h
          obtain ⟨xs, m, _, _, hlen, hxl, hall⟩ := DataW.trod_struct hu hx
          have := flatFs_ok (P := P) (cs := cs) fs.toList 0 _ hk1 fun f hf kf hkf => by
            obtain ⟨i, hi⟩ := List.mem_iff_getElem?.1 hf
            have hi' : fs[i]? = some f := by simpa using hi
            have hlt : i < fs.size := by
              have := (List.getElem?_eq_some_iff.1 hi).1; simpa using this
            have hq := hall i f hi'
            rw [List.getElem?_eq_getElem (by omega)] at hq
            exact ih hkf hq
          rw [List.drop_zero, List.take_of_length_le (by omega)] at this
          exact this
        cases h
      cases h
    cases h
end
def i64B (n : Int) : Prop := -9223372036854775808 ≤ n ∧ n ≤ 9223372036854775807
theorem i64_wf {n : Int} (h : (Lit.int .i64 n).wf = true) : i64B n := by
  simp only [Lit.wf, Bool.and_eq_true, decide_eq_true_eq] at h
  have e1 : IntKind.i64.min = -9223372036854775808 := by kernel_rfl
  have e2 : IntKind.i64.max = 9223372036854775807 := by kernel_rfl
  rw [e1, e2] at h
  exact h
theorem okW_scalar {k : Option IntKind} {v : Value} (h : okV k v) : scalar v = true := by
  cases k with
  | none => obtain ⟨b, rfl⟩ := h; rfl
  | some k => obtain ⟨n, rfl, _⟩ := h; rfl
theorem okW_all {ks : List (Option IntKind)} {vs : List Value} (h : All2 okV ks vs) : ∀ v ∈ vs, scalar v = true := by
  induction h with
  | nil => intro v hv; cases hv
  | cons h _ ih => intro v hv; rcases List.mem_cons.1 hv with rfl | hv
                   · exact okW_scalar h
                   exact ih v hv
theorem flat_row {α : Type} {sz : Nat} : ∀ (L : List (List α)), (∀ r ∈ L, r.length = sz) → L.flatten.length = L.length * sz ∧ ∀ (j i : Nat), i < sz → L.flatten[j * sz + i]? = (L[j]?).bind (·[i]?)
  | [], _ => ⟨by simp, fun j i _ => by simp⟩
  | r :: L, h => by
    obtain ⟨h1, h2⟩ := flat_row L fun r hr => h r (List.mem_cons_of_mem _ hr)
    have hr := h r (List.mem_cons_self ..)
    refine ⟨by simp only [List.flatten_cons, List.length_append, h1, hr, List.length_cons, Nat.succ_mul]; omega, fun j i hi => ?_⟩
    rw [List.flatten_cons]
    cases j with
    | zero => rw [Nat.zero_mul, Nat.zero_add, List.getElem?_append_left (by omega)]; simp
    | succ j =>
      rw [List.getElem?_append_right (by rw [Nat.succ_mul]; omega), show (j + 1) * sz + i - r.length = j * sz + i by rw [Nat.succ_mul]; omega, h2 j i hi]
      simp
theorem open_flats {H : Type} {enc : TypeId × Value → H} {P : Program} {W : World} {t e : TypeId} {ks : List (Option IntKind)} {v : Value} {d : DataW H} {ps : List MemPlace} {r : Reach} {b0 sz : Nat}
    (hu : P.underlying t = some (.slice e)) (hk : flatK P 8 e = some ks) (hsz : ks.length = sz) (h0 : 0 < sz)
    (hv : Value.okWide P W r b0 t v) (h : DataW.Trod enc P W 0 (fun _ => true) true t v d ps) :
    ∃ L : List (List Value), (∀ q ∈ L, All2 okV ks q) ∧ L.length ≤ maxLen ∧ RelW (ghOf W) (.c (.lst .no none sz (L.flatten.map D.val))) v := by
  obtain ⟨a, len, cap, rfl⟩ := okWide_slice hu hv
  obtain ⟨fuel, hf⟩ := h
  rcases Go.Deep.open_slice hu hf with ⟨hcs, _⟩ | ⟨x, l, c, m, n, D', Pl, hcs, _, hl, hm, hmm, _, hx⟩
  · simp [Value.cells] at hcs
    obtain ⟨rfl, rfl, rfl⟩ := hcs
    exact ⟨[], by simp, by simp, ⟨RelD.nil (by simp) h0, trivial⟩⟩
  simp [Value.cells] at hcs
  obtain ⟨rfl, rfl, rfl⟩ := hcs
  have hlm : len ≤ m := by rw [hmm]; simp only [if_true]; exact hl
  have hV : ∀ i, i < len → ∃ cs' : List Value, (∀ j, j < sz → W.cell? (x.add (i * sz + j)) = cs'[j]?) ∧ All2 okV ks cs' := by
    intro i hi
    obtain ⟨cs', h1, h2⟩ := hx i (by omega)
    have h3 := flat_trod 8 hk h2
    obtain ⟨_, h4, h5⟩ := World.cells?_some h1
    have h6 : P.cellsOf e = sz := by rw [← h4, ← h3.length, hsz]
    rw [h6] at h5
    refine ⟨cs', fun j hj => ?_, h3⟩
    rw [← add_of_add]
    exact h5 j hj
  obtain ⟨V, hV⟩ := Go.Deep.choose_lt hV
  have hL : ∀ q ∈ (List.range len).map V, All2 okV ks q := by
    intro q hq
    simp only [List.mem_map, List.mem_range] at hq
    obtain ⟨i, hi, rfl⟩ := hq
    exact (hV i hi).2
  have hl2 : ∀ q ∈ (List.range len).map V, q.length = sz := fun q hq => by rw [← (hL q hq).length, hsz]
  obtain ⟨f1, f2⟩ := flat_row _ hl2
  rw [List.length_map, List.length_range] at f1
  refine ⟨(List.range len).map V, hL, by simp; omega, ⟨RelD.mk (by simp) h0 (by simp only [List.length_map, f1]) hl hm ?_, trivial⟩⟩
  intro i dd hi
  rw [List.getElem?_map, Option.map_eq_some_iff] at hi
  obtain ⟨u, hu2, rfl⟩ := hi
  have hlt := (List.getElem?_eq_some_iff.1 hu2).1
  rw [f1] at hlt
  have e1 : i / sz * sz + i % sz = i := by rw [Nat.mul_comm]; exact Nat.div_add_mod i sz
  have e2 : i / sz < len := Nat.div_lt_of_lt_mul (by rw [Nat.mul_comm]; exact hlt)
  have e3 : i % sz < sz := Nat.mod_lt _ h0
  have h7 := f2 (i / sz) (i % sz) e3
  rw [e1, hu2] at h7
  have h8 := (hV _ e2).1 _ e3
  rw [e1] at h8
  rw [List.getElem?_map, List.getElem?_range e2] at h7
  simp only [Option.map_some, Option.bind_some] at h7
  refine ⟨u, by rw [show (ghOf W).M = fun a => W.cell? a from rfl]; dsimp only; rw [h8, ← h7], .val ?_⟩
  exact okW_all (hV _ e2).2 u (List.mem_of_getElem? h7.symm)
end
section
def ofI (n : Int) : UInt64 := UInt64.ofNat (n % 18446744073709551616).toNat
theorem ofI_nat (n : Int) : ((ofI n).toNat : Int) = n % 18446744073709551616 := by
  unfold ofI
  rw [UInt64.toNat_ofNat']
  omega
section
variable {V' : V → Prop} {k k' : IntKind} {a b : Int}
@[go_sem ↓ 1050] theorem cv_i_64g (n : Int) : aCv (some .u64) n V' = V' (.int .u64 (U64 (ofI n))) := by
  have e : IntKind.u64.wrap n = U64 (ofI n) := by rw [wrap_u64_]; unfold U64; rw [ofI_nat]
  rw [← e]; rfl
@[go_sem ↓ 1150] theorem e_shl1 : aInt .shl .i64 a k' 1 V' = V' (.int .i64 (IntKind.i64.wrap (a * 2))) := by rw [e_shl (by decide)]; rfl
@[go_sem ↓ 1150] theorem e_shr63 : aInt .shr .i64 a k' 63 V' = V' (.int .i64 (a / 9223372036854775808)) := by
  rw [e_shr (by decide)]
  have e : a.fdiv (2 ^ min (63 : Int).toNat IntKind.i64.bits) = a / 9223372036854775808 := Int.fdiv_eq_ediv_of_nonneg a (by decide)
  rw [e]
def ofI8 (n : Int) : UInt8 := UInt8.ofNat (n % 256).toNat
theorem ofI8_nat (n : Int) : ((ofI8 n).toNat : Int) = n % 256 := by
  unfold ofI8
  rw [UInt8.toNat_ofNat']
  omega
@[go_sem ↓ 1050] theorem cv_i_8g (n : Int) : aCv (some .u8) n V' = V' (.int .u8 (U8 (ofI8 n))) := by
  have e : IntKind.u8.wrap n = U8 (ofI8 n) := by rw [wrap_u8_]; unfold U8; rw [ofI8_nat]
  rw [← e]; rfl
def ofI32 (n : Int) : UInt32 := UInt32.ofNat (n % 4294967296).toNat
theorem ofI32_nat (n : Int) : ((ofI32 n).toNat : Int) = n % 4294967296 := by
  unfold ofI32
  rw [UInt32.toNat_ofNat']
  omega
@[go_sem ↓ 1050] theorem cv_i_32g (n : Int) : aCv (some .u32) n V' = V' (.int .u32 (U32 (ofI32 n))) := by
  have e : IntKind.u32.wrap n = U32 (ofI32 n) := by rw [wrap_u32_]; unfold U32; rw [ofI32_nat]
  rw [← e]; rfl
def wI32 (x : UInt32) : Int := IntKind.i32.wrap (U32 x)
@[go_sem ↓ 1050] theorem cv_32_i32 (x : UInt32) : aCv (some .i32) (U32 x) V' = V' (.int .i32 (wI32 x)) := nr rfl
def wI (x : UInt64) : Int := IntKind.i64.wrap (U64 x)
@[go_sem ↓ 1200] theorem cv_64_i (x : UInt64) : aCv (some .i64) (U64 x) V' = V' (.int .i64 (wI x)) := nr rfl
def xori (a b : Int) : Int := IntKind.i64.wrap (BitVec.ofInt IntKind.i64.bits a ^^^ BitVec.ofInt IntKind.i64.bits b).toNat
@[go_sem ↓ 1150] theorem e_xori : aInt .xor .i64 a .i64 b V' = V' (.int .i64 (xori a b)) := by simp [aInt, xori]
end
/-! ### digits -/
/-! ### common rules -/
section
variable {P : Program} {V' : V → Prop} {k : IntKind} {a : Int} {t : TypeId}
/-! ### an item of an array -/
def aIxA (P : Program) (q : Option (Option Nat × TypeId × Nat)) (cs : List C) (i : Int) (K : V → Prop) : Prop :=
  match q with
  | some (some n, e, sz) => 0 ≤ i ∧ i < n ∧ aPt (isAggT P e) sz cs (i.toNat * sz) K
  | _ => False
@[congr] theorem cg_aIxA {q q' : Option (Option Nat × TypeId × Nat)} {cs : List C} (h : q = q') : aIxA P q cs a V' = aIxA P q' cs a V' := by rw [h]
@[go_sem ↓] theorem e_ixA {cs : List C} : aIndex P t (.w (.agg cs)) (V.int k a) V' = aIxA P (idxT P t) cs a V' := by
  unfold aIndex aIxA
  simp only
  cases h : idxT P t with
  | none => simp
  | some q =>
    obtain ⟨l, e, sz⟩ := q
    cases l with
    | none => simp
    | some n => simp only [Option.some.injEq, Prod.mk.injEq]; exact propext ⟨fun ⟨_, _, _, ⟨h1, h2, h3⟩, h4⟩ => by subst h1; subst h2; subst h3; exact h4, fun h => ⟨_, _, _, ⟨rfl, rfl, rfl⟩, h⟩⟩
@[go_sem ↓] theorem e_ixA1 {cs : List C} {n e sz : Nat} (h0 : 0 ≤ a) (h1 : a < n) : aIxA P (some (some n, e, sz)) cs a V' = aPt (isAggT P e) sz cs (a.toNat * sz) V' := by simp [aIxA, h0, h1]
@[go_sem ↓] theorem e_ldbox {P : Program} {t : TypeId} {i : Id} {o : Nat} {s : St} {V' : V → Prop} : aLoadBox P t (.cell (.ptr i o)) s V' = ∃ cs, hget s.heap i = some cs ∧ ∃ sz, sizeT P t = some sz ∧ aPart P t sz cs o V' := by
  simp only [aLoadBox]
  exact propext ⟨fun ⟨a, b, h1, h2, h3⟩ => ⟨a, h1, b, h2, h3⟩, fun ⟨a, h1, b, h2, h3⟩ => ⟨a, b, h1, h2, h3⟩⟩
end
section
variable {P : Program} {t : TypeId} {a b : Bool} {V' : V → Prop}
@[go_sem ↓] theorem e_eqBo : aBin P .eql t (V.bool a) (V.bool b) V' = (isBoolT P t = true ∧ V' (.bool (a == b))) := nr rfl
@[go_sem ↓] theorem e_neBo : aBin P .neq t (V.bool a) (V.bool b) V' = (isBoolT P t = true ∧ V' (.bool (a != b))) := nr rfl
attribute [go_sem] bne_self_eq_false beq_self_eq_true Bool.not_true Bool.not_false
end
/-! ### copy -/
def aCp (q : Option (Option Nat × TypeId × Nat)) (i : Id) (off n : Nat) (x : V) (s : St) (K : V → St → Prop) : Prop :=
  match q with
  | some (none, _, 1) => ∃ cs, hget s.heap i = some cs ∧ aSrc 1 x s fun ys => off + min ys.length n ≤ cs.length ∧ K (.int .i64 (min ys.length n : Nat)) ⟨s.slots, hset s.heap i (spl cs off ((ys.take n).map D.toC))⟩
  | _ => False
section
variable {P : Program} {t : TypeId} {i : Id} {off n c : Nat} {x : V} {s : St} {K : V → St → Prop}
@[congr] theorem cg_aCp {q q' : Option (Option Nat × TypeId × Nat)} {s' : St} (h : q = q') (h2 : s = s') : aCp q i off n x s K = aCp q' i off n x s' K := by rw [h, h2]
@[go_sem ↓] theorem e_cpR : aCopy P t (.cell (.row i off n c)) x s K = aCp (idxT P t) i off n x s K := by
  unfold aCopy aCp
  simp only
  refine propext ⟨fun ⟨e, cs, h1, h2, h3⟩ => by rw [h1]; exact ⟨cs, h2, h3⟩, fun h => ?_⟩
  split at h
  · rename_i e hq
    obtain ⟨cs, h2, h3⟩ := h
    exact ⟨_, cs, hq, h2, h3⟩
  exact h.elim
@[go_sem ↓] theorem e_srcR {sz : Nat} {J : List D → Prop} : aSrc sz (.cell (.row i off n c)) s J = ∃ cs, hget s.heap i = some cs ∧ off + n * sz ≤ cs.length ∧ ∃ ds, allD ((cs.drop off).take (n * sz)) = some ds ∧ J ds := by
  simp only [aSrc]
  exact propext ⟨fun ⟨cs, ds, h1, h2, h3, h4⟩ => ⟨cs, h1, h2, ds, h3, h4⟩, fun ⟨cs, h1, h2, ds, h3, h4⟩ => ⟨cs, ds, h1, h2, h3, h4⟩⟩
@[go_sem ↓] theorem e_cp1 {e : Nat} : aCp (some (none, e, 1)) i off n x s K = ∃ cs, hget s.heap i = some cs ∧ aSrc 1 x s fun ys => off + min ys.length n ≤ cs.length ∧ K (.int .i64 (min ys.length n : Nat)) ⟨s.slots, hset s.heap i (spl cs off ((ys.take n).map D.toC))⟩ := nr rfl
end
/-! ### digits -/
end
section
/-- a state -/
structure Sta where
  frame : Int
  cells : List Int
  seed : UInt32
  over : Bool
  win : Int
  len : cells.length = 16
theorem Sta.ext' {a b : Sta} (h1 : a.frame = b.frame) (h2 : a.cells = b.cells) (h3 : a.seed = b.seed) (h4 : a.over = b.over) (h5 : a.win = b.win) : a = b := by
  cases a; cases b; simp_all
def c32 (l : List Int) : List D := l.map fun n => .val (.int .i32 n)
def sd (s : Sta) : List D := .val (.int .i64 s.frame) :: (c32 s.cells ++ [.val (.int .u32 (U32 s.seed)), .val (.bool s.over), .val (.int .i64 s.win)])
def sds (l : List Sta) : List D := (l.map sd).flatten
/-- nothing but a frame and a seed -/
def stz (f : Int) (n : UInt32) : Sta := ⟨f, List.replicate 16 0, n, false, 0, rfl⟩
@[go_sem] theorem c32_len {l : List Int} : (c32 l).length = l.length := by simp [c32]
@[go_sem] theorem sd_len {s : Sta} : (sd s).length = 20 := by simp [sd, c32, s.len]
@[go_sem] theorem sds_nil : sds [] = [] := nr rfl
theorem sds_cons {s : Sta} {l : List Sta} : sds (s :: l) = sd s ++ sds l := by simp [sds]
@[go_sem] theorem sds_len {l : List Sta} : (sds l).length = l.length * 20 := by
  induction l with
  | nil => rfl
  | cons s l ih => rw [sds_cons, List.length_append, sd_len, ih, List.length_cons]; omega
@[go_sem] theorem sds_app {a b : List Sta} : sds a ++ sds b = sds (a ++ b) := by simp [sds]
@[go_sem] theorem sds_app1 {a : List Sta} {s : Sta} : sds a ++ sd s = sds (a ++ [s]) := by simp [sds]
theorem sds_take (l : List Sta) (k : Nat) : (sds l).take (k * 20) = sds (l.take k) := by
  induction l generalizing k with
  | nil => simp [sds]
  | cons s l ih =>
    cases k with
    | zero => simp [sds]
    | succ k => rw [sds_cons, List.take_succ_cons, sds_cons, List.take_append, sd_len, List.take_of_length_le (by rw [sd_len]; omega), show (k + 1) * 20 - 20 = k * 20 by omega, ih]
theorem sds_drop (l : List Sta) (k : Nat) : (sds l).drop (k * 20) = sds (l.drop k) := by
  induction l generalizing k with
  | nil => simp [sds]
  | cons s l ih =>
    cases k with
    | zero => simp [sds]
    | succ k => rw [sds_cons, List.drop_succ_cons, List.drop_append, sd_len, List.drop_eq_nil_of_le (by rw [sd_len]; omega), show (k + 1) * 20 - 20 = k * 20 by omega, ih]; rfl
theorem sds_at {l : List Sta} {k : Nat} (h : k < l.length) (d : Sta) : (sds l).drop (k * 20) = sd (l.getD k d) ++ sds (l.drop (k + 1)) := by
  rw [sds_drop, List.drop_eq_getElem_cons h, sds_cons]
  simp [List.getD, h]
section
variable {P : Program} {V' : V → Prop} {K : C → Prop} {s : Sta} {l : List Sta} {r : List D} {o : Own} {nl : Option Bool} {k : IntKind} {a b : Int} {t : TypeId} {i j : Nat}
/-! ### a state's cells -/
theorem sd17 : (sd s)[17]? = some (.val (.int .u32 (U32 s.seed))) := by
  unfold sd
  rw [List.getElem?_cons_succ, List.getElem?_append_right (by simp [c32, s.len])]
  simp [c32, s.len]
theorem sd18 : (sd s)[18]? = some (.val (.bool s.over)) := by
  unfold sd
  rw [List.getElem?_cons_succ, List.getElem?_append_right (by simp [c32, s.len])]
  simp [c32, s.len]
theorem sd19 : (sd s)[19]? = some (.val (.int .i64 s.win)) := by
  unfold sd
  rw [List.getElem?_cons_succ, List.getElem?_append_right (by simp [c32, s.len])]
  simp [c32, s.len]
theorem ex_some {α : Type} {q : Option α} {x : α} {K : α → Prop} (h : q = some x) : (∃ c, q = some c ∧ K c) = K x := by subst h; simp
@[go_sem ↓ 1200] theorem m_sd0 : (∃ c, ((sd s).map D.toC)[0]? = some c ∧ K c) = K (.val (.int .i64 s.frame)) := ex_some rfl
@[go_sem ↓ 1200] theorem m_sd17 : (∃ c, ((sd s).map D.toC)[17]? = some c ∧ K c) = K (.val (.int .u32 (U32 s.seed))) := ex_some (by rw [List.getElem?_map, sd17]; rfl)
@[go_sem ↓ 1200] theorem m_sd18 : (∃ c, ((sd s).map D.toC)[18]? = some c ∧ K c) = K (.val (.bool s.over)) := ex_some (by rw [List.getElem?_map, sd18]; rfl)
@[go_sem ↓ 1200] theorem m_sd19 : (∃ c, ((sd s).map D.toC)[19]? = some c ∧ K c) = K (.val (.int .i64 s.win)) := ex_some (by rw [List.getElem?_map, sd19]; rfl)
@[go_sem ↓ 1200] theorem m_sdr0 : (∃ c, (((sd s ++ r).drop 0).map D.toC)[0]? = some c ∧ K c) = K (.val (.int .i64 s.frame)) := ex_some rfl
@[go_sem ↓ 1200] theorem m_sdr0' : (∃ c, ((sd s ++ r).map D.toC)[0]? = some c ∧ K c) = K (.val (.int .i64 s.frame)) := ex_some rfl
theorem toC_take {xs : List D} {n : Nat} : (xs.map D.toC).take n = (xs.take n).map D.toC := by simp
theorem toC_drop {xs : List D} {n : Nat} : (xs.map D.toC).drop n = (xs.drop n).map D.toC := by simp
/-- the whole of it -/
@[go_sem ↓ 1200] theorem p_sd : aPt (some true) 20 ((sd s).map D.toC) 0 V' = V' (.w (.agg ((sd s).map D.toC))) := by
  simp only [aPt, List.length_map, sd_len, List.drop_zero]
  rw [List.take_of_length_le (by simp [sd_len])]
  simp
@[go_sem ↓ 1200] theorem p_sdr : aPt (some true) 20 ((sd s ++ r).map D.toC) 0 V' = V' (.w (.agg ((sd s).map D.toC))) := by
  simp only [aPt, List.length_map, List.length_append, sd_len, List.drop_zero]
  rw [toC_take, List.take_left' sd_len]
  simp
@[go_sem ↓ 1200] theorem p_sc : aPt (some true) 16 ((sd s).map D.toC) 1 V' = V' (.w (.agg ((c32 s.cells).map D.toC))) := by
  simp only [aPt, List.length_map, sd_len]
  rw [toC_drop, toC_take]
  have : ((sd s).drop 1).take 16 = c32 s.cells := by
    unfold sd
    rw [List.drop_succ_cons, List.drop_zero, List.take_left' (by simp [c32, s.len])]
  rw [this]
  simp
@[go_sem ↓ 1200] theorem p_c32 {l : List Int} (h : i < l.length) : (∃ c, ((c32 l).map D.toC)[i]? = some c ∧ K c) = K (.val (.int .i32 (l.getD i 0))) :=
  ex_some (by simp [c32, h, D.toC])
/-! ### rows of states -/
@[go_sem ↓ 1200] theorem e_IAs {d : Sta} (h0 : 0 ≤ a) (h1 : a < l.length) : aIA (some (none, t, 20)) (.cell (.lst o nl 20 (sds l))) a V' = V' (.cell (.mem (sd (l.getD a.toNat (stz 0 0)) ++ sds (l.drop (a.toNat + 1))))) := by
  have h2 : a.toNat < l.length := by omega
  rw [← sds_at h2]
  simp only [aIA, sds_len, h0, true_and]
  have : a * ((20 : Nat) : Int) < ((l.length * 20 : Nat) : Int) := by omega
  simp only [this, true_and]
@[go_sem ↓ 1200] theorem e_lens : aLen P t (.cell (.lst o nl 20 (sds l))) V' = (isSlcT P t = true ∧ V' (.int .i64 l.length)) := by
  simp only [aLen, sds_len, Nat.mul_div_cancel _ (show 0 < 20 by omega)]
def slB20 (q : Option (Option Nat × TypeId × Nat)) : Prop := match q with
  | some (none, _, 20) => True
  | _ => False
@[go_sem] theorem slB20_1 {e : Nat} : slB20 (some (none, e, 20)) = True := nr rfl
theorem slB20_eq {q : Option (Option Nat × TypeId × Nat)} : slB20 q = ∃ e, q = some (none, e, 20) := by
  unfold slB20
  split
  · exact (eq_true ⟨_, rfl⟩).symm
  rename_i h; exact (eq_false fun ⟨e, he⟩ => h e he).symm
@[congr] theorem cg_slB20 {q q' : Option (Option Nat × TypeId × Nat)} (h : q = q') : slB20 q = slB20 q' := by rw [h]
@[go_sem ↓] theorem e_slHs (h0 : 0 ≤ b) (h1 : b ≤ l.length) : aSlice P t (.cell (.lst o nl 20 (sds l))) none (some (V.int k b)) V' = (slB20 (idxT P t) ∧ V' (.cell (.lst .no nl 20 (sds (l.take b.toNat))))) := by
  rw [slB20_eq]
  refine propext ⟨fun ⟨e, he, l, h, hl, hh, _, _, _, hk⟩ => ⟨⟨e, he⟩, ?_⟩, fun ⟨⟨e, he⟩, hk⟩ => ⟨e, he, 0, b, rfl, rfl, by omega, h0, by rw [sds_len]; omega, ?_⟩⟩
  · cases hl; cases hh; simpa [sds_take] using hk
  simpa [sds_take] using hk
@[go_sem ↓] theorem e_slLs (h0 : 0 ≤ a) (h1 : a ≤ l.length) : aSlice P t (.cell (.lst o nl 20 (sds l))) (some (V.int k a)) none V' = (slB20 (idxT P t) ∧ V' (.cell (.lst (cutO o) nl 20 (sds (l.drop a.toNat))))) := by
  rw [slB20_eq]
  have e1 : (sds l).length / 20 = l.length := by rw [sds_len]; omega
  have e2 : List.take (l.length * 20) (sds l) = sds l := List.take_of_length_le (by rw [sds_len]; omega)
  cases o <;> (refine propext ⟨fun ⟨e, he, l, h, hl, hh, _, _, _, hk⟩ => ⟨⟨e, he⟩, ?_⟩, fun ⟨⟨e, he⟩, hk⟩ => ⟨e, he, a, l.length, rfl, by simp [bnd, e1], by omega, h1, by rw [sds_len]; omega, ?_⟩⟩) <;> first | (cases hl; cases hh; simpa [e1, e2, sds_drop, cutO] using hk) | (simpa [e1, e2, sds_drop, cutO] using hk)
/-! ### states in a box -/
@[go_sem ↓ 1200] theorem q_sd (h : j < l.length) : aPt (some true) 20 ((sds l).map D.toC) (j * 20) V' = V' (.w (.agg ((sd (l.getD j (stz 0 0))).map D.toC))) := by
  simp only [aPt, List.length_map, sds_len]
  rw [toC_drop, toC_take, sds_at h (stz 0 0), List.take_left' sd_len]
  have : j * 20 + 20 ≤ l.length * 20 := by omega
  simp [this]
theorem sds_set (h : j < l.length) : (sds l).take (j * 20) ++ sd s ++ (sds l).drop (j * 20 + 20) = sds (l.set j s) := by
  rw [show j * 20 + 20 = (j + 1) * 20 by omega, sds_take, sds_drop, sds_app1, sds_app, List.set_eq_take_append_cons_drop, if_pos h]
  simp
@[go_sem ↓ 1200] theorem spl_sds (h : j < l.length) : spl ((sds l).map D.toC) (j * 20) ((sd s).map D.toC) = (sds (l.set j s)).map D.toC := by
  rw [spl_eq (by simp [sds_len, sd_len]; omega)]
  rw [List.length_map, sd_len, toC_take, toC_drop, ← List.map_append, ← List.map_append, sds_set h]
end
@[go_sem] theorem toC_len {xs : List D} : (xs.map D.toC).length = xs.length := by simp
@[go_sem] theorem t_sc {s : Sta} : (((sd s).map D.toC).drop 1).take 16 = (c32 s.cells).map D.toC := by
  rw [toC_drop, toC_take]
  unfold sd
  rw [List.drop_succ_cons, List.drop_zero, List.take_left' (by simp [c32, s.len])]
@[go_sem] theorem t_sd {s : Sta} : (((sd s).map D.toC).drop 0).take 20 = (sd s).map D.toC := by
  rw [List.drop_zero, List.take_of_length_le (by simp [sd_len])]
@[go_sem] theorem t_sd' {s : Sta} : ((sd s).map D.toC).take 20 = (sd s).map D.toC := by
  rw [List.take_of_length_le (by simp [sd_len])]
@[go_sem] theorem t_sdr {s : Sta} {r : List D} : (((sd s ++ r).map D.toC).drop 0).take 20 = (sd s).map D.toC := by
  rw [List.drop_zero, toC_take, List.take_left' sd_len]
@[go_sem] theorem t_sds {l : List Sta} {j : Nat} (h : j < l.length) : (((sds l).map D.toC).drop (j * 20)).take 20 = (sd (l.getD j (stz 0 0))).map D.toC := by
  rw [toC_drop, toC_take, sds_at h (stz 0 0), List.take_left' sd_len]
attribute [go_sem] List.length_append
theorem allD_map {xs : List D} : allD (xs.map D.toC) = some xs := by
  induction xs with
  | nil => rfl
  | cons x xs ih => rw [List.map_cons, e_aD, ih]; cases x <;> rfl
attribute [go_sem] allD_map
/-! ### states that are written down -/
@[go_sem 900] theorem f_stz {f z : Int} (h0 : 0 ≤ z) (h1 : z < 4294967296) : W.agg [.val (.int .i64 f), .val (.int .i32 0), .val (.int .i32 0), .val (.int .i32 0), .val (.int .i32 0), .val (.int .i32 0), .val (.int .i32 0), .val (.int .i32 0), .val (.int .i32 0), .val (.int .i32 0), .val (.int .i32 0), .val (.int .i32 0), .val (.int .i32 0), .val (.int .i32 0), .val (.int .i32 0), .val (.int .i32 0), .val (.int .i32 0), .val (.int .u32 z), .val (.bool false), .val (.int .i64 0)] = W.agg ((sd (stz f (UInt32.ofNat z.toNat))).map D.toC) := by
  have : U32 (UInt32.ofNat z.toNat) = z := by unfold U32; rw [UInt32.toNat_ofNat']; omega
  unfold sd stz
  rw [this]
  rfl
@[go_sem] theorem f_stzU {f : Int} {n : UInt32} : W.agg [.val (.int .i64 f), .val (.int .i32 0), .val (.int .i32 0), .val (.int .i32 0), .val (.int .i32 0), .val (.int .i32 0), .val (.int .i32 0), .val (.int .i32 0), .val (.int .i32 0), .val (.int .i32 0), .val (.int .i32 0), .val (.int .i32 0), .val (.int .i32 0), .val (.int .i32 0), .val (.int .i32 0), .val (.int .i32 0), .val (.int .i32 0), .val (.int .u32 (U32 n)), .val (.bool false), .val (.int .i64 0)] = W.agg ((sd (stz f n)).map D.toC) := nr rfl
@[go_sem] theorem f_stz0 {f : Int} : W.agg [.val (.int .i64 f), .val (.int .i32 0), .val (.int .i32 0), .val (.int .i32 0), .val (.int .i32 0), .val (.int .i32 0), .val (.int .i32 0), .val (.int .i32 0), .val (.int .i32 0), .val (.int .i32 0), .val (.int .i32 0), .val (.int .i32 0), .val (.int .i32 0), .val (.int .i32 0), .val (.int .i32 0), .val (.int .i32 0), .val (.int .i32 0), .val (.int .u32 0), .val (.bool false), .val (.int .i64 0)] = W.agg ((sd (stz f 0)).map D.toC) := nr rfl
theorem spl_sd' {x : Sta} {y : Sta} {l : List C} (h : l = (sd y).map D.toC) : spl ((sd x).map D.toC) 0 l = (sd y).map D.toC := by
  rw [h, spl_eq (by simp [sd_len]), List.take_zero, List.nil_append, List.drop_eq_nil_of_le (by simp [sd_len]), List.append_nil]
@[go_sem 1150] theorem spl_stz {x : Sta} {f z : Int} (h0 : 0 ≤ z) (h1 : z < 4294967296) : spl ((sd x).map D.toC) 0 [.val (.int .i64 f), .val (.int .i32 0), .val (.int .i32 0), .val (.int .i32 0), .val (.int .i32 0), .val (.int .i32 0), .val (.int .i32 0), .val (.int .i32 0), .val (.int .i32 0), .val (.int .i32 0), .val (.int .i32 0), .val (.int .i32 0), .val (.int .i32 0), .val (.int .i32 0), .val (.int .i32 0), .val (.int .i32 0), .val (.int .i32 0), .val (.int .u32 z), .val (.bool false), .val (.int .i64 0)] = (sd (stz f (UInt32.ofNat z.toNat))).map D.toC := by
  have : U32 (UInt32.ofNat z.toNat) = z := by unfold U32; rw [UInt32.toNat_ofNat']; omega
  refine spl_sd' ?_
  unfold sd stz
  rw [this]
  rfl
@[go_sem 1200] theorem spl_stzU {x : Sta} {f : Int} {n : UInt32} : spl ((sd x).map D.toC) 0 [.val (.int .i64 f), .val (.int .i32 0), .val (.int .i32 0), .val (.int .i32 0), .val (.int .i32 0), .val (.int .i32 0), .val (.int .i32 0), .val (.int .i32 0), .val (.int .i32 0), .val (.int .i32 0), .val (.int .i32 0), .val (.int .i32 0), .val (.int .i32 0), .val (.int .i32 0), .val (.int .i32 0), .val (.int .i32 0), .val (.int .i32 0), .val (.int .u32 (U32 n)), .val (.bool false), .val (.int .i64 0)] = (sd (stz f n)).map D.toC := spl_sd' rfl
@[go_sem 1200] theorem spl_stz0 {x : Sta} {f : Int} : spl ((sd x).map D.toC) 0 [.val (.int .i64 f), .val (.int .i32 0), .val (.int .i32 0), .val (.int .i32 0), .val (.int .i32 0), .val (.int .i32 0), .val (.int .i32 0), .val (.int .i32 0), .val (.int .i32 0), .val (.int .i32 0), .val (.int .i32 0), .val (.int .i32 0), .val (.int .i32 0), .val (.int .i32 0), .val (.int .i32 0), .val (.int .i32 0), .val (.int .i32 0), .val (.int .u32 0), .val (.bool false), .val (.int .i64 0)] = (sd (stz f 0)).map D.toC := spl_sd' rfl
@[go_sem] theorem b_stzU {i : Id} {f : Int} {n : UInt32} : ((i, [.val (.int .i64 f), .val (.int .i32 0), .val (.int .i32 0), .val (.int .i32 0), .val (.int .i32 0), .val (.int .i32 0), .val (.int .i32 0), .val (.int .i32 0), .val (.int .i32 0), .val (.int .i32 0), .val (.int .i32 0), .val (.int .i32 0), .val (.int .i32 0), .val (.int .i32 0), .val (.int .i32 0), .val (.int .i32 0), .val (.int .i32 0), .val (.int .u32 (U32 n)), .val (.bool false), .val (.int .i64 0)]) : Id × List C) = (i, (sd (stz f n)).map D.toC) := nr rfl
@[go_sem] theorem b_stz0 {i : Id} {f : Int} : ((i, [.val (.int .i64 f), .val (.int .i32 0), .val (.int .i32 0), .val (.int .i32 0), .val (.int .i32 0), .val (.int .i32 0), .val (.int .i32 0), .val (.int .i32 0), .val (.int .i32 0), .val (.int .i32 0), .val (.int .i32 0), .val (.int .i32 0), .val (.int .i32 0), .val (.int .i32 0), .val (.int .i32 0), .val (.int .i32 0), .val (.int .i32 0), .val (.int .u32 0), .val (.bool false), .val (.int .i64 0)]) : Id × List C) = (i, (sd (stz f 0)).map D.toC) := nr rfl
@[go_sem] theorem t_lit0 {f : Int} : List.take 20 (List.drop 0 ([.val (.int .i64 f), .val (.int .i32 0), .val (.int .i32 0), .val (.int .i32 0), .val (.int .i32 0), .val (.int .i32 0), .val (.int .i32 0), .val (.int .i32 0), .val (.int .i32 0), .val (.int .i32 0), .val (.int .i32 0), .val (.int .i32 0), .val (.int .i32 0), .val (.int .i32 0), .val (.int .i32 0), .val (.int .i32 0), .val (.int .i32 0), .val (.int .u32 0), .val (.bool false), .val (.int .i64 0)] : List C)) = (sd (stz f 0)).map D.toC := nr rfl
@[go_sem] theorem t_litU {f : Int} {n : UInt32} : List.take 20 (List.drop 0 ([.val (.int .i64 f), .val (.int .i32 0), .val (.int .i32 0), .val (.int .i32 0), .val (.int .i32 0), .val (.int .i32 0), .val (.int .i32 0), .val (.int .i32 0), .val (.int .i32 0), .val (.int .i32 0), .val (.int .i32 0), .val (.int .i32 0), .val (.int .i32 0), .val (.int .i32 0), .val (.int .i32 0), .val (.int .i32 0), .val (.int .i32 0), .val (.int .u32 (U32 n)), .val (.bool false), .val (.int .i64 0)] : List C)) = (sd (stz f n)).map D.toC := nr rfl
@[go_sem 1200] theorem spl_lit0 {f : Int} {y : Sta} : spl ([.val (.int .i64 f), .val (.int .i32 0), .val (.int .i32 0), .val (.int .i32 0), .val (.int .i32 0), .val (.int .i32 0), .val (.int .i32 0), .val (.int .i32 0), .val (.int .i32 0), .val (.int .i32 0), .val (.int .i32 0), .val (.int .i32 0), .val (.int .i32 0), .val (.int .i32 0), .val (.int .i32 0), .val (.int .i32 0), .val (.int .i32 0), .val (.int .u32 0), .val (.bool false), .val (.int .i64 0)] : List C) 0 ((sd y).map D.toC) = (sd y).map D.toC := spl_sd' (x := stz f 0) rfl
@[go_sem 1200] theorem spl_litU {f : Int} {n : UInt32} {y : Sta} : spl ([.val (.int .i64 f), .val (.int .i32 0), .val (.int .i32 0), .val (.int .i32 0), .val (.int .i32 0), .val (.int .i32 0), .val (.int .i32 0), .val (.int .i32 0), .val (.int .i32 0), .val (.int .i32 0), .val (.int .i32 0), .val (.int .i32 0), .val (.int .i32 0), .val (.int .i32 0), .val (.int .i32 0), .val (.int .i32 0), .val (.int .i32 0), .val (.int .u32 (U32 n)), .val (.bool false), .val (.int .i64 0)] : List C) 0 ((sd y).map D.toC) = (sd y).map D.toC := spl_sd' (x := stz f n) rfl
@[go_sem ↓ 1200] theorem spl_sd {x y : Sta} : spl ((sd x).map D.toC) 0 ((sd y).map D.toC) = (sd y).map D.toC := by
  rw [spl_eq (by simp [sd_len]), List.take_zero, List.nil_append, List.drop_eq_nil_of_le (by simp [sd_len]), List.append_nil]
end
section
theorem mixed : Tryz.prog.follows .mixedOrders = true := by kernel_rfl
@[go_sem] theorem ty1_fn : isFnT Tryz.prog 1 = true ∧ sizeT Tryz.prog 1 = some 1 ∧ isAggT Tryz.prog 1 = some false := ⟨by kernel_rfl, by kernel_rfl, by kernel_rfl⟩
@[go_sem] theorem ty2_size : sizeT Tryz.prog 2 = some 1 ∧ isAggT Tryz.prog 2 = some false ∧ knownT Tryz.prog 2 = true ∧ kindT Tryz.prog 2 = some .i64 ∧ isIntT Tryz.prog 2 = true ∧ bytesT Tryz.prog 2 = some 8 ∧ zeroC Tryz.prog 2 = some [.val (.int .i64 0)] ∧ allocC Tryz.prog 2 = some [.val (.int .i64 0)] := ⟨by kernel_rfl, by kernel_rfl, by kernel_rfl, by kernel_rfl, by kernel_rfl, by kernel_rfl, by kernel_rfl, by kernel_rfl⟩
@[go_sem] theorem ty3_size : sizeT Tryz.prog 3 = some 1 ∧ isAggT Tryz.prog 3 = some false ∧ knownT Tryz.prog 3 = true ∧ kindT Tryz.prog 3 = some .i64 ∧ isIntT Tryz.prog 3 = true ∧ bytesT Tryz.prog 3 = some 8 ∧ zeroC Tryz.prog 3 = some [.val (.int .i64 0)] ∧ allocC Tryz.prog 3 = some [.val (.int .i64 0)] := ⟨by kernel_rfl, by kernel_rfl, by kernel_rfl, by kernel_rfl, by kernel_rfl, by kernel_rfl, by kernel_rfl, by kernel_rfl⟩
@[go_sem] theorem ty4_size : sizeT Tryz.prog 4 = some 1 ∧ isAggT Tryz.prog 4 = some false ∧ knownT Tryz.prog 4 = true ∧ isBoolT Tryz.prog 4 = true ∧ bytesT Tryz.prog 4 = some 1 ∧ zeroC Tryz.prog 4 = some [.val (.bool false)] ∧ allocC Tryz.prog 4 = some [.val (.bool false)] := ⟨by kernel_rfl, by kernel_rfl, by kernel_rfl, by kernel_rfl, by kernel_rfl, by kernel_rfl, by kernel_rfl⟩
@[go_sem] theorem ty5_size : sizeT Tryz.prog 5 = some 1 ∧ isAggT Tryz.prog 5 = some false ∧ knownT Tryz.prog 5 = true ∧ kindT Tryz.prog 5 = some .u8 ∧ isIntT Tryz.prog 5 = true ∧ bytesT Tryz.prog 5 = some 1 ∧ zeroC Tryz.prog 5 = some [.val (.int .u8 0)] ∧ allocC Tryz.prog 5 = some [.val (.int .u8 0)] := ⟨by kernel_rfl, by kernel_rfl, by kernel_rfl, by kernel_rfl, by kernel_rfl, by kernel_rfl, by kernel_rfl, by kernel_rfl⟩
@[go_sem] theorem ty7_size : sizeT Tryz.prog 7 = some 4 ∧ isAggT Tryz.prog 7 = some true ∧ knownT Tryz.prog 7 = true ∧ flatT Tryz.prog 7 = some (List.replicate 1 (some .i64) ++ List.replicate 1 (some .i64) ++ List.replicate 1 (none) ++ List.replicate 1 (some .u8)) ∧ fldT Tryz.prog 7 0 = some (0, 2, 1) ∧ fldT Tryz.prog 7 1 = some (1, 3, 1) ∧ fldT Tryz.prog 7 2 = some (2, 4, 1) ∧ fldT Tryz.prog 7 3 = some (3, 6, 1) ∧ layT Tryz.prog 7 = some (.str [(0, 1), (1, 1), (2, 1), (3, 1)]) ∧ bytesT Tryz.prog 7 = some 24 ∧ zeroC Tryz.prog 7 = some [.val (.int .i64 0), .val (.int .i64 0), .val (.bool false), .val (.int .u8 0)] ∧ allocC Tryz.prog 7 = some [.val (.int .i64 0), .val (.int .i64 0), .val (.bool false), .val (.int .u8 0)] := ⟨by kernel_rfl, by kernel_rfl, by kernel_rfl, by kernel_rfl, by kernel_rfl, by kernel_rfl, by kernel_rfl, by kernel_rfl, by kernel_rfl, by kernel_rfl, by kernel_rfl, by kernel_rfl⟩
@[go_sem] theorem ty9_size : sizeT Tryz.prog 9 = some 1 ∧ isAggT Tryz.prog 9 = some false ∧ knownT Tryz.prog 9 = true ∧ isStrT Tryz.prog 9 = true ∧ sbT Tryz.prog 9 = some false ∧ bytesT Tryz.prog 9 = some 16 ∧ zeroC Tryz.prog 9 = some [.val (.string ⟨#[]⟩)] ∧ allocC Tryz.prog 9 = some [.val (.string ⟨#[]⟩)] := ⟨by kernel_rfl, by kernel_rfl, by kernel_rfl, by kernel_rfl, by kernel_rfl, by kernel_rfl, by kernel_rfl, by kernel_rfl⟩
@[go_sem] theorem ty12_size : sizeT Tryz.prog 12 = some 1 ∧ isAggT Tryz.prog 12 = some false ∧ knownT Tryz.prog 12 = true ∧ kindT Tryz.prog 12 = some .u64 ∧ isIntT Tryz.prog 12 = true ∧ bytesT Tryz.prog 12 = some 8 ∧ zeroC Tryz.prog 12 = some [.val (.int .u64 0)] ∧ allocC Tryz.prog 12 = some [.val (.int .u64 0)] := ⟨by kernel_rfl, by kernel_rfl, by kernel_rfl, by kernel_rfl, by kernel_rfl, by kernel_rfl, by kernel_rfl, by kernel_rfl⟩
@[go_sem] theorem ty13_size : sizeT Tryz.prog 13 = some 2 ∧ isAggT Tryz.prog 13 = some true ∧ knownT Tryz.prog 13 = true ∧ fldT Tryz.prog 13 0 = some (0, 9, 1) ∧ fldT Tryz.prog 13 1 = some (1, 12, 1) ∧ layT Tryz.prog 13 = some (.str [(0, 1), (1, 1)]) ∧ bytesT Tryz.prog 13 = some 24 ∧ zeroC Tryz.prog 13 = some [.val (.string ⟨#[]⟩), .val (.int .u64 0)] ∧ allocC Tryz.prog 13 = some [.val (.string ⟨#[]⟩), .val (.int .u64 0)] := ⟨by kernel_rfl, by kernel_rfl, by kernel_rfl, by kernel_rfl, by kernel_rfl, by kernel_rfl, by kernel_rfl, by kernel_rfl, by kernel_rfl⟩
@[go_sem] theorem ty15_size : sizeT Tryz.prog 15 = some 1 ∧ isAggT Tryz.prog 15 = some false ∧ knownT Tryz.prog 15 = true ∧ isPtrT Tryz.prog 15 = true ∧ bytesT Tryz.prog 15 = some 8 ∧ zeroC Tryz.prog 15 = some [.val (.pointer none)] ∧ allocC Tryz.prog 15 = some [.val (.pointer none)] := ⟨by kernel_rfl, by kernel_rfl, by kernel_rfl, by kernel_rfl, by kernel_rfl, by kernel_rfl, by kernel_rfl⟩
@[go_sem] theorem ty16_size : sizeT Tryz.prog 16 = some 1 ∧ isAggT Tryz.prog 16 = some false ∧ knownT Tryz.prog 16 = true ∧ isPtrT Tryz.prog 16 = true ∧ bytesT Tryz.prog 16 = some 8 ∧ zeroC Tryz.prog 16 = some [.val (.pointer none)] ∧ allocC Tryz.prog 16 = some [.val (.pointer none)] := ⟨by kernel_rfl, by kernel_rfl, by kernel_rfl, by kernel_rfl, by kernel_rfl, by kernel_rfl, by kernel_rfl⟩
@[go_sem] theorem ty17_size : sizeT Tryz.prog 17 = some 1 ∧ isAggT Tryz.prog 17 = some false ∧ knownT Tryz.prog 17 = true ∧ isPtrT Tryz.prog 17 = true ∧ bytesT Tryz.prog 17 = some 8 ∧ zeroC Tryz.prog 17 = some [.val (.pointer none)] ∧ allocC Tryz.prog 17 = some [.val (.pointer none)] := ⟨by kernel_rfl, by kernel_rfl, by kernel_rfl, by kernel_rfl, by kernel_rfl, by kernel_rfl, by kernel_rfl⟩
@[go_sem] theorem ty18_size : sizeT Tryz.prog 18 = some 1 ∧ isAggT Tryz.prog 18 = some true ∧ knownT Tryz.prog 18 = true ∧ fldT Tryz.prog 18 0 = some (0, 17, 1) ∧ layT Tryz.prog 18 = some (.str [(0, 1)]) ∧ bytesT Tryz.prog 18 = some 8 ∧ zeroC Tryz.prog 18 = some [.val (.pointer none)] ∧ allocC Tryz.prog 18 = some [.val (.pointer none)] := ⟨by kernel_rfl, by kernel_rfl, by kernel_rfl, by kernel_rfl, by kernel_rfl, by kernel_rfl, by kernel_rfl, by kernel_rfl⟩
@[go_sem] theorem ty19_size : sizeT Tryz.prog 19 = some 1 ∧ isAggT Tryz.prog 19 = some true ∧ knownT Tryz.prog 19 = true ∧ fldT Tryz.prog 19 0 = some (0, 17, 1) ∧ layT Tryz.prog 19 = some (.str [(0, 1)]) ∧ bytesT Tryz.prog 19 = some 8 ∧ zeroC Tryz.prog 19 = some [.val (.pointer none)] ∧ allocC Tryz.prog 19 = some [.val (.pointer none)] := ⟨by kernel_rfl, by kernel_rfl, by kernel_rfl, by kernel_rfl, by kernel_rfl, by kernel_rfl, by kernel_rfl, by kernel_rfl⟩
@[go_sem] theorem ty20_ifc : isIfcT Tryz.prog 20 = true := by kernel_rfl
@[go_sem] theorem ty21_size : sizeT Tryz.prog 21 = some 1 ∧ isAggT Tryz.prog 21 = some false ∧ knownT Tryz.prog 21 = true ∧ kindT Tryz.prog 21 = some .i32 ∧ isIntT Tryz.prog 21 = true ∧ bytesT Tryz.prog 21 = some 4 ∧ zeroC Tryz.prog 21 = some [.val (.int .i32 0)] ∧ allocC Tryz.prog 21 = some [.val (.int .i32 0)] := ⟨by kernel_rfl, by kernel_rfl, by kernel_rfl, by kernel_rfl, by kernel_rfl, by kernel_rfl, by kernel_rfl, by kernel_rfl⟩
@[go_sem] theorem ty22_size : sizeT Tryz.prog 22 = some 1 ∧ isAggT Tryz.prog 22 = some false ∧ knownT Tryz.prog 22 = true ∧ isSlcT Tryz.prog 22 = true ∧ idxT Tryz.prog 22 = some (none, 66, 2) ∧ bytesT Tryz.prog 22 = some 24 ∧ zeroC Tryz.prog 22 = some [.lst .full (some true) 1 []] ∧ allocC Tryz.prog 22 = some [.lst .full (some true) 1 []] := ⟨by kernel_rfl, by kernel_rfl, by kernel_rfl, by kernel_rfl, by kernel_rfl, by kernel_rfl, by kernel_rfl, by kernel_rfl⟩
@[go_sem] theorem ty23_size : sizeT Tryz.prog 23 = some 3 ∧ isAggT Tryz.prog 23 = some true ∧ knownT Tryz.prog 23 = true ∧ fldT Tryz.prog 23 0 = some (0, 22, 1) ∧ fldT Tryz.prog 23 1 = some (1, 3, 1) ∧ fldT Tryz.prog 23 2 = some (2, 3, 1) ∧ layT Tryz.prog 23 = some (.str [(0, 1), (1, 1), (2, 1)]) ∧ bytesT Tryz.prog 23 = some 40 ∧ zeroC Tryz.prog 23 = some [.lst .full (some true) 1 [], .val (.int .i64 0), .val (.int .i64 0)] ∧ allocC Tryz.prog 23 = some [.lst .full (some true) 1 [], .val (.int .i64 0), .val (.int .i64 0)] := ⟨by kernel_rfl, by kernel_rfl, by kernel_rfl, by kernel_rfl, by kernel_rfl, by kernel_rfl, by kernel_rfl, by kernel_rfl, by kernel_rfl, by kernel_rfl⟩
@[go_sem] theorem ty24_size : sizeT Tryz.prog 24 = some 3 ∧ isAggT Tryz.prog 24 = some true ∧ knownT Tryz.prog 24 = true ∧ fldT Tryz.prog 24 0 = some (0, 22, 1) ∧ fldT Tryz.prog 24 1 = some (1, 3, 1) ∧ fldT Tryz.prog 24 2 = some (2, 3, 1) ∧ layT Tryz.prog 24 = some (.str [(0, 1), (1, 1), (2, 1)]) ∧ bytesT Tryz.prog 24 = some 40 ∧ zeroC Tryz.prog 24 = some [.lst .full (some true) 1 [], .val (.int .i64 0), .val (.int .i64 0)] ∧ allocC Tryz.prog 24 = some [.lst .full (some true) 1 [], .val (.int .i64 0), .val (.int .i64 0)] := ⟨by kernel_rfl, by kernel_rfl, by kernel_rfl, by kernel_rfl, by kernel_rfl, by kernel_rfl, by kernel_rfl, by kernel_rfl, by kernel_rfl, by kernel_rfl⟩
@[go_sem] theorem ty25_size : sizeT Tryz.prog 25 = some 1 ∧ isAggT Tryz.prog 25 = some false ∧ knownT Tryz.prog 25 = true ∧ isSlcT Tryz.prog 25 = true ∧ idxT Tryz.prog 25 = some (none, 40, 10) ∧ bytesT Tryz.prog 25 = some 24 ∧ zeroC Tryz.prog 25 = some [.lst .full (some true) 1 []] ∧ allocC Tryz.prog 25 = some [.lst .full (some true) 1 []] := ⟨by kernel_rfl, by kernel_rfl, by kernel_rfl, by kernel_rfl, by kernel_rfl, by kernel_rfl, by kernel_rfl, by kernel_rfl⟩
@[go_sem] theorem ty26_fn : isFnT Tryz.prog 26 = true ∧ sizeT Tryz.prog 26 = some 1 ∧ isAggT Tryz.prog 26 = some false := ⟨by kernel_rfl, by kernel_rfl, by kernel_rfl⟩
@[go_sem] theorem ty27_size : sizeT Tryz.prog 27 = some 1 ∧ isAggT Tryz.prog 27 = some false ∧ knownT Tryz.prog 27 = true ∧ isPtrT Tryz.prog 27 = true ∧ bytesT Tryz.prog 27 = some 8 ∧ zeroC Tryz.prog 27 = some [.val (.pointer none)] ∧ allocC Tryz.prog 27 = some [.val (.pointer none)] := ⟨by kernel_rfl, by kernel_rfl, by kernel_rfl, by kernel_rfl, by kernel_rfl, by kernel_rfl, by kernel_rfl⟩
@[go_sem] theorem ty28_size : sizeT Tryz.prog 28 = some 1 ∧ isAggT Tryz.prog 28 = some false ∧ knownT Tryz.prog 28 = true ∧ kindT Tryz.prog 28 = some .i64 ∧ isIntT Tryz.prog 28 = true ∧ bytesT Tryz.prog 28 = some 8 ∧ zeroC Tryz.prog 28 = some [.val (.int .i64 0)] ∧ allocC Tryz.prog 28 = some [.val (.int .i64 0)] := ⟨by kernel_rfl, by kernel_rfl, by kernel_rfl, by kernel_rfl, by kernel_rfl, by kernel_rfl, by kernel_rfl, by kernel_rfl⟩
@[go_sem] theorem ty30_fn : isFnT Tryz.prog 30 = true ∧ sizeT Tryz.prog 30 = some 1 ∧ isAggT Tryz.prog 30 = some false := ⟨by kernel_rfl, by kernel_rfl, by kernel_rfl⟩
@[go_sem] theorem ty31_size : sizeT Tryz.prog 31 = some 1 ∧ isAggT Tryz.prog 31 = some false ∧ knownT Tryz.prog 31 = true ∧ isPtrT Tryz.prog 31 = true ∧ bytesT Tryz.prog 31 = some 8 ∧ zeroC Tryz.prog 31 = some [.val (.pointer none)] ∧ allocC Tryz.prog 31 = some [.val (.pointer none)] := ⟨by kernel_rfl, by kernel_rfl, by kernel_rfl, by kernel_rfl, by kernel_rfl, by kernel_rfl, by kernel_rfl⟩
@[go_sem] theorem ty33_fn : isFnT Tryz.prog 33 = true ∧ sizeT Tryz.prog 33 = some 1 ∧ isAggT Tryz.prog 33 = some false := ⟨by kernel_rfl, by kernel_rfl, by kernel_rfl⟩
@[go_sem] theorem ty34_fn : isFnT Tryz.prog 34 = true ∧ sizeT Tryz.prog 34 = some 1 ∧ isAggT Tryz.prog 34 = some false := ⟨by kernel_rfl, by kernel_rfl, by kernel_rfl⟩
@[go_sem] theorem ty35_size : sizeT Tryz.prog 35 = some 1 ∧ isAggT Tryz.prog 35 = some false ∧ knownT Tryz.prog 35 = true ∧ kindT Tryz.prog 35 = some .u16 ∧ isIntT Tryz.prog 35 = true ∧ bytesT Tryz.prog 35 = some 2 ∧ zeroC Tryz.prog 35 = some [.val (.int .u16 0)] ∧ allocC Tryz.prog 35 = some [.val (.int .u16 0)] := ⟨by kernel_rfl, by kernel_rfl, by kernel_rfl, by kernel_rfl, by kernel_rfl, by kernel_rfl, by kernel_rfl, by kernel_rfl⟩
@[go_sem] theorem ty36_size : sizeT Tryz.prog 36 = some 6 ∧ isAggT Tryz.prog 36 = some true ∧ knownT Tryz.prog 36 = true ∧ flatT Tryz.prog 36 = some (List.replicate 1 (some .i64) ++ List.replicate 1 (some .i64) ++ List.replicate 1 (some .i64) ++ List.replicate 1 (some .i64) ++ List.replicate 1 (some .u16) ++ List.replicate 1 (some .i64)) ∧ fldT Tryz.prog 36 0 = some (0, 3, 1) ∧ fldT Tryz.prog 36 1 = some (1, 3, 1) ∧ fldT Tryz.prog 36 2 = some (2, 3, 1) ∧ fldT Tryz.prog 36 3 = some (3, 3, 1) ∧ fldT Tryz.prog 36 4 = some (4, 35, 1) ∧ fldT Tryz.prog 36 5 = some (5, 3, 1) ∧ layT Tryz.prog 36 = some (.str [(0, 1), (1, 1), (2, 1), (3, 1), (4, 1), (5, 1)]) ∧ bytesT Tryz.prog 36 = some 48 ∧ zeroC Tryz.prog 36 = some [.val (.int .i64 0), .val (.int .i64 0), .val (.int .i64 0), .val (.int .i64 0), .val (.int .u16 0), .val (.int .i64 0)] ∧ allocC Tryz.prog 36 = some [.val (.int .i64 0), .val (.int .i64 0), .val (.int .i64 0), .val (.int .i64 0), .val (.int .u16 0), .val (.int .i64 0)] := ⟨by kernel_rfl, by kernel_rfl, by kernel_rfl, by kernel_rfl, by kernel_rfl, by kernel_rfl, by kernel_rfl, by kernel_rfl, by kernel_rfl, by kernel_rfl, by kernel_rfl, by kernel_rfl, by kernel_rfl, by kernel_rfl⟩
@[go_sem] theorem ty37_size : sizeT Tryz.prog 37 = some 6 ∧ isAggT Tryz.prog 37 = some true ∧ knownT Tryz.prog 37 = true ∧ flatT Tryz.prog 37 = some (List.replicate 1 (some .i64) ++ List.replicate 1 (some .i64) ++ List.replicate 1 (some .i64) ++ List.replicate 1 (some .i64) ++ List.replicate 1 (some .u16) ++ List.replicate 1 (some .i64)) ∧ fldT Tryz.prog 37 0 = some (0, 3, 1) ∧ fldT Tryz.prog 37 1 = some (1, 3, 1) ∧ fldT Tryz.prog 37 2 = some (2, 3, 1) ∧ fldT Tryz.prog 37 3 = some (3, 3, 1) ∧ fldT Tryz.prog 37 4 = some (4, 35, 1) ∧ fldT Tryz.prog 37 5 = some (5, 3, 1) ∧ layT Tryz.prog 37 = some (.str [(0, 1), (1, 1), (2, 1), (3, 1), (4, 1), (5, 1)]) ∧ bytesT Tryz.prog 37 = some 48 ∧ zeroC Tryz.prog 37 = some [.val (.int .i64 0), .val (.int .i64 0), .val (.int .i64 0), .val (.int .i64 0), .val (.int .u16 0), .val (.int .i64 0)] ∧ allocC Tryz.prog 37 = some [.val (.int .i64 0), .val (.int .i64 0), .val (.int .i64 0), .val (.int .i64 0), .val (.int .u16 0), .val (.int .i64 0)] := ⟨by kernel_rfl, by kernel_rfl, by kernel_rfl, by kernel_rfl, by kernel_rfl, by kernel_rfl, by kernel_rfl, by kernel_rfl, by kernel_rfl, by kernel_rfl, by kernel_rfl, by kernel_rfl, by kernel_rfl, by kernel_rfl⟩
@[go_sem] theorem ty38_fn : isFnT Tryz.prog 38 = true ∧ sizeT Tryz.prog 38 = some 1 ∧ isAggT Tryz.prog 38 = some false := ⟨by kernel_rfl, by kernel_rfl, by kernel_rfl⟩
@[go_sem] theorem ty39_size : sizeT Tryz.prog 39 = some 10 ∧ isAggT Tryz.prog 39 = some true ∧ knownT Tryz.prog 39 = true ∧ flatT Tryz.prog 39 = some (List.replicate 1 (some .i64) ++ List.replicate 1 (some .i64) ++ List.replicate 1 (some .i64) ++ List.replicate 1 (some .u16) ++ List.replicate 1 (some .i64) ++ List.replicate 1 (some .i64) ++ List.replicate 1 (some .i64) ++ List.replicate 1 (some .i64) ++ List.replicate 1 (some .u16) ++ List.replicate 1 (some .i64)) ∧ fldT Tryz.prog 39 0 = some (0, 3, 1) ∧ fldT Tryz.prog 39 1 = some (1, 3, 1) ∧ fldT Tryz.prog 39 2 = some (2, 3, 1) ∧ fldT Tryz.prog 39 3 = some (3, 35, 1) ∧ fldT Tryz.prog 39 4 = some (4, 37, 6) ∧ layT Tryz.prog 39 = some (.str [(0, 1), (1, 1), (2, 1), (3, 1), (4, 6)]) ∧ bytesT Tryz.prog 39 = some 80 ∧ zeroC Tryz.prog 39 = some [.val (.int .i64 0), .val (.int .i64 0), .val (.int .i64 0), .val (.int .u16 0), .val (.int .i64 0), .val (.int .i64 0), .val (.int .i64 0), .val (.int .i64 0), .val (.int .u16 0), .val (.int .i64 0)] ∧ allocC Tryz.prog 39 = some [.val (.int .i64 0), .val (.int .i64 0), .val (.int .i64 0), .val (.int .u16 0), .val (.int .i64 0), .val (.int .i64 0), .val (.int .i64 0), .val (.int .i64 0), .val (.int .u16 0), .val (.int .i64 0)] := ⟨by kernel_rfl, by kernel_rfl, by kernel_rfl, by kernel_rfl, by kernel_rfl, by kernel_rfl, by kernel_rfl, by kernel_rfl, by kernel_rfl, by kernel_rfl, by kernel_rfl, by kernel_rfl, by kernel_rfl⟩
@[go_sem] theorem ty40_size : sizeT Tryz.prog 40 = some 10 ∧ isAggT Tryz.prog 40 = some true ∧ knownT Tryz.prog 40 = true ∧ flatT Tryz.prog 40 = some (List.replicate 1 (some .i64) ++ List.replicate 1 (some .i64) ++ List.replicate 1 (some .i64) ++ List.replicate 1 (some .u16) ++ List.replicate 1 (some .i64) ++ List.replicate 1 (some .i64) ++ List.replicate 1 (some .i64) ++ List.replicate 1 (some .i64) ++ List.replicate 1 (some .u16) ++ List.replicate 1 (some .i64)) ∧ fldT Tryz.prog 40 0 = some (0, 3, 1) ∧ fldT Tryz.prog 40 1 = some (1, 3, 1) ∧ fldT Tryz.prog 40 2 = some (2, 3, 1) ∧ fldT Tryz.prog 40 3 = some (3, 35, 1) ∧ fldT Tryz.prog 40 4 = some (4, 37, 6) ∧ layT Tryz.prog 40 = some (.str [(0, 1), (1, 1), (2, 1), (3, 1), (4, 6)]) ∧ bytesT Tryz.prog 40 = some 80 ∧ zeroC Tryz.prog 40 = some [.val (.int .i64 0), .val (.int .i64 0), .val (.int .i64 0), .val (.int .u16 0), .val (.int .i64 0), .val (.int .i64 0), .val (.int .i64 0), .val (.int .i64 0), .val (.int .u16 0), .val (.int .i64 0)] ∧ allocC Tryz.prog 40 = some [.val (.int .i64 0), .val (.int .i64 0), .val (.int .i64 0), .val (.int .u16 0), .val (.int .i64 0), .val (.int .i64 0), .val (.int .i64 0), .val (.int .i64 0), .val (.int .u16 0), .val (.int .i64 0)] := ⟨by kernel_rfl, by kernel_rfl, by kernel_rfl, by kernel_rfl, by kernel_rfl, by kernel_rfl, by kernel_rfl, by kernel_rfl, by kernel_rfl, by kernel_rfl, by kernel_rfl, by kernel_rfl, by kernel_rfl⟩
@[go_sem] theorem ty41_fn : isFnT Tryz.prog 41 = true ∧ sizeT Tryz.prog 41 = some 1 ∧ isAggT Tryz.prog 41 = some false := ⟨by kernel_rfl, by kernel_rfl, by kernel_rfl⟩
@[go_sem] theorem ty42_fn : isFnT Tryz.prog 42 = true ∧ sizeT Tryz.prog 42 = some 1 ∧ isAggT Tryz.prog 42 = some false := ⟨by kernel_rfl, by kernel_rfl, by kernel_rfl⟩
@[go_sem] theorem ty43_fn : isFnT Tryz.prog 43 = true ∧ sizeT Tryz.prog 43 = some 1 ∧ isAggT Tryz.prog 43 = some false := ⟨by kernel_rfl, by kernel_rfl, by kernel_rfl⟩
@[go_sem] theorem ty44_fn : isFnT Tryz.prog 44 = true ∧ sizeT Tryz.prog 44 = some 1 ∧ isAggT Tryz.prog 44 = some false := ⟨by kernel_rfl, by kernel_rfl, by kernel_rfl⟩
@[go_sem] theorem ty45_size : sizeT Tryz.prog 45 = some 1 ∧ isAggT Tryz.prog 45 = some false ∧ knownT Tryz.prog 45 = true ∧ isSlcT Tryz.prog 45 = true ∧ idxT Tryz.prog 45 = some (none, 37, 6) ∧ bytesT Tryz.prog 45 = some 24 ∧ zeroC Tryz.prog 45 = some [.lst .full (some true) 1 []] ∧ allocC Tryz.prog 45 = some [.lst .full (some true) 1 []] := ⟨by kernel_rfl, by kernel_rfl, by kernel_rfl, by kernel_rfl, by kernel_rfl, by kernel_rfl, by kernel_rfl, by kernel_rfl⟩
@[go_sem] theorem ty46_fn : isFnT Tryz.prog 46 = true ∧ sizeT Tryz.prog 46 = some 1 ∧ isAggT Tryz.prog 46 = some false := ⟨by kernel_rfl, by kernel_rfl, by kernel_rfl⟩
@[go_sem] theorem ty47_fn : isFnT Tryz.prog 47 = true ∧ sizeT Tryz.prog 47 = some 1 ∧ isAggT Tryz.prog 47 = some false := ⟨by kernel_rfl, by kernel_rfl, by kernel_rfl⟩
@[go_sem] theorem ty48_size : sizeT Tryz.prog 48 = some 2 ∧ isAggT Tryz.prog 48 = some true ∧ knownT Tryz.prog 48 = true ∧ flatT Tryz.prog 48 = some (List.replicate 2 (some .i64)) ∧ idxT Tryz.prog 48 = some (some 2, 3, 1) ∧ layT Tryz.prog 48 = some (.arr 1) ∧ bytesT Tryz.prog 48 = some 16 ∧ zeroC Tryz.prog 48 = some [.val (.int .i64 0), .val (.int .i64 0)] ∧ allocC Tryz.prog 48 = some [.val (.int .i64 0), .val (.int .i64 0)] := ⟨by kernel_rfl, by kernel_rfl, by kernel_rfl, by kernel_rfl, by kernel_rfl, by kernel_rfl, by kernel_rfl, by kernel_rfl, by kernel_rfl⟩
@[go_sem] theorem ty49_size : sizeT Tryz.prog 49 = some 1 ∧ isAggT Tryz.prog 49 = some false ∧ knownT Tryz.prog 49 = true ∧ kindT Tryz.prog 49 = some .u32 ∧ isIntT Tryz.prog 49 = true ∧ bytesT Tryz.prog 49 = some 4 ∧ zeroC Tryz.prog 49 = some [.val (.int .u32 0)] ∧ allocC Tryz.prog 49 = some [.val (.int .u32 0)] := ⟨by kernel_rfl, by kernel_rfl, by kernel_rfl, by kernel_rfl, by kernel_rfl, by kernel_rfl, by kernel_rfl, by kernel_rfl⟩
@[go_sem] theorem ty50_size : sizeT Tryz.prog 50 = some 11 ∧ isAggT Tryz.prog 50 = some true ∧ knownT Tryz.prog 50 = true ∧ flatT Tryz.prog 50 = some (List.replicate 2 (some .i64) ++ List.replicate 1 (some .u32) ++ List.replicate 2 (some .i64) ++ List.replicate 2 (some .i64) ++ List.replicate 1 (none) ++ List.replicate 1 (some .i64) ++ List.replicate 1 (some .i64) ++ List.replicate 1 (none)) ∧ fldT Tryz.prog 50 0 = some (0, 48, 2) ∧ fldT Tryz.prog 50 1 = some (2, 49, 1) ∧ fldT Tryz.prog 50 2 = some (3, 48, 2) ∧ fldT Tryz.prog 50 3 = some (5, 48, 2) ∧ fldT Tryz.prog 50 4 = some (7, 4, 1) ∧ fldT Tryz.prog 50 5 = some (8, 3, 1) ∧ fldT Tryz.prog 50 6 = some (9, 3, 1) ∧ fldT Tryz.prog 50 7 = some (10, 4, 1) ∧ layT Tryz.prog 50 = some (.str [(0, 2), (2, 1), (3, 2), (5, 2), (7, 1), (8, 1), (9, 1), (10, 1)]) ∧ bytesT Tryz.prog 50 = some 88 ∧ zeroC Tryz.prog 50 = some [.val (.int .i64 0), .val (.int .i64 0), .val (.int .u32 0), .val (.int .i64 0), .val (.int .i64 0), .val (.int .i64 0), .val (.int .i64 0), .val (.bool false), .val (.int .i64 0), .val (.int .i64 0), .val (.bool false)] ∧ allocC Tryz.prog 50 = some [.val (.int .i64 0), .val (.int .i64 0), .val (.int .u32 0), .val (.int .i64 0), .val (.int .i64 0), .val (.int .i64 0), .val (.int .i64 0), .val (.bool false), .val (.int .i64 0), .val (.int .i64 0), .val (.bool false)] := ⟨by kernel_rfl, by kernel_rfl, by kernel_rfl, by kernel_rfl, by kernel_rfl, by kernel_rfl, by kernel_rfl, by kernel_rfl, by kernel_rfl, by kernel_rfl, by kernel_rfl, by kernel_rfl, by kernel_rfl, by kernel_rfl, by kernel_rfl, by kernel_rfl⟩
@[go_sem] theorem ty51_size : sizeT Tryz.prog 51 = some 11 ∧ isAggT Tryz.prog 51 = some true ∧ knownT Tryz.prog 51 = true ∧ flatT Tryz.prog 51 = some (List.replicate 2 (some .i64) ++ List.replicate 1 (some .u32) ++ List.replicate 2 (some .i64) ++ List.replicate 2 (some .i64) ++ List.replicate 1 (none) ++ List.replicate 1 (some .i64) ++ List.replicate 1 (some .i64) ++ List.replicate 1 (none)) ∧ fldT Tryz.prog 51 0 = some (0, 48, 2) ∧ fldT Tryz.prog 51 1 = some (2, 49, 1) ∧ fldT Tryz.prog 51 2 = some (3, 48, 2) ∧ fldT Tryz.prog 51 3 = some (5, 48, 2) ∧ fldT Tryz.prog 51 4 = some (7, 4, 1) ∧ fldT Tryz.prog 51 5 = some (8, 3, 1) ∧ fldT Tryz.prog 51 6 = some (9, 3, 1) ∧ fldT Tryz.prog 51 7 = some (10, 4, 1) ∧ layT Tryz.prog 51 = some (.str [(0, 2), (2, 1), (3, 2), (5, 2), (7, 1), (8, 1), (9, 1), (10, 1)]) ∧ bytesT Tryz.prog 51 = some 88 ∧ zeroC Tryz.prog 51 = some [.val (.int .i64 0), .val (.int .i64 0), .val (.int .u32 0), .val (.int .i64 0), .val (.int .i64 0), .val (.int .i64 0), .val (.int .i64 0), .val (.bool false), .val (.int .i64 0), .val (.int .i64 0), .val (.bool false)] ∧ allocC Tryz.prog 51 = some [.val (.int .i64 0), .val (.int .i64 0), .val (.int .u32 0), .val (.int .i64 0), .val (.int .i64 0), .val (.int .i64 0), .val (.int .i64 0), .val (.bool false), .val (.int .i64 0), .val (.int .i64 0), .val (.bool false)] := ⟨by kernel_rfl, by kernel_rfl, by kernel_rfl, by kernel_rfl, by kernel_rfl, by kernel_rfl, by kernel_rfl, by kernel_rfl, by kernel_rfl, by kernel_rfl, by kernel_rfl, by kernel_rfl, by kernel_rfl, by kernel_rfl, by kernel_rfl, by kernel_rfl⟩
@[go_sem] theorem ty52_fn : isFnT Tryz.prog 52 = true ∧ sizeT Tryz.prog 52 = some 1 ∧ isAggT Tryz.prog 52 = some false := ⟨by kernel_rfl, by kernel_rfl, by kernel_rfl⟩
@[go_sem] theorem ty53_size : sizeT Tryz.prog 53 = some 16 ∧ isAggT Tryz.prog 53 = some true ∧ knownT Tryz.prog 53 = true ∧ flatT Tryz.prog 53 = some (List.replicate 16 (some .i32)) ∧ idxT Tryz.prog 53 = some (some 16, 21, 1) ∧ layT Tryz.prog 53 = some (.arr 1) ∧ bytesT Tryz.prog 53 = some 64 ∧ zeroC Tryz.prog 53 = some [.val (.int .i32 0), .val (.int .i32 0), .val (.int .i32 0), .val (.int .i32 0), .val (.int .i32 0), .val (.int .i32 0), .val (.int .i32 0), .val (.int .i32 0), .val (.int .i32 0), .val (.int .i32 0), .val (.int .i32 0), .val (.int .i32 0), .val (.int .i32 0), .val (.int .i32 0), .val (.int .i32 0), .val (.int .i32 0)] ∧ allocC Tryz.prog 53 = some [.val (.int .i32 0), .val (.int .i32 0), .val (.int .i32 0), .val (.int .i32 0), .val (.int .i32 0), .val (.int .i32 0), .val (.int .i32 0), .val (.int .i32 0), .val (.int .i32 0), .val (.int .i32 0), .val (.int .i32 0), .val (.int .i32 0), .val (.int .i32 0), .val (.int .i32 0), .val (.int .i32 0), .val (.int .i32 0)] := ⟨by kernel_rfl, by kernel_rfl, by kernel_rfl, by kernel_rfl, by kernel_rfl, by kernel_rfl, by kernel_rfl, by kernel_rfl, by kernel_rfl⟩
@[go_sem] theorem ty54_size : sizeT Tryz.prog 54 = some 20 ∧ isAggT Tryz.prog 54 = some true ∧ knownT Tryz.prog 54 = true ∧ flatT Tryz.prog 54 = some (List.replicate 1 (some .i64) ++ List.replicate 16 (some .i32) ++ List.replicate 1 (some .u32) ++ List.replicate 1 (none) ++ List.replicate 1 (some .i64)) ∧ fldT Tryz.prog 54 0 = some (0, 3, 1) ∧ fldT Tryz.prog 54 1 = some (1, 53, 16) ∧ fldT Tryz.prog 54 2 = some (17, 49, 1) ∧ fldT Tryz.prog 54 3 = some (18, 4, 1) ∧ fldT Tryz.prog 54 4 = some (19, 3, 1) ∧ layT Tryz.prog 54 = some (.str [(0, 1), (1, 16), (17, 1), (18, 1), (19, 1)]) ∧ bytesT Tryz.prog 54 = some 88 ∧ zeroC Tryz.prog 54 = some [.val (.int .i64 0), .val (.int .i32 0), .val (.int .i32 0), .val (.int .i32 0), .val (.int .i32 0), .val (.int .i32 0), .val (.int .i32 0), .val (.int .i32 0), .val (.int .i32 0), .val (.int .i32 0), .val (.int .i32 0), .val (.int .i32 0), .val (.int .i32 0), .val (.int .i32 0), .val (.int .i32 0), .val (.int .i32 0), .val (.int .i32 0), .val (.int .u32 0), .val (.bool false), .val (.int .i64 0)] ∧ allocC Tryz.prog 54 = some [.val (.int .i64 0), .val (.int .i32 0), .val (.int .i32 0), .val (.int .i32 0), .val (.int .i32 0), .val (.int .i32 0), .val (.int .i32 0), .val (.int .i32 0), .val (.int .i32 0), .val (.int .i32 0), .val (.int .i32 0), .val (.int .i32 0), .val (.int .i32 0), .val (.int .i32 0), .val (.int .i32 0), .val (.int .i32 0), .val (.int .i32 0), .val (.int .u32 0), .val (.bool false), .val (.int .i64 0)] := ⟨by kernel_rfl, by kernel_rfl, by kernel_rfl, by kernel_rfl, by kernel_rfl, by kernel_rfl, by kernel_rfl, by kernel_rfl, by kernel_rfl, by kernel_rfl, by kernel_rfl, by kernel_rfl, by kernel_rfl⟩
@[go_sem] theorem ty55_size : sizeT Tryz.prog 55 = some 20 ∧ isAggT Tryz.prog 55 = some true ∧ knownT Tryz.prog 55 = true ∧ flatT Tryz.prog 55 = some (List.replicate 1 (some .i64) ++ List.replicate 16 (some .i32) ++ List.replicate 1 (some .u32) ++ List.replicate 1 (none) ++ List.replicate 1 (some .i64)) ∧ fldT Tryz.prog 55 0 = some (0, 3, 1) ∧ fldT Tryz.prog 55 1 = some (1, 53, 16) ∧ fldT Tryz.prog 55 2 = some (17, 49, 1) ∧ fldT Tryz.prog 55 3 = some (18, 4, 1) ∧ fldT Tryz.prog 55 4 = some (19, 3, 1) ∧ layT Tryz.prog 55 = some (.str [(0, 1), (1, 16), (17, 1), (18, 1), (19, 1)]) ∧ bytesT Tryz.prog 55 = some 88 ∧ zeroC Tryz.prog 55 = some [.val (.int .i64 0), .val (.int .i32 0), .val (.int .i32 0), .val (.int .i32 0), .val (.int .i32 0), .val (.int .i32 0), .val (.int .i32 0), .val (.int .i32 0), .val (.int .i32 0), .val (.int .i32 0), .val (.int .i32 0), .val (.int .i32 0), .val (.int .i32 0), .val (.int .i32 0), .val (.int .i32 0), .val (.int .i32 0), .val (.int .i32 0), .val (.int .u32 0), .val (.bool false), .val (.int .i64 0)] ∧ allocC Tryz.prog 55 = some [.val (.int .i64 0), .val (.int .i32 0), .val (.int .i32 0), .val (.int .i32 0), .val (.int .i32 0), .val (.int .i32 0), .val (.int .i32 0), .val (.int .i32 0), .val (.int .i32 0), .val (.int .i32 0), .val (.int .i32 0), .val (.int .i32 0), .val (.int .i32 0), .val (.int .i32 0), .val (.int .i32 0), .val (.int .i32 0), .val (.int .i32 0), .val (.int .u32 0), .val (.bool false), .val (.int .i64 0)] := ⟨by kernel_rfl, by kernel_rfl, by kernel_rfl, by kernel_rfl, by kernel_rfl, by kernel_rfl, by kernel_rfl, by kernel_rfl, by kernel_rfl, by kernel_rfl, by kernel_rfl, by kernel_rfl, by kernel_rfl⟩
@[go_sem] theorem ty56_fn : isFnT Tryz.prog 56 = true ∧ sizeT Tryz.prog 56 = some 1 ∧ isAggT Tryz.prog 56 = some false := ⟨by kernel_rfl, by kernel_rfl, by kernel_rfl⟩
@[go_sem] theorem ty57_fn : isFnT Tryz.prog 57 = true ∧ sizeT Tryz.prog 57 = some 1 ∧ isAggT Tryz.prog 57 = some false := ⟨by kernel_rfl, by kernel_rfl, by kernel_rfl⟩
@[go_sem] theorem ty58_fn : isFnT Tryz.prog 58 = true ∧ sizeT Tryz.prog 58 = some 1 ∧ isAggT Tryz.prog 58 = some false := ⟨by kernel_rfl, by kernel_rfl, by kernel_rfl⟩
@[go_sem] theorem ty59_size : sizeT Tryz.prog 59 = some 1 ∧ isAggT Tryz.prog 59 = some false ∧ knownT Tryz.prog 59 = true ∧ isSlcT Tryz.prog 59 = true ∧ idxT Tryz.prog 59 = some (none, 35, 1) ∧ bytesT Tryz.prog 59 = some 24 ∧ zeroC Tryz.prog 59 = some [.lst .full (some true) 1 []] ∧ allocC Tryz.prog 59 = some [.lst .full (some true) 1 []] := ⟨by kernel_rfl, by kernel_rfl, by kernel_rfl, by kernel_rfl, by kernel_rfl, by kernel_rfl, by kernel_rfl, by kernel_rfl⟩
@[go_sem] theorem ty60_size : sizeT Tryz.prog 60 = some 2 ∧ isAggT Tryz.prog 60 = some true ∧ knownT Tryz.prog 60 = true ∧ idxT Tryz.prog 60 = some (some 2, 59, 1) ∧ layT Tryz.prog 60 = some (.arr 1) ∧ bytesT Tryz.prog 60 = some 48 ∧ zeroC Tryz.prog 60 = some [.lst .full (some true) 1 [], .lst .full (some true) 1 []] ∧ allocC Tryz.prog 60 = some [.lst .full (some true) 1 [], .lst .full (some true) 1 []] := ⟨by kernel_rfl, by kernel_rfl, by kernel_rfl, by kernel_rfl, by kernel_rfl, by kernel_rfl, by kernel_rfl, by kernel_rfl⟩
@[go_sem] theorem ty61_size : sizeT Tryz.prog 61 = some 1 ∧ isAggT Tryz.prog 61 = some false ∧ knownT Tryz.prog 61 = true ∧ isSlcT Tryz.prog 61 = true ∧ idxT Tryz.prog 61 = some (none, 85, 2) ∧ bytesT Tryz.prog 61 = some 24 ∧ zeroC Tryz.prog 61 = some [.lst .full (some true) 1 []] ∧ allocC Tryz.prog 61 = some [.lst .full (some true) 1 []] := ⟨by kernel_rfl, by kernel_rfl, by kernel_rfl, by kernel_rfl, by kernel_rfl, by kernel_rfl, by kernel_rfl, by kernel_rfl⟩
@[go_sem] theorem ty62_size : sizeT Tryz.prog 62 = some 38 ∧ isAggT Tryz.prog 62 = some true ∧ knownT Tryz.prog 62 = true ∧ fldT Tryz.prog 62 0 = some (0, 24, 3) ∧ fldT Tryz.prog 62 1 = some (3, 51, 11) ∧ fldT Tryz.prog 62 2 = some (14, 60, 2) ∧ fldT Tryz.prog 62 3 = some (16, 61, 1) ∧ fldT Tryz.prog 62 4 = some (17, 55, 20) ∧ fldT Tryz.prog 62 5 = some (37, 45, 1) ∧ layT Tryz.prog 62 = some (.str [(0, 3), (3, 11), (14, 2), (16, 1), (17, 20), (37, 1)]) ∧ bytesT Tryz.prog 62 = some 312 ∧ zeroC Tryz.prog 62 = some [.lst .full (some true) 1 [], .val (.int .i64 0), .val (.int .i64 0), .val (.int .i64 0), .val (.int .i64 0), .val (.int .u32 0), .val (.int .i64 0), .val (.int .i64 0), .val (.int .i64 0), .val (.int .i64 0), .val (.bool false), .val (.int .i64 0), .val (.int .i64 0), .val (.bool false), .lst .full (some true) 1 [], .lst .full (some true) 1 [], .lst .full (some true) 1 [], .val (.int .i64 0), .val (.int .i32 0), .val (.int .i32 0), .val (.int .i32 0), .val (.int .i32 0), .val (.int .i32 0), .val (.int .i32 0), .val (.int .i32 0), .val (.int .i32 0), .val (.int .i32 0), .val (.int .i32 0), .val (.int .i32 0), .val (.int .i32 0), .val (.int .i32 0), .val (.int .i32 0), .val (.int .i32 0), .val (.int .i32 0), .val (.int .u32 0), .val (.bool false), .val (.int .i64 0), .lst .full (some true) 1 []] ∧ allocC Tryz.prog 62 = some [.lst .full (some true) 1 [], .val (.int .i64 0), .val (.int .i64 0), .val (.int .i64 0), .val (.int .i64 0), .val (.int .u32 0), .val (.int .i64 0), .val (.int .i64 0), .val (.int .i64 0), .val (.int .i64 0), .val (.bool false), .val (.int .i64 0), .val (.int .i64 0), .val (.bool false), .lst .full (some true) 1 [], .lst .full (some true) 1 [], .lst .full (some true) 1 [], .val (.int .i64 0), .val (.int .i32 0), .val (.int .i32 0), .val (.int .i32 0), .val (.int .i32 0), .val (.int .i32 0), .val (.int .i32 0), .val (.int .i32 0), .val (.int .i32 0), .val (.int .i32 0), .val (.int .i32 0), .val (.int .i32 0), .val (.int .i32 0), .val (.int .i32 0), .val (.int .i32 0), .val (.int .i32 0), .val (.int .i32 0), .val (.int .u32 0), .val (.bool false), .val (.int .i64 0), .lst .full (some true) 1 []] := ⟨by kernel_rfl, by kernel_rfl, by kernel_rfl, by kernel_rfl, by kernel_rfl, by kernel_rfl, by kernel_rfl, by kernel_rfl, by kernel_rfl, by kernel_rfl, by kernel_rfl, by kernel_rfl, by kernel_rfl⟩
@[go_sem] theorem ty63_size : sizeT Tryz.prog 63 = some 38 ∧ isAggT Tryz.prog 63 = some true ∧ knownT Tryz.prog 63 = true ∧ fldT Tryz.prog 63 0 = some (0, 24, 3) ∧ fldT Tryz.prog 63 1 = some (3, 51, 11) ∧ fldT Tryz.prog 63 2 = some (14, 60, 2) ∧ fldT Tryz.prog 63 3 = some (16, 61, 1) ∧ fldT Tryz.prog 63 4 = some (17, 55, 20) ∧ fldT Tryz.prog 63 5 = some (37, 45, 1) ∧ layT Tryz.prog 63 = some (.str [(0, 3), (3, 11), (14, 2), (16, 1), (17, 20), (37, 1)]) ∧ bytesT Tryz.prog 63 = some 312 ∧ zeroC Tryz.prog 63 = some [.lst .full (some true) 1 [], .val (.int .i64 0), .val (.int .i64 0), .val (.int .i64 0), .val (.int .i64 0), .val (.int .u32 0), .val (.int .i64 0), .val (.int .i64 0), .val (.int .i64 0), .val (.int .i64 0), .val (.bool false), .val (.int .i64 0), .val (.int .i64 0), .val (.bool false), .lst .full (some true) 1 [], .lst .full (some true) 1 [], .lst .full (some true) 1 [], .val (.int .i64 0), .val (.int .i32 0), .val (.int .i32 0), .val (.int .i32 0), .val (.int .i32 0), .val (.int .i32 0), .val (.int .i32 0), .val (.int .i32 0), .val (.int .i32 0), .val (.int .i32 0), .val (.int .i32 0), .val (.int .i32 0), .val (.int .i32 0), .val (.int .i32 0), .val (.int .i32 0), .val (.int .i32 0), .val (.int .i32 0), .val (.int .u32 0), .val (.bool false), .val (.int .i64 0), .lst .full (some true) 1 []] ∧ allocC Tryz.prog 63 = some [.lst .full (some true) 1 [], .val (.int .i64 0), .val (.int .i64 0), .val (.int .i64 0), .val (.int .i64 0), .val (.int .u32 0), .val (.int .i64 0), .val (.int .i64 0), .val (.int .i64 0), .val (.int .i64 0), .val (.bool false), .val (.int .i64 0), .val (.int .i64 0), .val (.bool false), .lst .full (some true) 1 [], .lst .full (some true) 1 [], .lst .full (some true) 1 [], .val (.int .i64 0), .val (.int .i32 0), .val (.int .i32 0), .val (.int .i32 0), .val (.int .i32 0), .val (.int .i32 0), .val (.int .i32 0), .val (.int .i32 0), .val (.int .i32 0), .val (.int .i32 0), .val (.int .i32 0), .val (.int .i32 0), .val (.int .i32 0), .val (.int .i32 0), .val (.int .i32 0), .val (.int .i32 0), .val (.int .i32 0), .val (.int .u32 0), .val (.bool false), .val (.int .i64 0), .lst .full (some true) 1 []] := ⟨by kernel_rfl, by kernel_rfl, by kernel_rfl, by kernel_rfl, by kernel_rfl, by kernel_rfl, by kernel_rfl, by kernel_rfl, by kernel_rfl, by kernel_rfl, by kernel_rfl, by kernel_rfl, by kernel_rfl⟩
@[go_sem] theorem ty64_fn : isFnT Tryz.prog 64 = true ∧ sizeT Tryz.prog 64 = some 1 ∧ isAggT Tryz.prog 64 = some false := ⟨by kernel_rfl, by kernel_rfl, by kernel_rfl⟩
@[go_sem] theorem ty65_size : sizeT Tryz.prog 65 = some 2 ∧ isAggT Tryz.prog 65 = some true ∧ knownT Tryz.prog 65 = true ∧ flatT Tryz.prog 65 = some (List.replicate 1 (some .i64) ++ List.replicate 1 (some .i64)) ∧ fldT Tryz.prog 65 0 = some (0, 3, 1) ∧ fldT Tryz.prog 65 1 = some (1, 3, 1) ∧ layT Tryz.prog 65 = some (.str [(0, 1), (1, 1)]) ∧ bytesT Tryz.prog 65 = some 16 ∧ zeroC Tryz.prog 65 = some [.val (.int .i64 0), .val (.int .i64 0)] ∧ allocC Tryz.prog 65 = some [.val (.int .i64 0), .val (.int .i64 0)] := ⟨by kernel_rfl, by kernel_rfl, by kernel_rfl, by kernel_rfl, by kernel_rfl, by kernel_rfl, by kernel_rfl, by kernel_rfl, by kernel_rfl, by kernel_rfl⟩
@[go_sem] theorem ty66_size : sizeT Tryz.prog 66 = some 2 ∧ isAggT Tryz.prog 66 = some true ∧ knownT Tryz.prog 66 = true ∧ flatT Tryz.prog 66 = some (List.replicate 1 (some .i64) ++ List.replicate 1 (some .i64)) ∧ fldT Tryz.prog 66 0 = some (0, 3, 1) ∧ fldT Tryz.prog 66 1 = some (1, 3, 1) ∧ layT Tryz.prog 66 = some (.str [(0, 1), (1, 1)]) ∧ bytesT Tryz.prog 66 = some 16 ∧ zeroC Tryz.prog 66 = some [.val (.int .i64 0), .val (.int .i64 0)] ∧ allocC Tryz.prog 66 = some [.val (.int .i64 0), .val (.int .i64 0)] := ⟨by kernel_rfl, by kernel_rfl, by kernel_rfl, by kernel_rfl, by kernel_rfl, by kernel_rfl, by kernel_rfl, by kernel_rfl, by kernel_rfl, by kernel_rfl⟩
@[go_sem] theorem ty67_fn : isFnT Tryz.prog 67 = true ∧ sizeT Tryz.prog 67 = some 1 ∧ isAggT Tryz.prog 67 = some false := ⟨by kernel_rfl, by kernel_rfl, by kernel_rfl⟩
@[go_sem] theorem ty68_size : sizeT Tryz.prog 68 = some 15 ∧ isAggT Tryz.prog 68 = some true ∧ knownT Tryz.prog 68 = true ∧ fldT Tryz.prog 68 0 = some (0, 24, 3) ∧ fldT Tryz.prog 68 1 = some (3, 45, 1) ∧ fldT Tryz.prog 68 2 = some (4, 60, 2) ∧ fldT Tryz.prog 68 3 = some (6, 48, 2) ∧ fldT Tryz.prog 68 4 = some (8, 49, 1) ∧ fldT Tryz.prog 68 5 = some (9, 48, 2) ∧ fldT Tryz.prog 68 6 = some (11, 4, 1) ∧ fldT Tryz.prog 68 7 = some (12, 4, 1) ∧ fldT Tryz.prog 68 8 = some (13, 3, 1) ∧ fldT Tryz.prog 68 9 = some (14, 3, 1) ∧ layT Tryz.prog 68 = some (.str [(0, 3), (3, 1), (4, 2), (6, 2), (8, 1), (9, 2), (11, 1), (12, 1), (13, 1), (14, 1)]) ∧ bytesT Tryz.prog 68 = some 176 ∧ zeroC Tryz.prog 68 = some [.lst .full (some true) 1 [], .val (.int .i64 0), .val (.int .i64 0), .lst .full (some true) 1 [], .lst .full (some true) 1 [], .lst .full (some true) 1 [], .val (.int .i64 0), .val (.int .i64 0), .val (.int .u32 0), .val (.int .i64 0), .val (.int .i64 0), .val (.bool false), .val (.bool false), .val (.int .i64 0), .val (.int .i64 0)] ∧ allocC Tryz.prog 68 = some [.lst .full (some true) 1 [], .val (.int .i64 0), .val (.int .i64 0), .lst .full (some true) 1 [], .lst .full (some true) 1 [], .lst .full (some true) 1 [], .val (.int .i64 0), .val (.int .i64 0), .val (.int .u32 0), .val (.int .i64 0), .val (.int .i64 0), .val (.bool false), .val (.bool false), .val (.int .i64 0), .val (.int .i64 0)] := ⟨by kernel_rfl, by kernel_rfl, by kernel_rfl, by kernel_rfl, by kernel_rfl, by kernel_rfl, by kernel_rfl, by kernel_rfl, by kernel_rfl, by kernel_rfl, by kernel_rfl, by kernel_rfl, by kernel_rfl, by kernel_rfl, by kernel_rfl, by kernel_rfl, by kernel_rfl⟩
@[go_sem] theorem ty69_size : sizeT Tryz.prog 69 = some 15 ∧ isAggT Tryz.prog 69 = some true ∧ knownT Tryz.prog 69 = true ∧ fldT Tryz.prog 69 0 = some (0, 24, 3) ∧ fldT Tryz.prog 69 1 = some (3, 45, 1) ∧ fldT Tryz.prog 69 2 = some (4, 60, 2) ∧ fldT Tryz.prog 69 3 = some (6, 48, 2) ∧ fldT Tryz.prog 69 4 = some (8, 49, 1) ∧ fldT Tryz.prog 69 5 = some (9, 48, 2) ∧ fldT Tryz.prog 69 6 = some (11, 4, 1) ∧ fldT Tryz.prog 69 7 = some (12, 4, 1) ∧ fldT Tryz.prog 69 8 = some (13, 3, 1) ∧ fldT Tryz.prog 69 9 = some (14, 3, 1) ∧ layT Tryz.prog 69 = some (.str [(0, 3), (3, 1), (4, 2), (6, 2), (8, 1), (9, 2), (11, 1), (12, 1), (13, 1), (14, 1)]) ∧ bytesT Tryz.prog 69 = some 176 ∧ zeroC Tryz.prog 69 = some [.lst .full (some true) 1 [], .val (.int .i64 0), .val (.int .i64 0), .lst .full (some true) 1 [], .lst .full (some true) 1 [], .lst .full (some true) 1 [], .val (.int .i64 0), .val (.int .i64 0), .val (.int .u32 0), .val (.int .i64 0), .val (.int .i64 0), .val (.bool false), .val (.bool false), .val (.int .i64 0), .val (.int .i64 0)] ∧ allocC Tryz.prog 69 = some [.lst .full (some true) 1 [], .val (.int .i64 0), .val (.int .i64 0), .lst .full (some true) 1 [], .lst .full (some true) 1 [], .lst .full (some true) 1 [], .val (.int .i64 0), .val (.int .i64 0), .val (.int .u32 0), .val (.int .i64 0), .val (.int .i64 0), .val (.bool false), .val (.bool false), .val (.int .i64 0), .val (.int .i64 0)] := ⟨by kernel_rfl, by kernel_rfl, by kernel_rfl, by kernel_rfl, by kernel_rfl, by kernel_rfl, by kernel_rfl, by kernel_rfl, by kernel_rfl, by kernel_rfl, by kernel_rfl, by kernel_rfl, by kernel_rfl, by kernel_rfl, by kernel_rfl, by kernel_rfl, by kernel_rfl⟩
@[go_sem] theorem ty70_fn : isFnT Tryz.prog 70 = true ∧ sizeT Tryz.prog 70 = some 1 ∧ isAggT Tryz.prog 70 = some false := ⟨by kernel_rfl, by kernel_rfl, by kernel_rfl⟩
@[go_sem] theorem ty72_fn : isFnT Tryz.prog 72 = true ∧ sizeT Tryz.prog 72 = some 1 ∧ isAggT Tryz.prog 72 = some false := ⟨by kernel_rfl, by kernel_rfl, by kernel_rfl⟩
@[go_sem] theorem ty73_fn : isFnT Tryz.prog 73 = true ∧ sizeT Tryz.prog 73 = some 1 ∧ isAggT Tryz.prog 73 = some false := ⟨by kernel_rfl, by kernel_rfl, by kernel_rfl⟩
@[go_sem] theorem ty74_fn : isFnT Tryz.prog 74 = true ∧ sizeT Tryz.prog 74 = some 1 ∧ isAggT Tryz.prog 74 = some false := ⟨by kernel_rfl, by kernel_rfl, by kernel_rfl⟩
@[go_sem] theorem ty75_fn : isFnT Tryz.prog 75 = true ∧ sizeT Tryz.prog 75 = some 1 ∧ isAggT Tryz.prog 75 = some false := ⟨by kernel_rfl, by kernel_rfl, by kernel_rfl⟩
@[go_sem] theorem ty76_fn : isFnT Tryz.prog 76 = true ∧ sizeT Tryz.prog 76 = some 1 ∧ isAggT Tryz.prog 76 = some false := ⟨by kernel_rfl, by kernel_rfl, by kernel_rfl⟩
@[go_sem] theorem ty77_fn : isFnT Tryz.prog 77 = true ∧ sizeT Tryz.prog 77 = some 1 ∧ isAggT Tryz.prog 77 = some false := ⟨by kernel_rfl, by kernel_rfl, by kernel_rfl⟩
@[go_sem] theorem ty78_size : sizeT Tryz.prog 78 = some 3 ∧ isAggT Tryz.prog 78 = some true ∧ knownT Tryz.prog 78 = true ∧ fldT Tryz.prog 78 0 = some (0, 75, 1) ∧ fldT Tryz.prog 78 1 = some (1, 76, 1) ∧ fldT Tryz.prog 78 2 = some (2, 77, 1) ∧ layT Tryz.prog 78 = some (.str [(0, 1), (1, 1), (2, 1)]) ∧ bytesT Tryz.prog 78 = some 24 ∧ zeroC Tryz.prog 78 = some [.val (.nilFunc), .val (.nilFunc), .val (.nilFunc)] ∧ allocC Tryz.prog 78 = some [.val (.nilFunc), .val (.nilFunc), .val (.nilFunc)] := ⟨by kernel_rfl, by kernel_rfl, by kernel_rfl, by kernel_rfl, by kernel_rfl, by kernel_rfl, by kernel_rfl, by kernel_rfl, by kernel_rfl, by kernel_rfl⟩
@[go_sem] theorem ty79_size : sizeT Tryz.prog 79 = some 3 ∧ isAggT Tryz.prog 79 = some true ∧ knownT Tryz.prog 79 = true ∧ fldT Tryz.prog 79 0 = some (0, 75, 1) ∧ fldT Tryz.prog 79 1 = some (1, 76, 1) ∧ fldT Tryz.prog 79 2 = some (2, 77, 1) ∧ layT Tryz.prog 79 = some (.str [(0, 1), (1, 1), (2, 1)]) ∧ bytesT Tryz.prog 79 = some 24 ∧ zeroC Tryz.prog 79 = some [.val (.nilFunc), .val (.nilFunc), .val (.nilFunc)] ∧ allocC Tryz.prog 79 = some [.val (.nilFunc), .val (.nilFunc), .val (.nilFunc)] := ⟨by kernel_rfl, by kernel_rfl, by kernel_rfl, by kernel_rfl, by kernel_rfl, by kernel_rfl, by kernel_rfl, by kernel_rfl, by kernel_rfl, by kernel_rfl⟩
@[go_sem] theorem ty80_size : sizeT Tryz.prog 80 = some 18 ∧ isAggT Tryz.prog 80 = some true ∧ knownT Tryz.prog 80 = true ∧ idxT Tryz.prog 80 = some (some 6, 79, 3) ∧ layT Tryz.prog 80 = some (.arr 3) ∧ bytesT Tryz.prog 80 = some 144 ∧ zeroC Tryz.prog 80 = some [.val (.nilFunc), .val (.nilFunc), .val (.nilFunc), .val (.nilFunc), .val (.nilFunc), .val (.nilFunc), .val (.nilFunc), .val (.nilFunc), .val (.nilFunc), .val (.nilFunc), .val (.nilFunc), .val (.nilFunc), .val (.nilFunc), .val (.nilFunc), .val (.nilFunc), .val (.nilFunc), .val (.nilFunc), .val (.nilFunc)] ∧ allocC Tryz.prog 80 = some [.val (.nilFunc), .val (.nilFunc), .val (.nilFunc), .val (.nilFunc), .val (.nilFunc), .val (.nilFunc), .val (.nilFunc), .val (.nilFunc), .val (.nilFunc), .val (.nilFunc), .val (.nilFunc), .val (.nilFunc), .val (.nilFunc), .val (.nilFunc), .val (.nilFunc), .val (.nilFunc), .val (.nilFunc), .val (.nilFunc)] := ⟨by kernel_rfl, by kernel_rfl, by kernel_rfl, by kernel_rfl, by kernel_rfl, by kernel_rfl, by kernel_rfl, by kernel_rfl⟩
@[go_sem] theorem ty81_fn : isFnT Tryz.prog 81 = true ∧ sizeT Tryz.prog 81 = some 1 ∧ isAggT Tryz.prog 81 = some false := ⟨by kernel_rfl, by kernel_rfl, by kernel_rfl⟩
@[go_sem] theorem ty82_fn : isFnT Tryz.prog 82 = true ∧ sizeT Tryz.prog 82 = some 1 ∧ isAggT Tryz.prog 82 = some false := ⟨by kernel_rfl, by kernel_rfl, by kernel_rfl⟩
@[go_sem] theorem ty83_fn : isFnT Tryz.prog 83 = true ∧ sizeT Tryz.prog 83 = some 1 ∧ isAggT Tryz.prog 83 = some false := ⟨by kernel_rfl, by kernel_rfl, by kernel_rfl⟩
@[go_sem] theorem ty84_size : sizeT Tryz.prog 84 = some 2 ∧ isAggT Tryz.prog 84 = some true ∧ knownT Tryz.prog 84 = true ∧ flatT Tryz.prog 84 = some (List.replicate 2 (some .u16)) ∧ idxT Tryz.prog 84 = some (some 2, 35, 1) ∧ layT Tryz.prog 84 = some (.arr 1) ∧ bytesT Tryz.prog 84 = some 4 ∧ zeroC Tryz.prog 84 = some [.val (.int .u16 0), .val (.int .u16 0)] ∧ allocC Tryz.prog 84 = some [.val (.int .u16 0), .val (.int .u16 0)] := ⟨by kernel_rfl, by kernel_rfl, by kernel_rfl, by kernel_rfl, by kernel_rfl, by kernel_rfl, by kernel_rfl, by kernel_rfl, by kernel_rfl⟩
@[go_sem] theorem ty85_size : sizeT Tryz.prog 85 = some 2 ∧ isAggT Tryz.prog 85 = some true ∧ knownT Tryz.prog 85 = true ∧ flatT Tryz.prog 85 = some (List.replicate 2 (some .u16)) ∧ idxT Tryz.prog 85 = some (some 2, 35, 1) ∧ layT Tryz.prog 85 = some (.arr 1) ∧ bytesT Tryz.prog 85 = some 4 ∧ zeroC Tryz.prog 85 = some [.val (.int .u16 0), .val (.int .u16 0)] ∧ allocC Tryz.prog 85 = some [.val (.int .u16 0), .val (.int .u16 0)] := ⟨by kernel_rfl, by kernel_rfl, by kernel_rfl, by kernel_rfl, by kernel_rfl, by kernel_rfl, by kernel_rfl, by kernel_rfl, by kernel_rfl⟩
@[go_sem] theorem ty86_fn : isFnT Tryz.prog 86 = true ∧ sizeT Tryz.prog 86 = some 1 ∧ isAggT Tryz.prog 86 = some false := ⟨by kernel_rfl, by kernel_rfl, by kernel_rfl⟩
@[go_sem] theorem ty87_fn : isFnT Tryz.prog 87 = true ∧ sizeT Tryz.prog 87 = some 1 ∧ isAggT Tryz.prog 87 = some false := ⟨by kernel_rfl, by kernel_rfl, by kernel_rfl⟩
@[go_sem] theorem ty89_fn : isFnT Tryz.prog 89 = true ∧ sizeT Tryz.prog 89 = some 1 ∧ isAggT Tryz.prog 89 = some false := ⟨by kernel_rfl, by kernel_rfl, by kernel_rfl⟩
@[go_sem] theorem ty91_fn : isFnT Tryz.prog 91 = true ∧ sizeT Tryz.prog 91 = some 1 ∧ isAggT Tryz.prog 91 = some false := ⟨by kernel_rfl, by kernel_rfl, by kernel_rfl⟩
@[go_sem] theorem ty93_fn : isFnT Tryz.prog 93 = true ∧ sizeT Tryz.prog 93 = some 1 ∧ isAggT Tryz.prog 93 = some false := ⟨by kernel_rfl, by kernel_rfl, by kernel_rfl⟩
@[go_sem] theorem ty94_fn : isFnT Tryz.prog 94 = true ∧ sizeT Tryz.prog 94 = some 1 ∧ isAggT Tryz.prog 94 = some false := ⟨by kernel_rfl, by kernel_rfl, by kernel_rfl⟩
@[go_sem] theorem ty95_fn : isFnT Tryz.prog 95 = true ∧ sizeT Tryz.prog 95 = some 1 ∧ isAggT Tryz.prog 95 = some false := ⟨by kernel_rfl, by kernel_rfl, by kernel_rfl⟩
@[go_sem] theorem ty96_fn : isFnT Tryz.prog 96 = true ∧ sizeT Tryz.prog 96 = some 1 ∧ isAggT Tryz.prog 96 = some false := ⟨by kernel_rfl, by kernel_rfl, by kernel_rfl⟩
@[go_sem] theorem ty97_fn : isFnT Tryz.prog 97 = true ∧ sizeT Tryz.prog 97 = some 1 ∧ isAggT Tryz.prog 97 = some false := ⟨by kernel_rfl, by kernel_rfl, by kernel_rfl⟩
@[go_sem] theorem ty98_fn : isFnT Tryz.prog 98 = true ∧ sizeT Tryz.prog 98 = some 1 ∧ isAggT Tryz.prog 98 = some false := ⟨by kernel_rfl, by kernel_rfl, by kernel_rfl⟩
@[go_sem] theorem ty99_size : sizeT Tryz.prog 99 = some 3 ∧ isAggT Tryz.prog 99 = some true ∧ knownT Tryz.prog 99 = true ∧ fldT Tryz.prog 99 0 = some (0, 9, 1) ∧ fldT Tryz.prog 99 1 = some (1, 4, 1) ∧ fldT Tryz.prog 99 2 = some (2, 98, 1) ∧ layT Tryz.prog 99 = some (.str [(0, 1), (1, 1), (2, 1)]) ∧ bytesT Tryz.prog 99 = some 32 ∧ zeroC Tryz.prog 99 = some [.val (.string ⟨#[]⟩), .val (.bool false), .val (.nilFunc)] ∧ allocC Tryz.prog 99 = some [.val (.string ⟨#[]⟩), .val (.bool false), .val (.nilFunc)] := ⟨by kernel_rfl, by kernel_rfl, by kernel_rfl, by kernel_rfl, by kernel_rfl, by kernel_rfl, by kernel_rfl, by kernel_rfl, by kernel_rfl, by kernel_rfl⟩
@[go_sem] theorem ty100_size : sizeT Tryz.prog 100 = some 3 ∧ isAggT Tryz.prog 100 = some true ∧ knownT Tryz.prog 100 = true ∧ fldT Tryz.prog 100 0 = some (0, 9, 1) ∧ fldT Tryz.prog 100 1 = some (1, 4, 1) ∧ fldT Tryz.prog 100 2 = some (2, 98, 1) ∧ layT Tryz.prog 100 = some (.str [(0, 1), (1, 1), (2, 1)]) ∧ bytesT Tryz.prog 100 = some 32 ∧ zeroC Tryz.prog 100 = some [.val (.string ⟨#[]⟩), .val (.bool false), .val (.nilFunc)] ∧ allocC Tryz.prog 100 = some [.val (.string ⟨#[]⟩), .val (.bool false), .val (.nilFunc)] := ⟨by kernel_rfl, by kernel_rfl, by kernel_rfl, by kernel_rfl, by kernel_rfl, by kernel_rfl, by kernel_rfl, by kernel_rfl, by kernel_rfl, by kernel_rfl⟩
@[go_sem] theorem ty101_size : sizeT Tryz.prog 101 = some 69 ∧ isAggT Tryz.prog 101 = some true ∧ knownT Tryz.prog 101 = true ∧ idxT Tryz.prog 101 = some (some 23, 100, 3) ∧ layT Tryz.prog 101 = some (.arr 3) ∧ bytesT Tryz.prog 101 = some 736 ∧ zeroC Tryz.prog 101 = some [.val (.string ⟨#[]⟩), .val (.bool false), .val (.nilFunc), .val (.string ⟨#[]⟩), .val (.bool false), .val (.nilFunc), .val (.string ⟨#[]⟩), .val (.bool false), .val (.nilFunc), .val (.string ⟨#[]⟩), .val (.bool false), .val (.nilFunc), .val (.string ⟨#[]⟩), .val (.bool false), .val (.nilFunc), .val (.string ⟨#[]⟩), .val (.bool false), .val (.nilFunc), .val (.string ⟨#[]⟩), .val (.bool false), .val (.nilFunc), .val (.string ⟨#[]⟩), .val (.bool false), .val (.nilFunc), .val (.string ⟨#[]⟩), .val (.bool false), .val (.nilFunc), .val (.string ⟨#[]⟩), .val (.bool false), .val (.nilFunc), .val (.string ⟨#[]⟩), .val (.bool false), .val (.nilFunc), .val (.string ⟨#[]⟩), .val (.bool false), .val (.nilFunc), .val (.string ⟨#[]⟩), .val (.bool false), .val (.nilFunc), .val (.string ⟨#[]⟩), .val (.bool false), .val (.nilFunc), .val (.string ⟨#[]⟩), .val (.bool false), .val (.nilFunc), .val (.string ⟨#[]⟩), .val (.bool false), .val (.nilFunc), .val (.string ⟨#[]⟩), .val (.bool false), .val (.nilFunc), .val (.string ⟨#[]⟩), .val (.bool false), .val (.nilFunc), .val (.string ⟨#[]⟩), .val (.bool false), .val (.nilFunc), .val (.string ⟨#[]⟩), .val (.bool false), .val (.nilFunc), .val (.string ⟨#[]⟩), .val (.bool false), .val (.nilFunc), .val (.string ⟨#[]⟩), .val (.bool false), .val (.nilFunc), .val (.string ⟨#[]⟩), .val (.bool false), .val (.nilFunc)] ∧ allocC Tryz.prog 101 = some [.val (.string ⟨#[]⟩), .val (.bool false), .val (.nilFunc), .val (.string ⟨#[]⟩), .val (.bool false), .val (.nilFunc), .val (.string ⟨#[]⟩), .val (.bool false), .val (.nilFunc), .val (.string ⟨#[]⟩), .val (.bool false), .val (.nilFunc), .val (.string ⟨#[]⟩), .val (.bool false), .val (.nilFunc), .val (.string ⟨#[]⟩), .val (.bool false), .val (.nilFunc), .val (.string ⟨#[]⟩), .val (.bool false), .val (.nilFunc), .val (.string ⟨#[]⟩), .val (.bool false), .val (.nilFunc), .val (.string ⟨#[]⟩), .val (.bool false), .val (.nilFunc), .val (.string ⟨#[]⟩), .val (.bool false), .val (.nilFunc), .val (.string ⟨#[]⟩), .val (.bool false), .val (.nilFunc), .val (.string ⟨#[]⟩), .val (.bool false), .val (.nilFunc), .val (.string ⟨#[]⟩), .val (.bool false), .val (.nilFunc), .val (.string ⟨#[]⟩), .val (.bool false), .val (.nilFunc), .val (.string ⟨#[]⟩), .val (.bool false), .val (.nilFunc), .val (.string ⟨#[]⟩), .val (.bool false), .val (.nilFunc), .val (.string ⟨#[]⟩), .val (.bool false), .val (.nilFunc), .val (.string ⟨#[]⟩), .val (.bool false), .val (.nilFunc), .val (.string ⟨#[]⟩), .val (.bool false), .val (.nilFunc), .val (.string ⟨#[]⟩), .val (.bool false), .val (.nilFunc), .val (.string ⟨#[]⟩), .val (.bool false), .val (.nilFunc), .val (.string ⟨#[]⟩), .val (.bool false), .val (.nilFunc), .val (.string ⟨#[]⟩), .val (.bool false), .val (.nilFunc)] := ⟨by kernel_rfl, by kernel_rfl, by kernel_rfl, by kernel_rfl, by kernel_rfl, by kernel_rfl, by kernel_rfl, by kernel_rfl⟩
@[go_sem] theorem ty102_fn : isFnT Tryz.prog 102 = true ∧ sizeT Tryz.prog 102 = some 1 ∧ isAggT Tryz.prog 102 = some false := ⟨by kernel_rfl, by kernel_rfl, by kernel_rfl⟩
@[go_sem] theorem ty103_fn : isFnT Tryz.prog 103 = true ∧ sizeT Tryz.prog 103 = some 1 ∧ isAggT Tryz.prog 103 = some false := ⟨by kernel_rfl, by kernel_rfl, by kernel_rfl⟩
@[go_sem] theorem ty104_fn : isFnT Tryz.prog 104 = true ∧ sizeT Tryz.prog 104 = some 1 ∧ isAggT Tryz.prog 104 = some false := ⟨by kernel_rfl, by kernel_rfl, by kernel_rfl⟩
@[go_sem] theorem ty105_size : sizeT Tryz.prog 105 = some 1 ∧ isAggT Tryz.prog 105 = some false ∧ knownT Tryz.prog 105 = true ∧ isSlcT Tryz.prog 105 = true ∧ idxT Tryz.prog 105 = some (none, 3, 1) ∧ bytesT Tryz.prog 105 = some 24 ∧ zeroC Tryz.prog 105 = some [.lst .full (some true) 1 []] ∧ allocC Tryz.prog 105 = some [.lst .full (some true) 1 []] := ⟨by kernel_rfl, by kernel_rfl, by kernel_rfl, by kernel_rfl, by kernel_rfl, by kernel_rfl, by kernel_rfl, by kernel_rfl⟩
@[go_sem] theorem ty106_size : sizeT Tryz.prog 106 = some 1 ∧ isAggT Tryz.prog 106 = some false ∧ knownT Tryz.prog 106 = true ∧ isSlcT Tryz.prog 106 = true ∧ idxT Tryz.prog 106 = some (none, 55, 20) ∧ bytesT Tryz.prog 106 = some 24 ∧ zeroC Tryz.prog 106 = some [.lst .full (some true) 1 []] ∧ allocC Tryz.prog 106 = some [.lst .full (some true) 1 []] := ⟨by kernel_rfl, by kernel_rfl, by kernel_rfl, by kernel_rfl, by kernel_rfl, by kernel_rfl, by kernel_rfl, by kernel_rfl⟩
@[go_sem] theorem ty108_fn : isFnT Tryz.prog 108 = true ∧ sizeT Tryz.prog 108 = some 1 ∧ isAggT Tryz.prog 108 = some false := ⟨by kernel_rfl, by kernel_rfl, by kernel_rfl⟩
@[go_sem] theorem ty110_fn : isFnT Tryz.prog 110 = true ∧ sizeT Tryz.prog 110 = some 1 ∧ isAggT Tryz.prog 110 = some false := ⟨by kernel_rfl, by kernel_rfl, by kernel_rfl⟩
@[go_sem] theorem ty111_fn : isFnT Tryz.prog 111 = true ∧ sizeT Tryz.prog 111 = some 1 ∧ isAggT Tryz.prog 111 = some false := ⟨by kernel_rfl, by kernel_rfl, by kernel_rfl⟩
@[go_sem] theorem ty112_size : sizeT Tryz.prog 112 = some 1 ∧ isAggT Tryz.prog 112 = some false ∧ knownT Tryz.prog 112 = true ∧ isPtrT Tryz.prog 112 = true ∧ bytesT Tryz.prog 112 = some 8 ∧ zeroC Tryz.prog 112 = some [.val (.pointer none)] ∧ allocC Tryz.prog 112 = some [.val (.pointer none)] := ⟨by kernel_rfl, by kernel_rfl, by kernel_rfl, by kernel_rfl, by kernel_rfl, by kernel_rfl, by kernel_rfl⟩
@[go_sem] theorem ty113_size : sizeT Tryz.prog 113 = some 1 ∧ isAggT Tryz.prog 113 = some false ∧ knownT Tryz.prog 113 = true ∧ isSlcT Tryz.prog 113 = true ∧ idxT Tryz.prog 113 = some (none, 21, 1) ∧ bytesT Tryz.prog 113 = some 24 ∧ zeroC Tryz.prog 113 = some [.lst .full (some true) 1 []] ∧ allocC Tryz.prog 113 = some [.lst .full (some true) 1 []] := ⟨by kernel_rfl, by kernel_rfl, by kernel_rfl, by kernel_rfl, by kernel_rfl, by kernel_rfl, by kernel_rfl, by kernel_rfl⟩
@[go_sem] theorem ty114_size : sizeT Tryz.prog 114 = some 26 ∧ isAggT Tryz.prog 114 = some true ∧ knownT Tryz.prog 114 = true ∧ fldT Tryz.prog 114 0 = some (0, 55, 20) ∧ fldT Tryz.prog 114 1 = some (20, 85, 2) ∧ fldT Tryz.prog 114 2 = some (22, 113, 1) ∧ fldT Tryz.prog 114 3 = some (23, 3, 1) ∧ fldT Tryz.prog 114 4 = some (24, 3, 1) ∧ fldT Tryz.prog 114 5 = some (25, 4, 1) ∧ layT Tryz.prog 114 = some (.str [(0, 20), (20, 2), (22, 1), (23, 1), (24, 1), (25, 1)]) ∧ bytesT Tryz.prog 114 = some 144 ∧ zeroC Tryz.prog 114 = some [.val (.int .i64 0), .val (.int .i32 0), .val (.int .i32 0), .val (.int .i32 0), .val (.int .i32 0), .val (.int .i32 0), .val (.int .i32 0), .val (.int .i32 0), .val (.int .i32 0), .val (.int .i32 0), .val (.int .i32 0), .val (.int .i32 0), .val (.int .i32 0), .val (.int .i32 0), .val (.int .i32 0), .val (.int .i32 0), .val (.int .i32 0), .val (.int .u32 0), .val (.bool false), .val (.int .i64 0), .val (.int .u16 0), .val (.int .u16 0), .lst .full (some true) 1 [], .val (.int .i64 0), .val (.int .i64 0), .val (.bool false)] ∧ allocC Tryz.prog 114 = some [.val (.int .i64 0), .val (.int .i32 0), .val (.int .i32 0), .val (.int .i32 0), .val (.int .i32 0), .val (.int .i32 0), .val (.int .i32 0), .val (.int .i32 0), .val (.int .i32 0), .val (.int .i32 0), .val (.int .i32 0), .val (.int .i32 0), .val (.int .i32 0), .val (.int .i32 0), .val (.int .i32 0), .val (.int .i32 0), .val (.int .i32 0), .val (.int .u32 0), .val (.bool false), .val (.int .i64 0), .val (.int .u16 0), .val (.int .u16 0), .lst .full (some true) 1 [], .val (.int .i64 0), .val (.int .i64 0), .val (.bool false)] := ⟨by kernel_rfl, by kernel_rfl, by kernel_rfl, by kernel_rfl, by kernel_rfl, by kernel_rfl, by kernel_rfl, by kernel_rfl, by kernel_rfl, by kernel_rfl, by kernel_rfl, by kernel_rfl, by kernel_rfl⟩
@[go_sem] theorem ty115_size : sizeT Tryz.prog 115 = some 26 ∧ isAggT Tryz.prog 115 = some true ∧ knownT Tryz.prog 115 = true ∧ fldT Tryz.prog 115 0 = some (0, 55, 20) ∧ fldT Tryz.prog 115 1 = some (20, 85, 2) ∧ fldT Tryz.prog 115 2 = some (22, 113, 1) ∧ fldT Tryz.prog 115 3 = some (23, 3, 1) ∧ fldT Tryz.prog 115 4 = some (24, 3, 1) ∧ fldT Tryz.prog 115 5 = some (25, 4, 1) ∧ layT Tryz.prog 115 = some (.str [(0, 20), (20, 2), (22, 1), (23, 1), (24, 1), (25, 1)]) ∧ bytesT Tryz.prog 115 = some 144 ∧ zeroC Tryz.prog 115 = some [.val (.int .i64 0), .val (.int .i32 0), .val (.int .i32 0), .val (.int .i32 0), .val (.int .i32 0), .val (.int .i32 0), .val (.int .i32 0), .val (.int .i32 0), .val (.int .i32 0), .val (.int .i32 0), .val (.int .i32 0), .val (.int .i32 0), .val (.int .i32 0), .val (.int .i32 0), .val (.int .i32 0), .val (.int .i32 0), .val (.int .i32 0), .val (.int .u32 0), .val (.bool false), .val (.int .i64 0), .val (.int .u16 0), .val (.int .u16 0), .lst .full (some true) 1 [], .val (.int .i64 0), .val (.int .i64 0), .val (.bool false)] ∧ allocC Tryz.prog 115 = some [.val (.int .i64 0), .val (.int .i32 0), .val (.int .i32 0), .val (.int .i32 0), .val (.int .i32 0), .val (.int .i32 0), .val (.int .i32 0), .val (.int .i32 0), .val (.int .i32 0), .val (.int .i32 0), .val (.int .i32 0), .val (.int .i32 0), .val (.int .i32 0), .val (.int .i32 0), .val (.int .i32 0), .val (.int .i32 0), .val (.int .i32 0), .val (.int .u32 0), .val (.bool false), .val (.int .i64 0), .val (.int .u16 0), .val (.int .u16 0), .lst .full (some true) 1 [], .val (.int .i64 0), .val (.int .i64 0), .val (.bool false)] := ⟨by kernel_rfl, by kernel_rfl, by kernel_rfl, by kernel_rfl, by kernel_rfl, by kernel_rfl, by kernel_rfl, by kernel_rfl, by kernel_rfl, by kernel_rfl, by kernel_rfl, by kernel_rfl, by kernel_rfl⟩
@[go_sem] theorem ty116_fn : isFnT Tryz.prog 116 = true ∧ sizeT Tryz.prog 116 = some 1 ∧ isAggT Tryz.prog 116 = some false := ⟨by kernel_rfl, by kernel_rfl, by kernel_rfl⟩
@[go_sem] theorem ty117_size : sizeT Tryz.prog 117 = some 1 ∧ isAggT Tryz.prog 117 = some false ∧ knownT Tryz.prog 117 = true ∧ isPtrT Tryz.prog 117 = true ∧ bytesT Tryz.prog 117 = some 8 ∧ zeroC Tryz.prog 117 = some [.val (.pointer none)] ∧ allocC Tryz.prog 117 = some [.val (.pointer none)] := ⟨by kernel_rfl, by kernel_rfl, by kernel_rfl, by kernel_rfl, by kernel_rfl, by kernel_rfl, by kernel_rfl⟩
@[go_sem] theorem ty118_size : sizeT Tryz.prog 118 = some 26 ∧ isAggT Tryz.prog 118 = some true ∧ knownT Tryz.prog 118 = true ∧ fldT Tryz.prog 118 0 = some (0, 55, 20) ∧ fldT Tryz.prog 118 1 = some (20, 85, 2) ∧ fldT Tryz.prog 118 2 = some (22, 113, 1) ∧ fldT Tryz.prog 118 3 = some (23, 3, 1) ∧ fldT Tryz.prog 118 4 = some (24, 4, 1) ∧ fldT Tryz.prog 118 5 = some (25, 4, 1) ∧ layT Tryz.prog 118 = some (.str [(0, 20), (20, 2), (22, 1), (23, 1), (24, 1), (25, 1)]) ∧ bytesT Tryz.prog 118 = some 136 ∧ zeroC Tryz.prog 118 = some [.val (.int .i64 0), .val (.int .i32 0), .val (.int .i32 0), .val (.int .i32 0), .val (.int .i32 0), .val (.int .i32 0), .val (.int .i32 0), .val (.int .i32 0), .val (.int .i32 0), .val (.int .i32 0), .val (.int .i32 0), .val (.int .i32 0), .val (.int .i32 0), .val (.int .i32 0), .val (.int .i32 0), .val (.int .i32 0), .val (.int .i32 0), .val (.int .u32 0), .val (.bool false), .val (.int .i64 0), .val (.int .u16 0), .val (.int .u16 0), .lst .full (some true) 1 [], .val (.int .i64 0), .val (.bool false), .val (.bool false)] ∧ allocC Tryz.prog 118 = some [.val (.int .i64 0), .val (.int .i32 0), .val (.int .i32 0), .val (.int .i32 0), .val (.int .i32 0), .val (.int .i32 0), .val (.int .i32 0), .val (.int .i32 0), .val (.int .i32 0), .val (.int .i32 0), .val (.int .i32 0), .val (.int .i32 0), .val (.int .i32 0), .val (.int .i32 0), .val (.int .i32 0), .val (.int .i32 0), .val (.int .i32 0), .val (.int .u32 0), .val (.bool false), .val (.int .i64 0), .val (.int .u16 0), .val (.int .u16 0), .lst .full (some true) 1 [], .val (.int .i64 0), .val (.bool false), .val (.bool false)] := ⟨by kernel_rfl, by kernel_rfl, by kernel_rfl, by kernel_rfl, by kernel_rfl, by kernel_rfl, by kernel_rfl, by kernel_rfl, by kernel_rfl, by kernel_rfl, by kernel_rfl, by kernel_rfl, by kernel_rfl⟩
@[go_sem] theorem ty119_size : sizeT Tryz.prog 119 = some 26 ∧ isAggT Tryz.prog 119 = some true ∧ knownT Tryz.prog 119 = true ∧ fldT Tryz.prog 119 0 = some (0, 55, 20) ∧ fldT Tryz.prog 119 1 = some (20, 85, 2) ∧ fldT Tryz.prog 119 2 = some (22, 113, 1) ∧ fldT Tryz.prog 119 3 = some (23, 3, 1) ∧ fldT Tryz.prog 119 4 = some (24, 4, 1) ∧ fldT Tryz.prog 119 5 = some (25, 4, 1) ∧ layT Tryz.prog 119 = some (.str [(0, 20), (20, 2), (22, 1), (23, 1), (24, 1), (25, 1)]) ∧ bytesT Tryz.prog 119 = some 136 ∧ zeroC Tryz.prog 119 = some [.val (.int .i64 0), .val (.int .i32 0), .val (.int .i32 0), .val (.int .i32 0), .val (.int .i32 0), .val (.int .i32 0), .val (.int .i32 0), .val (.int .i32 0), .val (.int .i32 0), .val (.int .i32 0), .val (.int .i32 0), .val (.int .i32 0), .val (.int .i32 0), .val (.int .i32 0), .val (.int .i32 0), .val (.int .i32 0), .val (.int .i32 0), .val (.int .u32 0), .val (.bool false), .val (.int .i64 0), .val (.int .u16 0), .val (.int .u16 0), .lst .full (some true) 1 [], .val (.int .i64 0), .val (.bool false), .val (.bool false)] ∧ allocC Tryz.prog 119 = some [.val (.int .i64 0), .val (.int .i32 0), .val (.int .i32 0), .val (.int .i32 0), .val (.int .i32 0), .val (.int .i32 0), .val (.int .i32 0), .val (.int .i32 0), .val (.int .i32 0), .val (.int .i32 0), .val (.int .i32 0), .val (.int .i32 0), .val (.int .i32 0), .val (.int .i32 0), .val (.int .i32 0), .val (.int .i32 0), .val (.int .i32 0), .val (.int .u32 0), .val (.bool false), .val (.int .i64 0), .val (.int .u16 0), .val (.int .u16 0), .lst .full (some true) 1 [], .val (.int .i64 0), .val (.bool false), .val (.bool false)] := ⟨by kernel_rfl, by kernel_rfl, by kernel_rfl, by kernel_rfl, by kernel_rfl, by kernel_rfl, by kernel_rfl, by kernel_rfl, by kernel_rfl, by kernel_rfl, by kernel_rfl, by kernel_rfl, by kernel_rfl⟩
@[go_sem] theorem ty120_fn : isFnT Tryz.prog 120 = true ∧ sizeT Tryz.prog 120 = some 1 ∧ isAggT Tryz.prog 120 = some false := ⟨by kernel_rfl, by kernel_rfl, by kernel_rfl⟩
@[go_sem] theorem ty121_fn : isFnT Tryz.prog 121 = true ∧ sizeT Tryz.prog 121 = some 1 ∧ isAggT Tryz.prog 121 = some false := ⟨by kernel_rfl, by kernel_rfl, by kernel_rfl⟩
@[go_sem] theorem ty122_fn : isFnT Tryz.prog 122 = true ∧ sizeT Tryz.prog 122 = some 1 ∧ isAggT Tryz.prog 122 = some false := ⟨by kernel_rfl, by kernel_rfl, by kernel_rfl⟩
@[go_sem] theorem ty123_size : sizeT Tryz.prog 123 = some 1 ∧ isAggT Tryz.prog 123 = some false ∧ knownT Tryz.prog 123 = true ∧ kindT Tryz.prog 123 = some .u64 ∧ isIntT Tryz.prog 123 = true ∧ bytesT Tryz.prog 123 = some 8 ∧ zeroC Tryz.prog 123 = some [.val (.int .u64 0)] ∧ allocC Tryz.prog 123 = some [.val (.int .u64 0)] := ⟨by kernel_rfl, by kernel_rfl, by kernel_rfl, by kernel_rfl, by kernel_rfl, by kernel_rfl, by kernel_rfl, by kernel_rfl⟩
@[go_sem] theorem ty124_fn : isFnT Tryz.prog 124 = true ∧ sizeT Tryz.prog 124 = some 1 ∧ isAggT Tryz.prog 124 = some false := ⟨by kernel_rfl, by kernel_rfl, by kernel_rfl⟩
@[go_sem] theorem ty125_fn : isFnT Tryz.prog 125 = true ∧ sizeT Tryz.prog 125 = some 1 ∧ isAggT Tryz.prog 125 = some false := ⟨by kernel_rfl, by kernel_rfl, by kernel_rfl⟩
@[go_sem] theorem ty126_size : sizeT Tryz.prog 126 = some 23 ∧ isAggT Tryz.prog 126 = some true ∧ knownT Tryz.prog 126 = true ∧ idxT Tryz.prog 126 = some (some 23, 125, 1) ∧ layT Tryz.prog 126 = some (.arr 1) ∧ bytesT Tryz.prog 126 = some 184 ∧ zeroC Tryz.prog 126 = some [.val (.nilFunc), .val (.nilFunc), .val (.nilFunc), .val (.nilFunc), .val (.nilFunc), .val (.nilFunc), .val (.nilFunc), .val (.nilFunc), .val (.nilFunc), .val (.nilFunc), .val (.nilFunc), .val (.nilFunc), .val (.nilFunc), .val (.nilFunc), .val (.nilFunc), .val (.nilFunc), .val (.nilFunc), .val (.nilFunc), .val (.nilFunc), .val (.nilFunc), .val (.nilFunc), .val (.nilFunc), .val (.nilFunc)] ∧ allocC Tryz.prog 126 = some [.val (.nilFunc), .val (.nilFunc), .val (.nilFunc), .val (.nilFunc), .val (.nilFunc), .val (.nilFunc), .val (.nilFunc), .val (.nilFunc), .val (.nilFunc), .val (.nilFunc), .val (.nilFunc), .val (.nilFunc), .val (.nilFunc), .val (.nilFunc), .val (.nilFunc), .val (.nilFunc), .val (.nilFunc), .val (.nilFunc), .val (.nilFunc), .val (.nilFunc), .val (.nilFunc), .val (.nilFunc), .val (.nilFunc)] := ⟨by kernel_rfl, by kernel_rfl, by kernel_rfl, by kernel_rfl, by kernel_rfl, by kernel_rfl, by kernel_rfl, by kernel_rfl⟩
@[go_sem] theorem ty127_fn : isFnT Tryz.prog 127 = true ∧ sizeT Tryz.prog 127 = some 1 ∧ isAggT Tryz.prog 127 = some false := ⟨by kernel_rfl, by kernel_rfl, by kernel_rfl⟩
@[go_sem] theorem ty128_fn : isFnT Tryz.prog 128 = true ∧ sizeT Tryz.prog 128 = some 1 ∧ isAggT Tryz.prog 128 = some false := ⟨by kernel_rfl, by kernel_rfl, by kernel_rfl⟩
@[go_sem] theorem ty129_fn : isFnT Tryz.prog 129 = true ∧ sizeT Tryz.prog 129 = some 1 ∧ isAggT Tryz.prog 129 = some false := ⟨by kernel_rfl, by kernel_rfl, by kernel_rfl⟩
@[go_sem] theorem ty130_fn : isFnT Tryz.prog 130 = true ∧ sizeT Tryz.prog 130 = some 1 ∧ isAggT Tryz.prog 130 = some false := ⟨by kernel_rfl, by kernel_rfl, by kernel_rfl⟩
@[go_sem] theorem ty131_fn : isFnT Tryz.prog 131 = true ∧ sizeT Tryz.prog 131 = some 1 ∧ isAggT Tryz.prog 131 = some false := ⟨by kernel_rfl, by kernel_rfl, by kernel_rfl⟩
@[go_sem] theorem ty132_fn : isFnT Tryz.prog 132 = true ∧ sizeT Tryz.prog 132 = some 1 ∧ isAggT Tryz.prog 132 = some false := ⟨by kernel_rfl, by kernel_rfl, by kernel_rfl⟩
@[go_sem] theorem ty133_fn : isFnT Tryz.prog 133 = true ∧ sizeT Tryz.prog 133 = some 1 ∧ isAggT Tryz.prog 133 = some false := ⟨by kernel_rfl, by kernel_rfl, by kernel_rfl⟩
@[go_sem] theorem ty134_size : sizeT Tryz.prog 134 = some 4 ∧ isAggT Tryz.prog 134 = some true ∧ knownT Tryz.prog 134 = true ∧ fldT Tryz.prog 134 0 = some (0, 17, 1) ∧ fldT Tryz.prog 134 1 = some (1, 17, 1) ∧ fldT Tryz.prog 134 2 = some (2, 17, 1) ∧ fldT Tryz.prog 134 3 = some (3, 9, 1) ∧ layT Tryz.prog 134 = some (.str [(0, 1), (1, 1), (2, 1), (3, 1)]) ∧ bytesT Tryz.prog 134 = some 40 ∧ zeroC Tryz.prog 134 = some [.val (.pointer none), .val (.pointer none), .val (.pointer none), .val (.string ⟨#[]⟩)] ∧ allocC Tryz.prog 134 = some [.val (.pointer none), .val (.pointer none), .val (.pointer none), .val (.string ⟨#[]⟩)] := ⟨by kernel_rfl, by kernel_rfl, by kernel_rfl, by kernel_rfl, by kernel_rfl, by kernel_rfl, by kernel_rfl, by kernel_rfl, by kernel_rfl, by kernel_rfl, by kernel_rfl⟩
@[go_sem] theorem ty136_size : sizeT Tryz.prog 136 = some 0 ∧ isAggT Tryz.prog 136 = some true ∧ knownT Tryz.prog 136 = true ∧ idxT Tryz.prog 136 = some (some 0, 16, 1) ∧ layT Tryz.prog 136 = some (.arr 1) ∧ bytesT Tryz.prog 136 = some 0 ∧ zeroC Tryz.prog 136 = some [] ∧ allocC Tryz.prog 136 = some [] := ⟨by kernel_rfl, by kernel_rfl, by kernel_rfl, by kernel_rfl, by kernel_rfl, by kernel_rfl, by kernel_rfl, by kernel_rfl⟩
@[go_sem] theorem ty137_size : sizeT Tryz.prog 137 = some 0 ∧ isAggT Tryz.prog 137 = some true ∧ knownT Tryz.prog 137 = true ∧ fldT Tryz.prog 137 0 = some (0, 136, 0) ∧ layT Tryz.prog 137 = some (.str [(0, 0)]) ∧ bytesT Tryz.prog 137 = some 0 ∧ zeroC Tryz.prog 137 = some [] ∧ allocC Tryz.prog 137 = some [] := ⟨by kernel_rfl, by kernel_rfl, by kernel_rfl, by kernel_rfl, by kernel_rfl, by kernel_rfl, by kernel_rfl, by kernel_rfl⟩
@[go_sem] theorem ty139_fn : isFnT Tryz.prog 139 = true ∧ sizeT Tryz.prog 139 = some 1 ∧ isAggT Tryz.prog 139 = some false := ⟨by kernel_rfl, by kernel_rfl, by kernel_rfl⟩
@[go_sem] theorem ty142_fn : isFnT Tryz.prog 142 = true ∧ sizeT Tryz.prog 142 = some 1 ∧ isAggT Tryz.prog 142 = some false := ⟨by kernel_rfl, by kernel_rfl, by kernel_rfl⟩
@[go_sem] theorem ty143_size : sizeT Tryz.prog 143 = some 1 ∧ isAggT Tryz.prog 143 = some false ∧ knownT Tryz.prog 143 = true ∧ isPtrT Tryz.prog 143 = true ∧ bytesT Tryz.prog 143 = some 8 ∧ zeroC Tryz.prog 143 = some [.val (.pointer none)] ∧ allocC Tryz.prog 143 = some [.val (.pointer none)] := ⟨by kernel_rfl, by kernel_rfl, by kernel_rfl, by kernel_rfl, by kernel_rfl, by kernel_rfl, by kernel_rfl⟩
@[go_sem] theorem ty146_size : sizeT Tryz.prog 146 = some 11 ∧ isAggT Tryz.prog 146 = some true ∧ knownT Tryz.prog 146 = true ∧ fldT Tryz.prog 146 0 = some (0, 12, 1) ∧ fldT Tryz.prog 146 1 = some (1, 12, 1) ∧ fldT Tryz.prog 146 2 = some (2, 49, 1) ∧ fldT Tryz.prog 146 3 = some (3, 140, 1) ∧ fldT Tryz.prog 146 4 = some (4, 5, 1) ∧ fldT Tryz.prog 146 5 = some (5, 5, 1) ∧ fldT Tryz.prog 146 6 = some (6, 141, 1) ∧ fldT Tryz.prog 146 7 = some (7, 142, 1) ∧ fldT Tryz.prog 146 8 = some (8, 143, 1) ∧ fldT Tryz.prog 146 9 = some (9, 144, 1) ∧ fldT Tryz.prog 146 10 = some (10, 145, 1) ∧ layT Tryz.prog 146 = some (.str [(0, 1), (1, 1), (2, 1), (3, 1), (4, 1), (5, 1), (6, 1), (7, 1), (8, 1), (9, 1), (10, 1)]) ∧ bytesT Tryz.prog 146 = some 48 ∧ zeroC Tryz.prog 146 = some [.val (.int .u64 0), .val (.int .u64 0), .val (.int .u32 0), .val (.int .u8 0), .val (.int .u8 0), .val (.int .u8 0), .val (.int .u8 0), .val (.nilFunc), .val (.pointer none), .val (.int .i32 0), .val (.int .i32 0)] ∧ allocC Tryz.prog 146 = some [.val (.int .u64 0), .val (.int .u64 0), .val (.int .u32 0), .val (.int .u8 0), .val (.int .u8 0), .val (.int .u8 0), .val (.int .u8 0), .val (.nilFunc), .val (.pointer none), .val (.int .i32 0), .val (.int .i32 0)] := ⟨by kernel_rfl, by kernel_rfl, by kernel_rfl, by kernel_rfl, by kernel_rfl, by kernel_rfl, by kernel_rfl, by kernel_rfl, by kernel_rfl, by kernel_rfl, by kernel_rfl, by kernel_rfl, by kernel_rfl, by kernel_rfl, by kernel_rfl, by kernel_rfl, by kernel_rfl, by kernel_rfl⟩
@[go_sem] theorem ty148_size : sizeT Tryz.prog 148 = some 1 ∧ isAggT Tryz.prog 148 = some false ∧ knownT Tryz.prog 148 = true ∧ bytesT Tryz.prog 148 = some 8 ∧ zeroC Tryz.prog 148 = some [.val (.pointer none)] ∧ allocC Tryz.prog 148 = some [.val (.pointer none)] := ⟨by kernel_rfl, by kernel_rfl, by kernel_rfl, by kernel_rfl, by kernel_rfl, by kernel_rfl⟩
end
section
def xd (x : Int × Int) : List D := [.val (.int .i64 x.1), .val (.int .i64 x.2)]
def ins (l : List (Int × Int)) : List D := (l.map xd).flatten
def gi (l : List (Int × Int)) (i : Nat) : Int × Int := l.getD i (0, 0)
@[go_sem] theorem xd_len {x : Int × Int} : (xd x).length = 2 := nr rfl
@[go_sem] theorem ins_nil : ins [] = [] := nr rfl
theorem ins_cons {x : Int × Int} {l : List (Int × Int)} : ins (x :: l) = xd x ++ ins l := by simp [ins]
@[go_sem] theorem ins_len {l : List (Int × Int)} : (ins l).length = l.length * 2 := by
  induction l with
  | nil => rfl
  | cons s l ih => rw [ins_cons, List.length_append, xd_len, ih, List.length_cons]; omega
theorem ins_drop (l : List (Int × Int)) (k : Nat) : (ins l).drop (k * 2) = ins (l.drop k) := by
  induction l generalizing k with
  | nil => simp [ins]
  | cons s l ih =>
    cases k with
    | zero => simp [ins]
    | succ k => rw [ins_cons, List.drop_succ_cons, List.drop_append, xd_len, List.drop_eq_nil_of_le (by rw [xd_len]; omega), show (k + 1) * 2 - 2 = k * 2 by omega, ih]; rfl
theorem ins_at {l : List (Int × Int)} {k : Nat} (h : k < l.length) : (ins l).drop (k * 2) = xd (gi l k) ++ ins (l.drop (k + 1)) := by
  rw [ins_drop, List.drop_eq_getElem_cons h, ins_cons]
  simp [gi, List.getD, h]
section
variable {P : Program} {V' : V → Prop} {K : C → Prop} {l : List (Int × Int)} {r : List D} {x y : Value} {o : Own} {nl : Option Bool} {k : IntKind} {a b : Int} {t : TypeId} {i j : Nat}
@[go_sem ↓ 1200] theorem e_IAi (h0 : 0 ≤ a) (h1 : a < l.length) : aIA (some (none, t, 2)) (.cell (.lst o nl 2 (ins l))) a V' = V' (.cell (.mem (.val (.int .i64 (gi l a.toNat).1) :: .val (.int .i64 (gi l a.toNat).2) :: ins (l.drop (a.toNat + 1))))) := by
  have h2 : a.toNat < l.length := by omega
  have e : (.val (.int .i64 (gi l a.toNat).1) :: .val (.int .i64 (gi l a.toNat).2) :: ins (l.drop (a.toNat + 1)) : List D) = xd (gi l a.toNat) ++ ins (l.drop (a.toNat + 1)) := rfl
  rw [e, ← ins_at h2]
  simp only [aIA, ins_len, h0, true_and]
  have : a * ((2 : Nat) : Int) < ((l.length * 2 : Nat) : Int) := by omega
  simp only [this, true_and]
@[go_sem ↓ 1200] theorem e_leni : aLen P t (.cell (.lst o nl 2 (ins l))) V' = (isSlcT P t = true ∧ V' (.int .i64 l.length)) := by
  simp only [aLen, ins_len, Nat.mul_div_cancel _ (show 0 < 2 by omega)]
@[go_sem ↓ 1200] theorem p_xd : aPt (some true) 2 ((D.val x :: D.val y :: r).map D.toC) 0 V' = V' (.w (.agg [.val x, .val y])) := by
  simp [aPt, D.toC]
@[go_sem] theorem t_xd {x y : C} {r : List C} : List.take 2 (List.drop 0 (x :: y :: r)) = [x, y] := nr rfl
end
end
section
def aFld (P : Program) (q : Option (Nat × TypeId × Nat)) (cs : List C) (K : V → Prop) : Prop :=
  match q with
  | some (off, ft, sz) => aPart P ft sz cs off K
  | none => False
@[go_sem ↓] theorem e_fldA {P : Program} {t : TypeId} {cs : List C} {i : Nat} {K : V → Prop} : aField P t (.w (.agg cs)) i K = aFld P (fldT P t i) cs K := by
  unfold aField aFld
  refine propext ⟨?_, ?_⟩
  · rintro ⟨off, ft, sz, h, hk⟩
    rw [h]; exact hk
  intro h
  split at h
  · rename_i off ft sz hq
    exact ⟨off, ft, sz, hq, h⟩
  cases h
@[congr] theorem cg_aFld {P : Program} {q q' : Option (Nat × TypeId × Nat)} {cs : List C} {K : V → Prop} (h0 : q = q') : aFld P q cs K = aFld P q' cs K := by subst h0; rfl
@[go_sem ↓] theorem e_fldS {P : Program} {off ft sz : Nat} {cs : List C} {K : V → Prop} : aFld P (some (off, ft, sz)) cs K = aPart P ft sz cs off K := nr rfl
theorem c_b {P : Program} {Q : AExit → St → Prop} {s : St} {b : Bool} {x y : Code} (h1 : b = true → awp P x Q s) (h2 : b = false → awp P y Q s) : aCondC P (V.bool b) x y Q s := by
  cases b
  · exact ⟨fun h => (by cases h), fun _ => h2 rfl⟩
  exact ⟨fun _ => h1 rfl, fun h => (by cases h)⟩
theorem spl_appR {α : Type} {a b vs : List α} {o : Nat} (h : o + vs.length ≤ b.length) : spl (a ++ b) (a.length + o) vs = a ++ spl b o vs := by
  rw [spl_eq (by rw [List.length_append]; omega), spl_eq h, List.take_append, List.take_of_length_le (by omega), Nat.add_sub_cancel_left, show a.length + o + vs.length = a.length + (o + vs.length) by omega, List.drop_append, List.drop_eq_nil_of_le (by omega), Nat.add_sub_cancel_left]
  simp
theorem spl_appL {α : Type} {a b vs : List α} {o : Nat} (h : o + vs.length ≤ a.length) : spl (a ++ b) o vs = spl a o vs ++ b := by
  rw [spl_eq (by rw [List.length_append]; omega), spl_eq h, List.take_append_of_le_length (by omega), List.drop_append_of_le_length (by omega)]
  simp
theorem spl_all {x y : List C} (h : x.length = y.length) : spl x 0 y = y := by
  rw [spl_eq (by omega), List.take_zero, List.nil_append, List.drop_eq_nil_of_le (by omega), List.append_nil]
theorem stow_big {s : St} {i : Id} {off : Nat} {cs vs : List C} (h : 2 ≤ vs.length) : St.stow s i off cs vs = ⟨s.slots, hset s.heap i (spl cs off (vs.map (C.clean (fun _ => false) fun _ => true)))⟩ := by
  unfold St.stow
  split
  · simp at h
  · simp at h
  rfl
/-! ### a state's cells, one by one -/
def Sta.wFrame (s : Sta) (x : Int) : Sta := ⟨x, s.cells, s.seed, s.over, s.win, s.len⟩
def Sta.wCells (s : Sta) (k : Nat) (x : Int) : Sta := ⟨s.frame, s.cells.set k x, s.seed, s.over, s.win, by rw [List.length_set, s.len]⟩
def Sta.wSeed (s : Sta) (x : UInt32) : Sta := ⟨s.frame, s.cells, x, s.over, s.win, s.len⟩
def Sta.wOver (s : Sta) (x : Bool) : Sta := ⟨s.frame, s.cells, s.seed, x, s.win, s.len⟩
def Sta.wWin (s : Sta) (x : Int) : Sta := ⟨s.frame, s.cells, s.seed, s.over, x, s.len⟩
theorem spl1 {l : List C} {k : Nat} {x : C} : spl l k [x] = l.set k x := rfl
theorem sdC_len {s : Sta} : ((sd s).map D.toC).length = 20 := by rw [List.length_map, sd_len]
section
variable {s : Sta}
theorem spl_frame {x : Int} : spl ((sd s).map D.toC) 0 [.val (.int .i64 x)] = (sd (s.wFrame x)).map D.toC := rfl
theorem spl_cells {k : Nat} {x : Int} (h : k < 16) : spl ((sd s).map D.toC) (k + 1) [.val (.int .i32 x)] = (sd (s.wCells k x)).map D.toC := by
  rw [spl1, show (C.val (.int .i32 x)) = D.toC (.val (.int .i32 x)) from rfl, ← List.map_set]
  congr 1
  show List.set (_ :: (c32 s.cells ++ _)) (k + 1) _ = _
  rw [List.set_cons_succ, List.set_append, if_pos (by rw [c32_len, s.len]; omega)]
  unfold sd Sta.wCells c32
  rw [List.map_set]
theorem spl_tail {k : Nat} {x : D} (h : 17 ≤ k) : spl ((sd s).map D.toC) k [x.toC] = ((.val (.int .i64 s.frame) :: (c32 s.cells ++ ([.val (.int .u32 (U32 s.seed)), .val (.bool s.over), .val (.int .i64 s.win)] : List D).set (k - 17) x))).map D.toC := by
  rw [spl1, ← List.map_set]
  congr 1
  obtain ⟨k, rfl⟩ := Nat.exists_eq_add_of_le h
  show List.set (_ :: (c32 s.cells ++ _)) (17 + k) _ = _
  rw [show 17 + k = (16 + k) + 1 by omega, List.set_cons_succ, List.set_append, if_neg (by rw [c32_len, s.len]; omega), c32_len, s.len]
  congr 3
theorem spl_seed {x : UInt32} : spl ((sd s).map D.toC) 17 [.val (.int .u32 (U32 x))] = (sd (s.wSeed x)).map D.toC := spl_tail (x := .val (.int .u32 (U32 x))) (Nat.le_refl _)
theorem spl_over {x : Bool} : spl ((sd s).map D.toC) 18 [.val (.bool x)] = (sd (s.wOver x)).map D.toC := spl_tail (x := .val (.bool x)) (by omega)
theorem spl_win {x : Int} : spl ((sd s).map D.toC) 19 [.val (.int .i64 x)] = (sd (s.wWin x)).map D.toC := spl_tail (x := .val (.int .i64 x)) (by omega)
theorem get_frame : ((sd s).map D.toC)[0]? = some (.val (.int .i64 s.frame)) := rfl
theorem get_cells {k : Nat} (h : k < 16) : ((sd s).map D.toC)[k + 1]? = some (.val (.int .i32 (s.cells.getD k 0))) := by
  rw [List.getElem?_map]
  show Option.map D.toC ((_ :: (c32 s.cells ++ _) : List D)[k + 1]?) = _
  rw [List.getElem?_cons_succ, List.getElem?_append_left (by rw [c32_len, s.len]; omega)]
  have : k < s.cells.length := by rw [s.len]; omega
  simp [c32, this, D.toC]
theorem get_seed : ((sd s).map D.toC)[17]? = some (.val (.int .u32 (U32 s.seed))) := by rw [List.getElem?_map, sd17]; rfl
theorem get_over : ((sd s).map D.toC)[18]? = some (.val (.bool s.over)) := by rw [List.getElem?_map, sd18]; rfl
theorem get_win : ((sd s).map D.toC)[19]? = some (.val (.int .i64 s.win)) := by rw [List.getElem?_map, sd19]; rfl
/-! ### what a state holds -/
@[go_sem] theorem wf_frame {x : Int} : (s.wFrame x).frame = x := nr rfl
@[go_sem] theorem wf_cells {x : Int} : (s.wFrame x).cells = s.cells := nr rfl
@[go_sem] theorem wf_seed {x : Int} : (s.wFrame x).seed = s.seed := nr rfl
@[go_sem] theorem wf_over {x : Int} : (s.wFrame x).over = s.over := nr rfl
@[go_sem] theorem wf_win {x : Int} : (s.wFrame x).win = s.win := nr rfl
@[go_sem] theorem wc_frame {k : Nat} {x : Int} : (s.wCells k x).frame = s.frame := nr rfl
@[go_sem] theorem wc_cells {k : Nat} {x : Int} : (s.wCells k x).cells = s.cells.set k x := nr rfl
@[go_sem] theorem wc_seed {k : Nat} {x : Int} : (s.wCells k x).seed = s.seed := nr rfl
@[go_sem] theorem wc_over {k : Nat} {x : Int} : (s.wCells k x).over = s.over := nr rfl
@[go_sem] theorem wc_win {k : Nat} {x : Int} : (s.wCells k x).win = s.win := nr rfl
@[go_sem] theorem ws_frame {x : UInt32} : (s.wSeed x).frame = s.frame := nr rfl
@[go_sem] theorem ws_cells {x : UInt32} : (s.wSeed x).cells = s.cells := nr rfl
@[go_sem] theorem ws_seed {x : UInt32} : (s.wSeed x).seed = x := nr rfl
@[go_sem] theorem ws_over {x : UInt32} : (s.wSeed x).over = s.over := nr rfl
@[go_sem] theorem ws_win {x : UInt32} : (s.wSeed x).win = s.win := nr rfl
@[go_sem] theorem wo_frame {x : Bool} : (s.wOver x).frame = s.frame := nr rfl
@[go_sem] theorem wo_cells {x : Bool} : (s.wOver x).cells = s.cells := nr rfl
@[go_sem] theorem wo_seed {x : Bool} : (s.wOver x).seed = s.seed := nr rfl
@[go_sem] theorem wo_over {x : Bool} : (s.wOver x).over = x := nr rfl
@[go_sem] theorem wo_win {x : Bool} : (s.wOver x).win = s.win := nr rfl
@[go_sem] theorem ww_frame {x : Int} : (s.wWin x).frame = s.frame := nr rfl
@[go_sem] theorem ww_cells {x : Int} : (s.wWin x).cells = s.cells := nr rfl
@[go_sem] theorem ww_seed {x : Int} : (s.wWin x).seed = s.seed := nr rfl
@[go_sem] theorem ww_over {x : Int} : (s.wWin x).over = s.over := nr rfl
@[go_sem] theorem ww_win {x : Int} : (s.wWin x).win = x := nr rfl
end
@[go_sem 1200] theorem t_lit3 {x0 x1 x2 : C} : List.take 3 (List.drop 0 [x0, x1, x2]) = [x0, x1, x2] := nr rfl
@[go_sem 1200] theorem t_lit4 {x0 x1 x2 x3 : C} : List.take 4 (List.drop 0 [x0, x1, x2, x3]) = [x0, x1, x2, x3] := nr rfl
@[go_sem 1200] theorem t_lit5 {x0 x1 x2 x3 x4 : C} : List.take 5 (List.drop 0 [x0, x1, x2, x3, x4]) = [x0, x1, x2, x3, x4] := nr rfl
@[go_sem 1200] theorem t_lit6 {x0 x1 x2 x3 x4 x5 : C} : List.take 6 (List.drop 0 [x0, x1, x2, x3, x4, x5]) = [x0, x1, x2, x3, x4, x5] := nr rfl
@[go_sem 1200] theorem t_lit8 {x0 x1 x2 x3 x4 x5 x6 x7 : C} : List.take 8 (List.drop 0 [x0, x1, x2, x3, x4, x5, x6, x7]) = [x0, x1, x2, x3, x4, x5, x6, x7] := nr rfl
@[go_sem 1200] theorem t_lit11 {x0 x1 x2 x3 x4 x5 x6 x7 x8 x9 x10 : C} : List.take 11 (List.drop 0 [x0, x1, x2, x3, x4, x5, x6, x7, x8, x9, x10]) = [x0, x1, x2, x3, x4, x5, x6, x7, x8, x9, x10] := nr rfl
end
section
set_option maxRecDepth 20000
theorem leCs_app {a b c d : List C} (h1 : leCs a b) (h2 : leCs c d) : leCs (a ++ c) (b ++ d) := by
  induction a generalizing b with
  | nil => cases b with
    | nil => exact h2
    | cons y b => cases h1
  | cons x a ih => cases b with
    | nil => cases h1
    | cons y b => exact ⟨h1.1, ih h1.2⟩
def ctC (rc : C) (cap : Int) (fuel : Int) (p0 : Int) (p1 : Int) (seed : UInt32) (l0 : Int) (l1 : Int) (c0 : Int) (c1 : Int) (over : Bool) (winner : Int) (why : Int) (opn : Bool) (r0 : C) (r1 : C) (rp : C) (s : Sta) (re : C) : List C := [rc, .val (.int .i64 cap), .val (.int .i64 fuel), .val (.int .i64 p0), .val (.int .i64 p1), .val (.int .u32 (U32 seed)), .val (.int .i64 l0), .val (.int .i64 l1), .val (.int .i64 c0), .val (.int .i64 c1), .val (.bool over), .val (.int .i64 winner), .val (.int .i64 why), .val (.bool opn), r0, r1, rp] ++ ((sd s).map D.toC ++ [re])
section
variable {rc : C} {cap : Int} {fuel : Int} {p0 : Int} {p1 : Int} {seed : UInt32} {l0 : Int} {l1 : Int} {c0 : Int} {c1 : Int} {over : Bool} {winner : Int} {why : Int} {opn : Bool} {r0 : C} {r1 : C} {rp : C} {s : Sta} {re : C} {V' : V → Prop} {K : C → Prop} {ks : List Id} {m : Nat}
@[go_sem] theorem ct_l : (ctC rc cap fuel p0 p1 seed l0 l1 c0 c1 over winner why opn r0 r1 rp s re).length = 38 := by
  unfold ctC
  simp only [List.length_append, List.length_map, sd_len, List.length_cons, List.length_nil]
@[go_sem] theorem ct_k {bi : Id → Bool} {bt : Tag → Bool} : (ctC rc cap fuel p0 p1 seed l0 l1 c0 c1 over winner why opn r0 r1 rp s re).map (C.clean bi bt) = (ctC (C.clean bi bt rc) cap fuel p0 p1 seed l0 l1 c0 c1 over winner why opn (C.clean bi bt r0) (C.clean bi bt r1) (C.clean bi bt rp) s (C.clean bi bt re)) := by
  unfold ctC
  simp only [List.map_append, List.map_cons, List.map_nil, go_sem]
@[go_sem] theorem ct_r  : (ctC rc cap fuel p0 p1 seed l0 l1 c0 c1 over winner why opn r0 r1 rp s re).map (C.ren ks m) = (ctC (C.ren ks m rc) cap fuel p0 p1 seed l0 l1 c0 c1 over winner why opn (C.ren ks m r0) (C.ren ks m r1) (C.ren ks m rp) s (C.ren ks m re)) := by
  unfold ctC
  simp only [List.map_append, List.map_cons, List.map_nil, go_sem]
@[go_sem] theorem ct_t {ta tb : Tag} : (ctC rc cap fuel p0 p1 seed l0 l1 c0 c1 over winner why opn r0 r1 rp s re).map (C.retag ta tb) = (ctC (C.retag ta tb rc) cap fuel p0 p1 seed l0 l1 c0 c1 over winner why opn (C.retag ta tb r0) (C.retag ta tb r1) (C.retag ta tb rp) s (C.retag ta tb re)) := by
  unfold ctC
  simp only [List.map_append, List.map_cons, List.map_nil, go_sem]
@[go_sem] theorem ct_n : (ctC rc cap fuel p0 p1 seed l0 l1 c0 c1 over winner why opn r0 r1 rp s re).all known = (known rc && known r0 && known r1 && known rp && known re) := by
  unfold ctC
  simp only [List.all_append, List.all_cons, List.all_nil, go_sem, Bool.true_and, Bool.and_true, Bool.and_assoc]
@[go_sem ↓ 1300] theorem ct_m_rc : (∃ c, (ctC rc cap fuel p0 p1 seed l0 l1 c0 c1 over winner why opn r0 r1 rp s re)[0]? = some c ∧ K c) = K (rc) := ex_some (by
  unfold ctC
  first | rfl | (rw [List.getElem?_append_left (by simp)]; rfl))
@[go_sem ↓ 1300] theorem ct_m_cap : (∃ c, (ctC rc cap fuel p0 p1 seed l0 l1 c0 c1 over winner why opn r0 r1 rp s re)[1]? = some c ∧ K c) = K (.val (.int .i64 cap)) := ex_some (by
  unfold ctC
  first | rfl | (rw [List.getElem?_append_left (by simp)]; rfl))
@[go_sem ↓ 1300] theorem ct_m_fuel : (∃ c, (ctC rc cap fuel p0 p1 seed l0 l1 c0 c1 over winner why opn r0 r1 rp s re)[2]? = some c ∧ K c) = K (.val (.int .i64 fuel)) := ex_some (by
  unfold ctC
  first | rfl | (rw [List.getElem?_append_left (by simp)]; rfl))
@[go_sem ↓ 1300] theorem ct_m_p0 : (∃ c, (ctC rc cap fuel p0 p1 seed l0 l1 c0 c1 over winner why opn r0 r1 rp s re)[3]? = some c ∧ K c) = K (.val (.int .i64 p0)) := ex_some (by
  unfold ctC
  first | rfl | (rw [List.getElem?_append_left (by simp)]; rfl))
@[go_sem ↓ 1300] theorem ct_m_p1 : (∃ c, (ctC rc cap fuel p0 p1 seed l0 l1 c0 c1 over winner why opn r0 r1 rp s re)[4]? = some c ∧ K c) = K (.val (.int .i64 p1)) := ex_some (by
  unfold ctC
  first | rfl | (rw [List.getElem?_append_left (by simp)]; rfl))
@[go_sem ↓ 1300] theorem ct_m_seed : (∃ c, (ctC rc cap fuel p0 p1 seed l0 l1 c0 c1 over winner why opn r0 r1 rp s re)[5]? = some c ∧ K c) = K (.val (.int .u32 (U32 seed))) := ex_some (by
  unfold ctC
  first | rfl | (rw [List.getElem?_append_left (by simp)]; rfl))
@[go_sem ↓ 1300] theorem ct_m_l0 : (∃ c, (ctC rc cap fuel p0 p1 seed l0 l1 c0 c1 over winner why opn r0 r1 rp s re)[6]? = some c ∧ K c) = K (.val (.int .i64 l0)) := ex_some (by
  unfold ctC
  first | rfl | (rw [List.getElem?_append_left (by simp)]; rfl))
@[go_sem ↓ 1300] theorem ct_m_l1 : (∃ c, (ctC rc cap fuel p0 p1 seed l0 l1 c0 c1 over winner why opn r0 r1 rp s re)[7]? = some c ∧ K c) = K (.val (.int .i64 l1)) := ex_some (by
  unfold ctC
  first | rfl | (rw [List.getElem?_append_left (by simp)]; rfl))
@[go_sem ↓ 1300] theorem ct_m_c0 : (∃ c, (ctC rc cap fuel p0 p1 seed l0 l1 c0 c1 over winner why opn r0 r1 rp s re)[8]? = some c ∧ K c) = K (.val (.int .i64 c0)) := ex_some (by
  unfold ctC
  first | rfl | (rw [List.getElem?_append_left (by simp)]; rfl))
@[go_sem ↓ 1300] theorem ct_m_c1 : (∃ c, (ctC rc cap fuel p0 p1 seed l0 l1 c0 c1 over winner why opn r0 r1 rp s re)[9]? = some c ∧ K c) = K (.val (.int .i64 c1)) := ex_some (by
  unfold ctC
  first | rfl | (rw [List.getElem?_append_left (by simp)]; rfl))
@[go_sem ↓ 1300] theorem ct_m_over : (∃ c, (ctC rc cap fuel p0 p1 seed l0 l1 c0 c1 over winner why opn r0 r1 rp s re)[10]? = some c ∧ K c) = K (.val (.bool over)) := ex_some (by
  unfold ctC
  first | rfl | (rw [List.getElem?_append_left (by simp)]; rfl))
@[go_sem ↓ 1300] theorem ct_m_winner : (∃ c, (ctC rc cap fuel p0 p1 seed l0 l1 c0 c1 over winner why opn r0 r1 rp s re)[11]? = some c ∧ K c) = K (.val (.int .i64 winner)) := ex_some (by
  unfold ctC
  first | rfl | (rw [List.getElem?_append_left (by simp)]; rfl))
@[go_sem ↓ 1300] theorem ct_m_why : (∃ c, (ctC rc cap fuel p0 p1 seed l0 l1 c0 c1 over winner why opn r0 r1 rp s re)[12]? = some c ∧ K c) = K (.val (.int .i64 why)) := ex_some (by
  unfold ctC
  first | rfl | (rw [List.getElem?_append_left (by simp)]; rfl))
@[go_sem ↓ 1300] theorem ct_m_opn : (∃ c, (ctC rc cap fuel p0 p1 seed l0 l1 c0 c1 over winner why opn r0 r1 rp s re)[13]? = some c ∧ K c) = K (.val (.bool opn)) := ex_some (by
  unfold ctC
  first | rfl | (rw [List.getElem?_append_left (by simp)]; rfl))
@[go_sem ↓ 1300] theorem ct_m_r0 : (∃ c, (ctC rc cap fuel p0 p1 seed l0 l1 c0 c1 over winner why opn r0 r1 rp s re)[14]? = some c ∧ K c) = K (r0) := ex_some (by
  unfold ctC
  first | rfl | (rw [List.getElem?_append_left (by simp)]; rfl))
@[go_sem ↓ 1300] theorem ct_m_r1 : (∃ c, (ctC rc cap fuel p0 p1 seed l0 l1 c0 c1 over winner why opn r0 r1 rp s re)[15]? = some c ∧ K c) = K (r1) := ex_some (by
  unfold ctC
  first | rfl | (rw [List.getElem?_append_left (by simp)]; rfl))
@[go_sem ↓ 1300] theorem ct_m_rp : (∃ c, (ctC rc cap fuel p0 p1 seed l0 l1 c0 c1 over winner why opn r0 r1 rp s re)[16]? = some c ∧ K c) = K (rp) := ex_some (by
  unfold ctC
  first | rfl | (rw [List.getElem?_append_left (by simp)]; rfl))
theorem ct_gs_frame : (ctC rc cap fuel p0 p1 seed l0 l1 c0 c1 over winner why opn r0 r1 rp s re)[17]? = some (.val (.int .i64 s.frame)) := by
  unfold ctC
  rw [List.getElem?_append_right (by first | simp only [List.length_cons, List.length_nil, List.length_map, sd_len]; omega | simp [sd_len])]
  simp only [List.length_cons, List.length_nil, List.length_map, sd_len, Nat.reduceAdd, Nat.reduceSub]
  first | exact get_frame | (rw [List.getElem?_append_left (by rw [sdC_len]; omega)]; exact get_frame)
@[go_sem ↓ 1300] theorem ct_ms_frame : (∃ c, (ctC rc cap fuel p0 p1 seed l0 l1 c0 c1 over winner why opn r0 r1 rp s re)[17]? = some c ∧ K c) = K (.val (.int .i64 s.frame)) := ex_some ct_gs_frame
theorem ct_gs_seed : (ctC rc cap fuel p0 p1 seed l0 l1 c0 c1 over winner why opn r0 r1 rp s re)[34]? = some (.val (.int .u32 (U32 s.seed))) := by
  unfold ctC
  rw [List.getElem?_append_right (by first | simp only [List.length_cons, List.length_nil, List.length_map, sd_len]; omega | simp [sd_len])]
  simp only [List.length_cons, List.length_nil, List.length_map, sd_len, Nat.reduceAdd, Nat.reduceSub]
  first | exact get_seed | (rw [List.getElem?_append_left (by rw [sdC_len]; omega)]; exact get_seed)
@[go_sem ↓ 1300] theorem ct_ms_seed : (∃ c, (ctC rc cap fuel p0 p1 seed l0 l1 c0 c1 over winner why opn r0 r1 rp s re)[34]? = some c ∧ K c) = K (.val (.int .u32 (U32 s.seed))) := ex_some ct_gs_seed
theorem ct_gs_over : (ctC rc cap fuel p0 p1 seed l0 l1 c0 c1 over winner why opn r0 r1 rp s re)[35]? = some (.val (.bool s.over)) := by
  unfold ctC
  rw [List.getElem?_append_right (by first | simp only [List.length_cons, List.length_nil, List.length_map, sd_len]; omega | simp [sd_len])]
  simp only [List.length_cons, List.length_nil, List.length_map, sd_len, Nat.reduceAdd, Nat.reduceSub]
  first | exact get_over | (rw [List.getElem?_append_left (by rw [sdC_len]; omega)]; exact get_over)
@[go_sem ↓ 1300] theorem ct_ms_over : (∃ c, (ctC rc cap fuel p0 p1 seed l0 l1 c0 c1 over winner why opn r0 r1 rp s re)[35]? = some c ∧ K c) = K (.val (.bool s.over)) := ex_some ct_gs_over
theorem ct_gs_win : (ctC rc cap fuel p0 p1 seed l0 l1 c0 c1 over winner why opn r0 r1 rp s re)[36]? = some (.val (.int .i64 s.win)) := by
  unfold ctC
  rw [List.getElem?_append_right (by first | simp only [List.length_cons, List.length_nil, List.length_map, sd_len]; omega | simp [sd_len])]
  simp only [List.length_cons, List.length_nil, List.length_map, sd_len, Nat.reduceAdd, Nat.reduceSub]
  first | exact get_win | (rw [List.getElem?_append_left (by rw [sdC_len]; omega)]; exact get_win)
@[go_sem ↓ 1300] theorem ct_ms_win : (∃ c, (ctC rc cap fuel p0 p1 seed l0 l1 c0 c1 over winner why opn r0 r1 rp s re)[36]? = some c ∧ K c) = K (.val (.int .i64 s.win)) := ex_some ct_gs_win
@[go_sem 1300] theorem ct_as : ((ctC rc cap fuel p0 p1 seed l0 l1 c0 c1 over winner why opn r0 r1 rp s re).drop 17).take 20 = (sd s).map D.toC := by
  unfold ctC
  show List.take 20 ((sd s).map D.toC ++ _) = _
  rw [List.take_left' sdC_len]
@[go_sem ↓ 1300] theorem ct_ps : aPt (some true) 20 (ctC rc cap fuel p0 p1 seed l0 l1 c0 c1 over winner why opn r0 r1 rp s re) 17 V' = V' (.w (.agg ((sd s).map D.toC))) := by
  simp only [aPt, ct_l, ct_as, Nat.reduceAdd, Nat.reduceLeDiff, true_and]
@[go_sem ↓ 1300] theorem ct_m_re : (∃ c, (ctC rc cap fuel p0 p1 seed l0 l1 c0 c1 over winner why opn r0 r1 rp s re)[37]? = some c ∧ K c) = K (re) := ex_some (by
  unfold ctC
  rw [List.getElem?_append_right (by first | simp only [List.length_cons, List.length_nil, List.length_map, sd_len]; omega | simp [sd_len])]
  simp only [List.length_cons, List.length_nil, List.length_map, sd_len, Nat.reduceAdd, Nat.reduceSub]
  rw [List.getElem?_append_right (by first | simp only [List.length_cons, List.length_nil, List.length_map, sd_len]; omega | simp [sd_len])]
  simp only [List.length_cons, List.length_nil, List.length_map, sd_len, Nat.reduceAdd, Nat.reduceSub]
  first | rfl | (rw [List.getElem?_append_left (by simp)]; rfl))
@[go_sem 1300] theorem ct_d0_3 : ((ctC rc cap fuel p0 p1 seed l0 l1 c0 c1 over winner why opn r0 r1 rp s re).drop 0).take 3 = [rc, .val (.int .i64 cap), .val (.int .i64 fuel)] := by
    first
      | rfl
      | (unfold ctC
         rw [show (0 : Nat) = ((sd s).map D.toC).length + 0 from by rw [sdC_len], List.drop_append, List.drop_eq_nil_of_le (by omega), Nat.add_sub_cancel_left]
         rfl)
@[go_sem ↓ 1300] theorem ct_p0_3 : aPt (some true) 3 (ctC rc cap fuel p0 p1 seed l0 l1 c0 c1 over winner why opn r0 r1 rp s re) 0 V' = V' (.w (.agg [rc, .val (.int .i64 cap), .val (.int .i64 fuel)])) := by
  simp only [aPt, ct_l, ct_d0_3, Nat.reduceAdd, Nat.reduceLeDiff, true_and]
@[go_sem 1300] theorem ct_d3_11 : ((ctC rc cap fuel p0 p1 seed l0 l1 c0 c1 over winner why opn r0 r1 rp s re).drop 3).take 11 = [.val (.int .i64 p0), .val (.int .i64 p1), .val (.int .u32 (U32 seed)), .val (.int .i64 l0), .val (.int .i64 l1), .val (.int .i64 c0), .val (.int .i64 c1), .val (.bool over), .val (.int .i64 winner), .val (.int .i64 why), .val (.bool opn)] := by
    first
      | rfl
      | (unfold ctC
         rw [show (3 : Nat) = ((sd s).map D.toC).length + 0 from by rw [sdC_len], List.drop_append, List.drop_eq_nil_of_le (by omega), Nat.add_sub_cancel_left]
         rfl)
@[go_sem ↓ 1300] theorem ct_p3_11 : aPt (some true) 11 (ctC rc cap fuel p0 p1 seed l0 l1 c0 c1 over winner why opn r0 r1 rp s re) 3 V' = V' (.w (.agg [.val (.int .i64 p0), .val (.int .i64 p1), .val (.int .u32 (U32 seed)), .val (.int .i64 l0), .val (.int .i64 l1), .val (.int .i64 c0), .val (.int .i64 c1), .val (.bool over), .val (.int .i64 winner), .val (.int .i64 why), .val (.bool opn)])) := by
  simp only [aPt, ct_l, ct_d3_11, Nat.reduceAdd, Nat.reduceLeDiff, true_and]
@[go_sem 1300] theorem ct_d3_2 : ((ctC rc cap fuel p0 p1 seed l0 l1 c0 c1 over winner why opn r0 r1 rp s re).drop 3).take 2 = [.val (.int .i64 p0), .val (.int .i64 p1)] := by
    first
      | rfl
      | (unfold ctC
         rw [show (3 : Nat) = ((sd s).map D.toC).length + 0 from by rw [sdC_len], List.drop_append, List.drop_eq_nil_of_le (by omega), Nat.add_sub_cancel_left]
         rfl)
@[go_sem ↓ 1300] theorem ct_p3_2 : aPt (some true) 2 (ctC rc cap fuel p0 p1 seed l0 l1 c0 c1 over winner why opn r0 r1 rp s re) 3 V' = V' (.w (.agg [.val (.int .i64 p0), .val (.int .i64 p1)])) := by
  simp only [aPt, ct_l, ct_d3_2, Nat.reduceAdd, Nat.reduceLeDiff, true_and]
@[go_sem 1300] theorem ct_d6_2 : ((ctC rc cap fuel p0 p1 seed l0 l1 c0 c1 over winner why opn r0 r1 rp s re).drop 6).take 2 = [.val (.int .i64 l0), .val (.int .i64 l1)] := by
    first
      | rfl
      | (unfold ctC
         rw [show (6 : Nat) = ((sd s).map D.toC).length + 0 from by rw [sdC_len], List.drop_append, List.drop_eq_nil_of_le (by omega), Nat.add_sub_cancel_left]
         rfl)
@[go_sem ↓ 1300] theorem ct_p6_2 : aPt (some true) 2 (ctC rc cap fuel p0 p1 seed l0 l1 c0 c1 over winner why opn r0 r1 rp s re) 6 V' = V' (.w (.agg [.val (.int .i64 l0), .val (.int .i64 l1)])) := by
  simp only [aPt, ct_l, ct_d6_2, Nat.reduceAdd, Nat.reduceLeDiff, true_and]
@[go_sem 1300] theorem ct_d8_2 : ((ctC rc cap fuel p0 p1 seed l0 l1 c0 c1 over winner why opn r0 r1 rp s re).drop 8).take 2 = [.val (.int .i64 c0), .val (.int .i64 c1)] := by
    first
      | rfl
      | (unfold ctC
         rw [show (8 : Nat) = ((sd s).map D.toC).length + 0 from by rw [sdC_len], List.drop_append, List.drop_eq_nil_of_le (by omega), Nat.add_sub_cancel_left]
         rfl)
@[go_sem ↓ 1300] theorem ct_p8_2 : aPt (some true) 2 (ctC rc cap fuel p0 p1 seed l0 l1 c0 c1 over winner why opn r0 r1 rp s re) 8 V' = V' (.w (.agg [.val (.int .i64 c0), .val (.int .i64 c1)])) := by
  simp only [aPt, ct_l, ct_d8_2, Nat.reduceAdd, Nat.reduceLeDiff, true_and]
@[go_sem 1300] theorem ct_s_rc {x : C} : spl (ctC rc cap fuel p0 p1 seed l0 l1 c0 c1 over winner why opn r0 r1 rp s re) 0 [x] = (ctC (x) cap fuel p0 p1 seed l0 l1 c0 c1 over winner why opn r0 r1 rp s re) := rfl
@[go_sem 1300] theorem ct_u_rc {x : C} : (ctC rc cap fuel p0 p1 seed l0 l1 c0 c1 over winner why opn r0 r1 rp s re).set 0 (x) = (ctC (x) cap fuel p0 p1 seed l0 l1 c0 c1 over winner why opn r0 r1 rp s re) := show spl (ctC rc cap fuel p0 p1 seed l0 l1 c0 c1 over winner why opn r0 r1 rp s re) 0 [x] = _ from ct_s_rc
@[go_sem 1300] theorem ct_s_cap {x : Int} : spl (ctC rc cap fuel p0 p1 seed l0 l1 c0 c1 over winner why opn r0 r1 rp s re) 1 [.val (.int .i64 x)] = (ctC rc (x) fuel p0 p1 seed l0 l1 c0 c1 over winner why opn r0 r1 rp s re) := rfl
@[go_sem 1300] theorem ct_u_cap {x : Int} : (ctC rc cap fuel p0 p1 seed l0 l1 c0 c1 over winner why opn r0 r1 rp s re).set 1 (.val (.int .i64 x)) = (ctC rc (x) fuel p0 p1 seed l0 l1 c0 c1 over winner why opn r0 r1 rp s re) := show spl (ctC rc cap fuel p0 p1 seed l0 l1 c0 c1 over winner why opn r0 r1 rp s re) 1 [.val (.int .i64 x)] = _ from ct_s_cap
@[go_sem 1300] theorem ct_s_fuel {x : Int} : spl (ctC rc cap fuel p0 p1 seed l0 l1 c0 c1 over winner why opn r0 r1 rp s re) 2 [.val (.int .i64 x)] = (ctC rc cap (x) p0 p1 seed l0 l1 c0 c1 over winner why opn r0 r1 rp s re) := rfl
@[go_sem 1300] theorem ct_u_fuel {x : Int} : (ctC rc cap fuel p0 p1 seed l0 l1 c0 c1 over winner why opn r0 r1 rp s re).set 2 (.val (.int .i64 x)) = (ctC rc cap (x) p0 p1 seed l0 l1 c0 c1 over winner why opn r0 r1 rp s re) := show spl (ctC rc cap fuel p0 p1 seed l0 l1 c0 c1 over winner why opn r0 r1 rp s re) 2 [.val (.int .i64 x)] = _ from ct_s_fuel
@[go_sem 1300] theorem ct_s_p0 {x : Int} : spl (ctC rc cap fuel p0 p1 seed l0 l1 c0 c1 over winner why opn r0 r1 rp s re) 3 [.val (.int .i64 x)] = (ctC rc cap fuel (x) p1 seed l0 l1 c0 c1 over winner why opn r0 r1 rp s re) := rfl
@[go_sem 1300] theorem ct_u_p0 {x : Int} : (ctC rc cap fuel p0 p1 seed l0 l1 c0 c1 over winner why opn r0 r1 rp s re).set 3 (.val (.int .i64 x)) = (ctC rc cap fuel (x) p1 seed l0 l1 c0 c1 over winner why opn r0 r1 rp s re) := show spl (ctC rc cap fuel p0 p1 seed l0 l1 c0 c1 over winner why opn r0 r1 rp s re) 3 [.val (.int .i64 x)] = _ from ct_s_p0
@[go_sem 1300] theorem ct_s_p1 {x : Int} : spl (ctC rc cap fuel p0 p1 seed l0 l1 c0 c1 over winner why opn r0 r1 rp s re) 4 [.val (.int .i64 x)] = (ctC rc cap fuel p0 (x) seed l0 l1 c0 c1 over winner why opn r0 r1 rp s re) := rfl
@[go_sem 1300] theorem ct_u_p1 {x : Int} : (ctC rc cap fuel p0 p1 seed l0 l1 c0 c1 over winner why opn r0 r1 rp s re).set 4 (.val (.int .i64 x)) = (ctC rc cap fuel p0 (x) seed l0 l1 c0 c1 over winner why opn r0 r1 rp s re) := show spl (ctC rc cap fuel p0 p1 seed l0 l1 c0 c1 over winner why opn r0 r1 rp s re) 4 [.val (.int .i64 x)] = _ from ct_s_p1
@[go_sem 1300] theorem ct_s_seed {x : UInt32} : spl (ctC rc cap fuel p0 p1 seed l0 l1 c0 c1 over winner why opn r0 r1 rp s re) 5 [.val (.int .u32 (U32 x))] = (ctC rc cap fuel p0 p1 (x) l0 l1 c0 c1 over winner why opn r0 r1 rp s re) := rfl
@[go_sem 1300] theorem ct_u_seed {x : UInt32} : (ctC rc cap fuel p0 p1 seed l0 l1 c0 c1 over winner why opn r0 r1 rp s re).set 5 (.val (.int .u32 (U32 x))) = (ctC rc cap fuel p0 p1 (x) l0 l1 c0 c1 over winner why opn r0 r1 rp s re) := show spl (ctC rc cap fuel p0 p1 seed l0 l1 c0 c1 over winner why opn r0 r1 rp s re) 5 [.val (.int .u32 (U32 x))] = _ from ct_s_seed
@[go_sem 1300] theorem ct_s_l0 {x : Int} : spl (ctC rc cap fuel p0 p1 seed l0 l1 c0 c1 over winner why opn r0 r1 rp s re) 6 [.val (.int .i64 x)] = (ctC rc cap fuel p0 p1 seed (x) l1 c0 c1 over winner why opn r0 r1 rp s re) := rfl
@[go_sem 1300] theorem ct_u_l0 {x : Int} : (ctC rc cap fuel p0 p1 seed l0 l1 c0 c1 over winner why opn r0 r1 rp s re).set 6 (.val (.int .i64 x)) = (ctC rc cap fuel p0 p1 seed (x) l1 c0 c1 over winner why opn r0 r1 rp s re) := show spl (ctC rc cap fuel p0 p1 seed l0 l1 c0 c1 over winner why opn r0 r1 rp s re) 6 [.val (.int .i64 x)] = _ from ct_s_l0
@[go_sem 1300] theorem ct_s_l1 {x : Int} : spl (ctC rc cap fuel p0 p1 seed l0 l1 c0 c1 over winner why opn r0 r1 rp s re) 7 [.val (.int .i64 x)] = (ctC rc cap fuel p0 p1 seed l0 (x) c0 c1 over winner why opn r0 r1 rp s re) := rfl
@[go_sem 1300] theorem ct_u_l1 {x : Int} : (ctC rc cap fuel p0 p1 seed l0 l1 c0 c1 over winner why opn r0 r1 rp s re).set 7 (.val (.int .i64 x)) = (ctC rc cap fuel p0 p1 seed l0 (x) c0 c1 over winner why opn r0 r1 rp s re) := show spl (ctC rc cap fuel p0 p1 seed l0 l1 c0 c1 over winner why opn r0 r1 rp s re) 7 [.val (.int .i64 x)] = _ from ct_s_l1
@[go_sem 1300] theorem ct_s_c0 {x : Int} : spl (ctC rc cap fuel p0 p1 seed l0 l1 c0 c1 over winner why opn r0 r1 rp s re) 8 [.val (.int .i64 x)] = (ctC rc cap fuel p0 p1 seed l0 l1 (x) c1 over winner why opn r0 r1 rp s re) := rfl
@[go_sem 1300] theorem ct_u_c0 {x : Int} : (ctC rc cap fuel p0 p1 seed l0 l1 c0 c1 over winner why opn r0 r1 rp s re).set 8 (.val (.int .i64 x)) = (ctC rc cap fuel p0 p1 seed l0 l1 (x) c1 over winner why opn r0 r1 rp s re) := show spl (ctC rc cap fuel p0 p1 seed l0 l1 c0 c1 over winner why opn r0 r1 rp s re) 8 [.val (.int .i64 x)] = _ from ct_s_c0
@[go_sem 1300] theorem ct_s_c1 {x : Int} : spl (ctC rc cap fuel p0 p1 seed l0 l1 c0 c1 over winner why opn r0 r1 rp s re) 9 [.val (.int .i64 x)] = (ctC rc cap fuel p0 p1 seed l0 l1 c0 (x) over winner why opn r0 r1 rp s re) := rfl
@[go_sem 1300] theorem ct_u_c1 {x : Int} : (ctC rc cap fuel p0 p1 seed l0 l1 c0 c1 over winner why opn r0 r1 rp s re).set 9 (.val (.int .i64 x)) = (ctC rc cap fuel p0 p1 seed l0 l1 c0 (x) over winner why opn r0 r1 rp s re) := show spl (ctC rc cap fuel p0 p1 seed l0 l1 c0 c1 over winner why opn r0 r1 rp s re) 9 [.val (.int .i64 x)] = _ from ct_s_c1
@[go_sem 1300] theorem ct_s_over {x : Bool} : spl (ctC rc cap fuel p0 p1 seed l0 l1 c0 c1 over winner why opn r0 r1 rp s re) 10 [.val (.bool x)] = (ctC rc cap fuel p0 p1 seed l0 l1 c0 c1 (x) winner why opn r0 r1 rp s re) := rfl
@[go_sem 1300] theorem ct_u_over {x : Bool} : (ctC rc cap fuel p0 p1 seed l0 l1 c0 c1 over winner why opn r0 r1 rp s re).set 10 (.val (.bool x)) = (ctC rc cap fuel p0 p1 seed l0 l1 c0 c1 (x) winner why opn r0 r1 rp s re) := show spl (ctC rc cap fuel p0 p1 seed l0 l1 c0 c1 over winner why opn r0 r1 rp s re) 10 [.val (.bool x)] = _ from ct_s_over
@[go_sem 1300] theorem ct_s_winner {x : Int} : spl (ctC rc cap fuel p0 p1 seed l0 l1 c0 c1 over winner why opn r0 r1 rp s re) 11 [.val (.int .i64 x)] = (ctC rc cap fuel p0 p1 seed l0 l1 c0 c1 over (x) why opn r0 r1 rp s re) := rfl
@[go_sem 1300] theorem ct_u_winner {x : Int} : (ctC rc cap fuel p0 p1 seed l0 l1 c0 c1 over winner why opn r0 r1 rp s re).set 11 (.val (.int .i64 x)) = (ctC rc cap fuel p0 p1 seed l0 l1 c0 c1 over (x) why opn r0 r1 rp s re) := show spl (ctC rc cap fuel p0 p1 seed l0 l1 c0 c1 over winner why opn r0 r1 rp s re) 11 [.val (.int .i64 x)] = _ from ct_s_winner
@[go_sem 1300] theorem ct_s_why {x : Int} : spl (ctC rc cap fuel p0 p1 seed l0 l1 c0 c1 over winner why opn r0 r1 rp s re) 12 [.val (.int .i64 x)] = (ctC rc cap fuel p0 p1 seed l0 l1 c0 c1 over winner (x) opn r0 r1 rp s re) := rfl
@[go_sem 1300] theorem ct_u_why {x : Int} : (ctC rc cap fuel p0 p1 seed l0 l1 c0 c1 over winner why opn r0 r1 rp s re).set 12 (.val (.int .i64 x)) = (ctC rc cap fuel p0 p1 seed l0 l1 c0 c1 over winner (x) opn r0 r1 rp s re) := show spl (ctC rc cap fuel p0 p1 seed l0 l1 c0 c1 over winner why opn r0 r1 rp s re) 12 [.val (.int .i64 x)] = _ from ct_s_why
@[go_sem 1300] theorem ct_s_opn {x : Bool} : spl (ctC rc cap fuel p0 p1 seed l0 l1 c0 c1 over winner why opn r0 r1 rp s re) 13 [.val (.bool x)] = (ctC rc cap fuel p0 p1 seed l0 l1 c0 c1 over winner why (x) r0 r1 rp s re) := rfl
@[go_sem 1300] theorem ct_u_opn {x : Bool} : (ctC rc cap fuel p0 p1 seed l0 l1 c0 c1 over winner why opn r0 r1 rp s re).set 13 (.val (.bool x)) = (ctC rc cap fuel p0 p1 seed l0 l1 c0 c1 over winner why (x) r0 r1 rp s re) := show spl (ctC rc cap fuel p0 p1 seed l0 l1 c0 c1 over winner why opn r0 r1 rp s re) 13 [.val (.bool x)] = _ from ct_s_opn
@[go_sem 1300] theorem ct_s_r0 {x : C} : spl (ctC rc cap fuel p0 p1 seed l0 l1 c0 c1 over winner why opn r0 r1 rp s re) 14 [x] = (ctC rc cap fuel p0 p1 seed l0 l1 c0 c1 over winner why opn (x) r1 rp s re) := rfl
@[go_sem 1300] theorem ct_u_r0 {x : C} : (ctC rc cap fuel p0 p1 seed l0 l1 c0 c1 over winner why opn r0 r1 rp s re).set 14 (x) = (ctC rc cap fuel p0 p1 seed l0 l1 c0 c1 over winner why opn (x) r1 rp s re) := show spl (ctC rc cap fuel p0 p1 seed l0 l1 c0 c1 over winner why opn r0 r1 rp s re) 14 [x] = _ from ct_s_r0
@[go_sem 1300] theorem ct_s_r1 {x : C} : spl (ctC rc cap fuel p0 p1 seed l0 l1 c0 c1 over winner why opn r0 r1 rp s re) 15 [x] = (ctC rc cap fuel p0 p1 seed l0 l1 c0 c1 over winner why opn r0 (x) rp s re) := rfl
@[go_sem 1300] theorem ct_u_r1 {x : C} : (ctC rc cap fuel p0 p1 seed l0 l1 c0 c1 over winner why opn r0 r1 rp s re).set 15 (x) = (ctC rc cap fuel p0 p1 seed l0 l1 c0 c1 over winner why opn r0 (x) rp s re) := show spl (ctC rc cap fuel p0 p1 seed l0 l1 c0 c1 over winner why opn r0 r1 rp s re) 15 [x] = _ from ct_s_r1
@[go_sem 1300] theorem ct_s_rp {x : C} : spl (ctC rc cap fuel p0 p1 seed l0 l1 c0 c1 over winner why opn r0 r1 rp s re) 16 [x] = (ctC rc cap fuel p0 p1 seed l0 l1 c0 c1 over winner why opn r0 r1 (x) s re) := rfl
@[go_sem 1300] theorem ct_u_rp {x : C} : (ctC rc cap fuel p0 p1 seed l0 l1 c0 c1 over winner why opn r0 r1 rp s re).set 16 (x) = (ctC rc cap fuel p0 p1 seed l0 l1 c0 c1 over winner why opn r0 r1 (x) s re) := show spl (ctC rc cap fuel p0 p1 seed l0 l1 c0 c1 over winner why opn r0 r1 rp s re) 16 [x] = _ from ct_s_rp
@[go_sem 1300] theorem ct_ss_frame {x : Int} : spl (ctC rc cap fuel p0 p1 seed l0 l1 c0 c1 over winner why opn r0 r1 rp s re) 17 [.val (.int .i64 x)] = (ctC rc cap fuel p0 p1 seed l0 l1 c0 c1 over winner why opn r0 r1 rp (s.wFrame x) re) := by
  unfold ctC
  rw [show (17 : Nat) = ([rc, .val (.int .i64 cap), .val (.int .i64 fuel), .val (.int .i64 p0), .val (.int .i64 p1), .val (.int .u32 (U32 seed)), .val (.int .i64 l0), .val (.int .i64 l1), .val (.int .i64 c0), .val (.int .i64 c1), .val (.bool over), .val (.int .i64 winner), .val (.int .i64 why), .val (.bool opn), r0, r1, rp] : List C).length + 0 from rfl, spl_appR (by simp only [List.length_append, List.length_cons, List.length_nil, sdC_len]; omega)]
  rw [spl_appL (by simp only [List.length_cons, List.length_nil, sdC_len]; omega), spl_frame]
@[go_sem 1300] theorem ct_us_frame {x : Int} : (ctC rc cap fuel p0 p1 seed l0 l1 c0 c1 over winner why opn r0 r1 rp s re).set 17 (.val (.int .i64 x)) = (ctC rc cap fuel p0 p1 seed l0 l1 c0 c1 over winner why opn r0 r1 rp (s.wFrame x) re) := show spl (ctC rc cap fuel p0 p1 seed l0 l1 c0 c1 over winner why opn r0 r1 rp s re) 17 [.val (.int .i64 x)] = _ from ct_ss_frame
@[go_sem 1300] theorem ct_ss_seed {x : UInt32} : spl (ctC rc cap fuel p0 p1 seed l0 l1 c0 c1 over winner why opn r0 r1 rp s re) 34 [.val (.int .u32 (U32 x))] = (ctC rc cap fuel p0 p1 seed l0 l1 c0 c1 over winner why opn r0 r1 rp (s.wSeed x) re) := by
  unfold ctC
  rw [show (34 : Nat) = ([rc, .val (.int .i64 cap), .val (.int .i64 fuel), .val (.int .i64 p0), .val (.int .i64 p1), .val (.int .u32 (U32 seed)), .val (.int .i64 l0), .val (.int .i64 l1), .val (.int .i64 c0), .val (.int .i64 c1), .val (.bool over), .val (.int .i64 winner), .val (.int .i64 why), .val (.bool opn), r0, r1, rp] : List C).length + 17 from rfl, spl_appR (by simp only [List.length_append, List.length_cons, List.length_nil, sdC_len]; omega)]
  rw [spl_appL (by simp only [List.length_cons, List.length_nil, sdC_len]; omega), spl_seed]
@[go_sem 1300] theorem ct_us_seed {x : UInt32} : (ctC rc cap fuel p0 p1 seed l0 l1 c0 c1 over winner why opn r0 r1 rp s re).set 34 (.val (.int .u32 (U32 x))) = (ctC rc cap fuel p0 p1 seed l0 l1 c0 c1 over winner why opn r0 r1 rp (s.wSeed x) re) := show spl (ctC rc cap fuel p0 p1 seed l0 l1 c0 c1 over winner why opn r0 r1 rp s re) 34 [.val (.int .u32 (U32 x))] = _ from ct_ss_seed
@[go_sem 1300] theorem ct_ss_over {x : Bool} : spl (ctC rc cap fuel p0 p1 seed l0 l1 c0 c1 over winner why opn r0 r1 rp s re) 35 [.val (.bool x)] = (ctC rc cap fuel p0 p1 seed l0 l1 c0 c1 over winner why opn r0 r1 rp (s.wOver x) re) := by
  unfold ctC
  rw [show (35 : Nat) = ([rc, .val (.int .i64 cap), .val (.int .i64 fuel), .val (.int .i64 p0), .val (.int .i64 p1), .val (.int .u32 (U32 seed)), .val (.int .i64 l0), .val (.int .i64 l1), .val (.int .i64 c0), .val (.int .i64 c1), .val (.bool over), .val (.int .i64 winner), .val (.int .i64 why), .val (.bool opn), r0, r1, rp] : List C).length + 18 from rfl, spl_appR (by simp only [List.length_append, List.length_cons, List.length_nil, sdC_len]; omega)]
  rw [spl_appL (by simp only [List.length_cons, List.length_nil, sdC_len]; omega), spl_over]
@[go_sem 1300] theorem ct_us_over {x : Bool} : (ctC rc cap fuel p0 p1 seed l0 l1 c0 c1 over winner why opn r0 r1 rp s re).set 35 (.val (.bool x)) = (ctC rc cap fuel p0 p1 seed l0 l1 c0 c1 over winner why opn r0 r1 rp (s.wOver x) re) := show spl (ctC rc cap fuel p0 p1 seed l0 l1 c0 c1 over winner why opn r0 r1 rp s re) 35 [.val (.bool x)] = _ from ct_ss_over
@[go_sem 1300] theorem ct_ss_win {x : Int} : spl (ctC rc cap fuel p0 p1 seed l0 l1 c0 c1 over winner why opn r0 r1 rp s re) 36 [.val (.int .i64 x)] = (ctC rc cap fuel p0 p1 seed l0 l1 c0 c1 over winner why opn r0 r1 rp (s.wWin x) re) := by
  unfold ctC
  rw [show (36 : Nat) = ([rc, .val (.int .i64 cap), .val (.int .i64 fuel), .val (.int .i64 p0), .val (.int .i64 p1), .val (.int .u32 (U32 seed)), .val (.int .i64 l0), .val (.int .i64 l1), .val (.int .i64 c0), .val (.int .i64 c1), .val (.bool over), .val (.int .i64 winner), .val (.int .i64 why), .val (.bool opn), r0, r1, rp] : List C).length + 19 from rfl, spl_appR (by simp only [List.length_append, List.length_cons, List.length_nil, sdC_len]; omega)]
  rw [spl_appL (by simp only [List.length_cons, List.length_nil, sdC_len]; omega), spl_win]
@[go_sem 1300] theorem ct_us_win {x : Int} : (ctC rc cap fuel p0 p1 seed l0 l1 c0 c1 over winner why opn r0 r1 rp s re).set 36 (.val (.int .i64 x)) = (ctC rc cap fuel p0 p1 seed l0 l1 c0 c1 over winner why opn r0 r1 rp (s.wWin x) re) := show spl (ctC rc cap fuel p0 p1 seed l0 l1 c0 c1 over winner why opn r0 r1 rp s re) 36 [.val (.int .i64 x)] = _ from ct_ss_win
@[go_sem 1300] theorem ct_ss {x : Sta} : spl (ctC rc cap fuel p0 p1 seed l0 l1 c0 c1 over winner why opn r0 r1 rp s re) 17 ((sd x).map D.toC) = (ctC rc cap fuel p0 p1 seed l0 l1 c0 c1 over winner why opn r0 r1 rp (x) re) := by
  unfold ctC
  rw [show (17 : Nat) = ([rc, .val (.int .i64 cap), .val (.int .i64 fuel), .val (.int .i64 p0), .val (.int .i64 p1), .val (.int .u32 (U32 seed)), .val (.int .i64 l0), .val (.int .i64 l1), .val (.int .i64 c0), .val (.int .i64 c1), .val (.bool over), .val (.int .i64 winner), .val (.int .i64 why), .val (.bool opn), r0, r1, rp] : List C).length + 0 from rfl, spl_appR (by simp only [List.length_append, List.length_cons, List.length_nil, sdC_len]; omega)]
  rw [spl_appL (by simp only [sdC_len]; omega), spl_all (by simp only [sdC_len])]
@[go_sem 1300] theorem ct_s_re {x : C} : spl (ctC rc cap fuel p0 p1 seed l0 l1 c0 c1 over winner why opn r0 r1 rp s re) 37 [x] = (ctC rc cap fuel p0 p1 seed l0 l1 c0 c1 over winner why opn r0 r1 rp s (x)) := by
  unfold ctC
  rw [show (37 : Nat) = ([rc, .val (.int .i64 cap), .val (.int .i64 fuel), .val (.int .i64 p0), .val (.int .i64 p1), .val (.int .u32 (U32 seed)), .val (.int .i64 l0), .val (.int .i64 l1), .val (.int .i64 c0), .val (.int .i64 c1), .val (.bool over), .val (.int .i64 winner), .val (.int .i64 why), .val (.bool opn), r0, r1, rp] : List C).length + 20 from by first | rfl | rw [sdC_len], spl_appR (by simp only [List.length_append, List.length_cons, List.length_nil, sdC_len]; omega)]
  rw [show (20 : Nat) = ((sd s).map D.toC).length + 0 from by first | rfl | rw [sdC_len], spl_appR (by simp only [List.length_append, List.length_cons, List.length_nil, sdC_len]; omega)]
  rfl
@[go_sem 1300] theorem ct_u_re {x : C} : (ctC rc cap fuel p0 p1 seed l0 l1 c0 c1 over winner why opn r0 r1 rp s re).set 37 (x) = (ctC rc cap fuel p0 p1 seed l0 l1 c0 c1 over winner why opn r0 r1 rp s (x)) := show spl (ctC rc cap fuel p0 p1 seed l0 l1 c0 c1 over winner why opn r0 r1 rp s re) 37 [x] = _ from ct_s_re
@[go_sem 1300] theorem ct_w3_11 {y0 : Int} {y1 : Int} {y2 : UInt32} {y3 : Int} {y4 : Int} {y5 : Int} {y6 : Int} {y7 : Bool} {y8 : Int} {y9 : Int} {y10 : Bool} : spl (ctC rc cap fuel p0 p1 seed l0 l1 c0 c1 over winner why opn r0 r1 rp s re) 3 [.val (.int .i64 y0), .val (.int .i64 y1), .val (.int .u32 (U32 y2)), .val (.int .i64 y3), .val (.int .i64 y4), .val (.int .i64 y5), .val (.int .i64 y6), .val (.bool y7), .val (.int .i64 y8), .val (.int .i64 y9), .val (.bool y10)] = (ctC rc cap fuel y0 y1 y2 y3 y4 y5 y6 y7 y8 y9 y10 r0 r1 rp s re) := by
  first
    | rfl
    | (unfold ctC
       rw [show (3 : Nat) = ((sd s).map D.toC).length + 0 from by rw [sdC_len], spl_appR (by simp only [List.length_cons, List.length_nil]; omega)]
       rfl)
@[go_sem 1300] theorem ct_w3_2 {y0 : Int} {y1 : Int} : spl (ctC rc cap fuel p0 p1 seed l0 l1 c0 c1 over winner why opn r0 r1 rp s re) 3 [.val (.int .i64 y0), .val (.int .i64 y1)] = (ctC rc cap fuel y0 y1 seed l0 l1 c0 c1 over winner why opn r0 r1 rp s re) := by
  first
    | rfl
    | (unfold ctC
       rw [show (3 : Nat) = ((sd s).map D.toC).length + 0 from by rw [sdC_len], spl_appR (by simp only [List.length_cons, List.length_nil]; omega)]
       rfl)
@[go_sem 1300] theorem ct_w6_2 {y0 : Int} {y1 : Int} : spl (ctC rc cap fuel p0 p1 seed l0 l1 c0 c1 over winner why opn r0 r1 rp s re) 6 [.val (.int .i64 y0), .val (.int .i64 y1)] = (ctC rc cap fuel p0 p1 seed y0 y1 c0 c1 over winner why opn r0 r1 rp s re) := by
  first
    | rfl
    | (unfold ctC
       rw [show (6 : Nat) = ((sd s).map D.toC).length + 0 from by rw [sdC_len], spl_appR (by simp only [List.length_cons, List.length_nil]; omega)]
       rfl)
@[go_sem 1300] theorem ct_w8_2 {y0 : Int} {y1 : Int} : spl (ctC rc cap fuel p0 p1 seed l0 l1 c0 c1 over winner why opn r0 r1 rp s re) 8 [.val (.int .i64 y0), .val (.int .i64 y1)] = (ctC rc cap fuel p0 p1 seed l0 l1 y0 y1 over winner why opn r0 r1 rp s re) := by
  first
    | rfl
    | (unfold ctC
       rw [show (8 : Nat) = ((sd s).map D.toC).length + 0 from by rw [sdC_len], spl_appR (by simp only [List.length_cons, List.length_nil]; omega)]
       rfl)
@[go_sem ↓] theorem ct_w {l : List V} {hp : Heap} {i : Id} {off : Nat} {cs : List C} : St.stow ⟨l, hp⟩ i off cs (ctC rc cap fuel p0 p1 seed l0 l1 c0 c1 over winner why opn r0 r1 rp s re) = ⟨l, hset hp i (spl cs off (ctC (C.clean (fun _ => false) (fun _ => true) rc) cap fuel p0 p1 seed l0 l1 c0 c1 over winner why opn (C.clean (fun _ => false) (fun _ => true) r0) (C.clean (fun _ => false) (fun _ => true) r1) (C.clean (fun _ => false) (fun _ => true) rp) s (C.clean (fun _ => false) (fun _ => true) re)))⟩ := by
  rw [stow_big (by rw [ct_l]; omega), ct_k]
@[go_sem ↓ 1300] theorem ct_p : aPt (some true) 38 (ctC rc cap fuel p0 p1 seed l0 l1 c0 c1 over winner why opn r0 r1 rp s re) 0 V' = V' (.w (.agg (ctC rc cap fuel p0 p1 seed l0 l1 c0 c1 over winner why opn r0 r1 rp s re))) := by
  have e : ((ctC rc cap fuel p0 p1 seed l0 l1 c0 c1 over winner why opn r0 r1 rp s re).drop 0).take 38 = (ctC rc cap fuel p0 p1 seed l0 l1 c0 c1 over winner why opn r0 r1 rp s re) := by rw [List.drop_zero, List.take_of_length_le (by rw [ct_l]; omega)]
  simp only [aPt, ct_l, e, Nat.reduceAdd, Nat.reduceLeDiff, true_and]
theorem ct_le {rc' : C} {cap' : Int} {fuel' : Int} {p0' : Int} {p1' : Int} {seed' : UInt32} {l0' : Int} {l1' : Int} {c0' : Int} {c1' : Int} {over' : Bool} {winner' : Int} {why' : Int} {opn' : Bool} {r0' : C} {r1' : C} {rp' : C} {s' : Sta} {re' : C} (h : leC rc rc' ∧ cap = cap' ∧ fuel = fuel' ∧ p0 = p0' ∧ p1 = p1' ∧ seed = seed' ∧ l0 = l0' ∧ l1 = l1' ∧ c0 = c0' ∧ c1 = c1' ∧ over = over' ∧ winner = winner' ∧ why = why' ∧ opn = opn' ∧ leC r0 r0' ∧ leC r1 r1' ∧ leC rp rp' ∧ s = s' ∧ leC re re') : leCs (ctC rc cap fuel p0 p1 seed l0 l1 c0 c1 over winner why opn r0 r1 rp s re) (ctC rc' cap' fuel' p0' p1' seed' l0' l1' c0' c1' over' winner' why' opn' r0' r1' rp' s' re') := by
  obtain ⟨h0, h1, h2, h3, h4, h5, h6, h7, h8, h9, h10, h11, h12, h13, h14, h15, h16, h17, h18⟩ := h
  subst h1
  subst h2
  subst h3
  subst h4
  subst h5
  subst h6
  subst h7
  subst h8
  subst h9
  subst h10
  subst h11
  subst h12
  subst h13
  subst h17
  unfold ctC
  try simp only [List.cons_append, List.nil_append, List.append_assoc]
  exact ⟨h0, ⟨leC_refl _, ⟨leC_refl _, ⟨leC_refl _, ⟨leC_refl _, ⟨leC_refl _, ⟨leC_refl _, ⟨leC_refl _, ⟨leC_refl _, ⟨leC_refl _, ⟨leC_refl _, ⟨leC_refl _, ⟨leC_refl _, ⟨leC_refl _, ⟨h14, ⟨h15, ⟨h16, (leCs_app (leCs_refl _) ⟨h18, trivial⟩)⟩⟩⟩⟩⟩⟩⟩⟩⟩⟩⟩⟩⟩⟩⟩⟩⟩
@[go_sem ↓ 1300] theorem ct_ler : leCs (ctC rc cap fuel p0 p1 seed l0 l1 c0 c1 over winner why opn r0 r1 rp s re) (ctC rc cap fuel p0 p1 seed l0 l1 c0 c1 over winner why opn r0 r1 rp s re) = True := eq_true (leCs_refl _)
end
end
section
/-- an event -/
structure Ev where
  kind : Int
  player : Int
  other : Int
  frame : Int
  inp : UInt16
  n : Int
def evD (e : Ev) : List D := [.val (.int .i64 e.kind), .val (.int .i64 e.player), .val (.int .i64 e.other), .val (.int .i64 e.frame), .val (.int .u16 (U16 e.inp)), .val (.int .i64 e.n)]
abbrev evC (e : Ev) : List C := [.val (.int .i64 e.kind), .val (.int .i64 e.player), .val (.int .i64 e.other), .val (.int .i64 e.frame), .val (.int .u16 (U16 e.inp)), .val (.int .i64 e.n)]
abbrev W.ev (e : Ev) : W := .agg (evC e)
def evs (l : List Ev) : List D := (l.map evD).flatten
def fU (x : UInt16) : D := .val (.int .u16 (U16 x))
def prD (x : UInt16 × UInt16) : List D := [fU x.1, fU x.2]
def prs (l : List (UInt16 × UInt16)) : List D := (l.map prD).flatten
/-- a match -/
structure Ct where
  code : List (Int × Int)
  cap : Int
  fuel : Int
  p0 : Int
  p1 : Int
  seed : UInt32
  l0 : Int
  l1 : Int
  over : Bool
  winner : Int
  why : Int
  opn : Bool
  in0 : List UInt16
  in1 : List UInt16
  pairs : List (UInt16 × UInt16)
  st : Sta
  events : List Ev
abbrev ctB (i : Id) (c : Ct) : List C := ctC (.lst .no none 2 (ins c.code)) c.cap c.fuel c.p0 c.p1 c.seed c.l0 c.l1 (c.in0.length : Int) (c.in1.length : Int) c.over c.winner c.why c.opn (.lst (.tag (.cell i 14)) none 1 (ls fU c.in0)) (.lst (.tag (.cell i 15)) none 1 (ls fU c.in1)) (.lst (.tag (.cell i 16)) none 2 (prs c.pairs)) c.st (.lst (.tag (.cell i 37)) none 6 (evs c.events))
def seatP (c : Ct) (x : Int) : Int := if c.p0 = x then 0 else if c.p1 = x then 1 else -1
theorem index_h (c : Ct) (x : Int) : Holds Tryz.prog 63 [.c (.row (.arg 0) 3 2 2), .int .i64 x] [(.arg 0, ctB (.arg 0) c)] (fun r h' => r = .int .i64 (seatP c x) ∧ h' = [(.arg 0, ctB (.arg 0) c)]) := by
  refine holds_of_awp Tryz.func63 rfl (by decide +kernel) mixed Tryz.ntmps63 Tryz.results63 ?_
  refine zE ?_
  refine zs ?_;try exact trivial
  refine a_loopk (fun k : Nat => ⟨[V.cell (.row (.arg 0) 3 2 2), V.int .i64 x, U, U, U, U, V.cell (.row (.arg 0) 3 2 2), V.int .i64 2, V.int .i64 k, U, U, U, U, U, U, U, U, U, .undef], [(.arg 0, ctB (.arg 0) c)]⟩) (fun k => k ≤ 2 ∧ (0 < k → c.p0 ≠ x) ∧ (1 < k → c.p1 ≠ x)) (2 - ·) 0 ⟨by omega, by omega, by omega⟩ ?_ ?_
  · try (refine zs ?_; try exact trivial)
  rintro k ⟨hk, h0, h1⟩
  rcases (by omega : k = 0 ∨ k = 1 ∨ k = 2) with rfl | rfl | rfl
  · refine zc ?_;try exact trivial
    refine c_dec (fun h => ?_) (fun h => ?_)
    · have e : seatP c x = 0 := by unfold seatP; rw [if_pos h.symm]
      rw [e]
      refine zc ?_;try exact trivial
    refine zc ?_;try exact trivial
    exact ⟨1, by omega, ⟨by omega, fun _ q => h q.symm, by omega⟩, rfl⟩
  · have h0' := h0 (by omega)
    refine zc ?_;try exact trivial
    refine c_dec (fun h => ?_) (fun h => ?_)
    · have e : seatP c x = 1 := by unfold seatP; rw [if_neg h0', if_pos h.symm]
      rw [e]
      refine zc ?_;try exact trivial
    refine zc ?_;try exact trivial
    exact ⟨2, by omega, ⟨by omega, fun _ => h0', fun _ q => h q.symm⟩, rfl⟩
  have h0' := h0 (by omega)
  have h1' := h1 (by omega)
  have e : seatP c x = -1 := by simp [seatP, h0', h1']
  rw [e]
  refine zc ?_;try exact trivial
theorem seat_h (c : Ct) (x : Int) : Holds Tryz.prog 39 [.ptr (.arg 0) 0, .int .i64 x] [(.arg 0, ctB (.arg 0) c)] (fun r h' => r = .int .i64 (seatP c x) ∧ h' = [(.arg 0, ctB (.arg 0) c)]) := by
  refine holds_of_awp Tryz.func39 rfl (by decide +kernel) mixed Tryz.ntmps39 Tryz.results39 ?_
  refine zE ?_
  refine zc ?_;try exact trivial
  refine a_call [.arg 0] (index_h c x) (ok1 rfl) ?_ ?_ ?_
  · refine zs ?_;try exact trivial
  · refine zs ?_;try exact trivial
  rintro _ _ ⟨rfl, rfl⟩
  refine zs ?_;try exact trivial
theorem ended_h (c : Ct) : Holds Tryz.prog 38 [.ptr (.arg 0) 0] [(.arg 0, ctB (.arg 0) c)] (fun r h' => r = V.bool (c.over || c.st.over) ∧ h' = [(.arg 0, ctB (.arg 0) c)]) := by
  refine holds_of_awp Tryz.func38 rfl (by decide +kernel) mixed Tryz.ntmps38 Tryz.results38 ?_
  refine zE ?_
  cases d : c.over
  · simp (maxSteps:=2000000) (disch:=omega) only [go_sem,Nat.reduceAdd,Nat.reduceSub,Nat.reduceMul,Nat.reduceBEq,Nat.reduceEqDiff,Nat.reduceLT,Nat.reduceLeDiff,Nat.reduceDiv,reduceIte,reduceCtorEq, d]
  simp (maxSteps:=2000000) (disch:=omega) only [go_sem,Nat.reduceAdd,Nat.reduceSub,Nat.reduceMul,Nat.reduceBEq,Nat.reduceEqDiff,Nat.reduceLT,Nat.reduceLeDiff,Nat.reduceDiv,reduceIte,reduceCtorEq, d]
/-- may a player do something? -/
def actP (c : Ct) (p : Int) : Int := if c.opn = false then 15 else if (c.over || c.st.over) = true then 12 else if seatP c p < 0 then 14 else 0
def mayOpenP (c : Ct) (e : Ev) : Int := if c.opn = true then 15 else if e.player < 1 ∨ e.other < 1 ∨ e.player = e.other ∨ e.n < 0 ∨ 4294967295 < e.n then 1 else 0
theorem mayAct_h (c : Ct) (e : Ev) : Holds Tryz.prog 65 [.ptr (.arg 0) 0, .ev e] [(.arg 0, ctB (.arg 0) c)] (fun r h' => r = .int .i64 (actP c e.player) ∧ h' = [(.arg 0, ctB (.arg 0) c)]) := by
  refine holds_of_awp Tryz.func65 rfl (by decide +kernel) mixed Tryz.ntmps65 Tryz.results65 ?_
  refine zE ?_
  refine zs ?_;try exact trivial
  refine c_b (fun d => ?_) (fun d => ?_)
  · have e1 : actP c e.player = 15 := by
      unfold actP
      cases q : c.opn <;> simp_all
    rw [e1]
    refine zs ?_;try exact trivial
  refine zs ?_;try exact trivial
  refine a_call [.arg 0] (ended_h c) (ok1 rfl) ?_ ?_ ?_
  · refine zs ?_;try exact trivial
  · refine zs ?_;try exact trivial
  rintro _ _ ⟨rfl, rfl⟩
  refine zs ?_;try exact trivial
  have d1 : c.opn = true := by cases q : c.opn <;> simp_all
  refine c_b (fun d2 => ?_) (fun d2 => ?_)
  · have e1 : actP c e.player = 12 := by
      unfold actP
      rw [if_neg (by simp [d1]), if_pos d2]
    rw [e1]
    refine zs ?_;try exact trivial
  refine zs ?_;try exact trivial
  refine a_call [.arg 0] (seat_h c e.player) (ok1 rfl) ?_ ?_ ?_
  · refine zs ?_;try exact trivial
  · refine zs ?_;try exact trivial
  rintro _ _ ⟨rfl, rfl⟩
  refine zs ?_;try exact trivial
  refine c_dec (fun h => ?_) (fun h => ?_)
  · have e1 : actP c e.player = 14 := by
      unfold actP
      rw [if_neg (by simp [d1]), if_neg (by simp [d2]), if_pos h]
    rw [e1]
    refine zs ?_;try exact trivial
  have e1 : actP c e.player = 0 := by
    unfold actP
    rw [if_neg (by simp [d1]), if_neg (by simp [d2]), if_neg h]
  rw [e1]
  refine zs ?_;try exact trivial
theorem mayOpen_h (c : Ct) (e : Ev) : Holds Tryz.prog 41 [.ptr (.arg 0) 0, .ev e] [(.arg 0, ctB (.arg 0) c)] (fun r h' => r = .int .i64 (mayOpenP c e) ∧ h' = [(.arg 0, ctB (.arg 0) c)]) := by
  refine holds_of_awp Tryz.func41 rfl (by decide +kernel) mixed Tryz.ntmps41 Tryz.results41 ?_
  refine zE ?_
  refine zs ?_;try exact trivial
  refine c_b (fun d => ?_) (fun d => ?_)
  · have e1 : mayOpenP c e = 15 := by unfold mayOpenP; rw [if_pos d]
    rw [e1]
    refine zs ?_;try exact trivial
  refine zs ?_;try exact trivial
  cases d1 : decide (e.player < 1)
  · have d1f := of_decide_eq_false d1
    cases d2 : decide (e.other < 1)
    · have d2f := of_decide_eq_false d2
      cases d3 : decide (e.player = e.other)
      · have d3f := of_decide_eq_false d3
        cases d4 : decide (e.n < 0)
        · have d4f := of_decide_eq_false d4
          simp (maxSteps:=2000000) (disch:=omega) only [go_sem,Nat.reduceAdd,Nat.reduceSub,Nat.reduceMul,Nat.reduceBEq,Nat.reduceEqDiff,Nat.reduceLT,Nat.reduceLeDiff,Nat.reduceDiv,reduceIte,reduceCtorEq, d1, d2, d3, d4]
          refine c_dec (fun h => ?_) (fun h => ?_)
          · have e1 : mayOpenP c e = 1 := by
              unfold mayOpenP
              rw [if_neg (by simp [d]), if_pos (by omega)]
            rw [e1]
            refine zs ?_;try exact trivial
          have e1 : mayOpenP c e = 0 := by
            unfold mayOpenP
            rw [if_neg (by simp [d]), if_neg (by omega)]
          rw [e1]
          refine zs ?_;try exact trivial
        have d4f := of_decide_eq_true d4
        have e1 : mayOpenP c e = 1 := by
          unfold mayOpenP
          rw [if_neg (by simp [d]), if_pos (by omega)]
        rw [e1]
        simp (maxSteps:=2000000) (disch:=omega) only [go_sem,Nat.reduceAdd,Nat.reduceSub,Nat.reduceMul,Nat.reduceBEq,Nat.reduceEqDiff,Nat.reduceLT,Nat.reduceLeDiff,Nat.reduceDiv,reduceIte,reduceCtorEq, d1, d2, d3, d4]
      have d3f := of_decide_eq_true d3
      have e1 : mayOpenP c e = 1 := by
        unfold mayOpenP
        rw [if_neg (by simp [d]), if_pos (by omega)]
      rw [e1]
      simp (maxSteps:=2000000) (disch:=omega) only [go_sem,Nat.reduceAdd,Nat.reduceSub,Nat.reduceMul,Nat.reduceBEq,Nat.reduceEqDiff,Nat.reduceLT,Nat.reduceLeDiff,Nat.reduceDiv,reduceIte,reduceCtorEq, d1, d2, d3]
    have d2f := of_decide_eq_true d2
    have e1 : mayOpenP c e = 1 := by
      unfold mayOpenP
      rw [if_neg (by simp [d]), if_pos (by omega)]
    rw [e1]
    simp (maxSteps:=2000000) (disch:=omega) only [go_sem,Nat.reduceAdd,Nat.reduceSub,Nat.reduceMul,Nat.reduceBEq,Nat.reduceEqDiff,Nat.reduceLT,Nat.reduceLeDiff,Nat.reduceDiv,reduceIte,reduceCtorEq, d1, d2]
  have d1f := of_decide_eq_true d1
  have e1 : mayOpenP c e = 1 := by
    unfold mayOpenP
    rw [if_neg (by simp [d]), if_pos (by omega)]
  rw [e1]
  simp (maxSteps:=2000000) (disch:=omega) only [go_sem,Nat.reduceAdd,Nat.reduceSub,Nat.reduceMul,Nat.reduceBEq,Nat.reduceEqDiff,Nat.reduceLT,Nat.reduceLeDiff,Nat.reduceDiv,reduceIte,reduceCtorEq, d1]
end
section
open Go Go.RowKit Go.ChangeShapes Go.WideShapes
theorem u16_wf {z : Int} (h : (Lit.int .u16 z).wf = true) : U16 (UInt16.ofNat z.toNat) = z := by
  simp only [Lit.wf, Bool.and_eq_true, decide_eq_true_eq] at h
  have e1 : IntKind.u16.min = 0 := by kernel_rfl
  have e2 : IntKind.u16.max = 65535 := by kernel_rfl
  rw [e1, e2] at h
  unfold U16; rw [UInt16.toNat_ofNat']; omega
theorem ev_inv {cs : List Value} (h : All2 okV [some .i64, some .i64, some .i64, some .i64, some .u16, some .i64] cs) : ∃ e : Ev, cs.map C.val = evC e := by
  obtain ⟨_, l1, rfl, ⟨a, rfl, _⟩, h1⟩ := h.cons_inv
  obtain ⟨_, l2, rfl, ⟨b, rfl, _⟩, h2⟩ := h1.cons_inv
  obtain ⟨_, l3, rfl, ⟨c, rfl, _⟩, h3⟩ := h2.cons_inv
  obtain ⟨_, l4, rfl, ⟨d, rfl, _⟩, h4⟩ := h3.cons_inv
  obtain ⟨_, l5, rfl, ⟨x, rfl, hx⟩, h5⟩ := h4.cons_inv
  obtain ⟨_, l6, rfl, ⟨f, rfl, _⟩, h6⟩ := h5.cons_inv
  obtain rfl := h6.nil_inv
  refine ⟨⟨a, b, c, d, UInt16.ofNat x.toNat, f⟩, ?_⟩
  simp only [List.map_cons, List.map_nil, evC, u16_wf hx]
end
section
theorem bare1_h (e : Ev) : Holds Tryz.prog 43 [.ev e] [] (fun r h' => r = .w (.ev { e with player := 0, other := 0, n := 0 }) ∧ h' = []) := by
  refine holds_of_awp Tryz.func43 rfl (by decide +kernel) mixed Tryz.ntmps43 Tryz.results43 ?_
  refine zE ?_
  refine zs ?_;try exact trivial
theorem bare2_h (e : Ev) : Holds Tryz.prog 46 [.ev e] [] (fun r h' => r = .w (.ev { e with player := 0 }) ∧ h' = []) := by
  refine holds_of_awp Tryz.func46 rfl (by decide +kernel) mixed Tryz.ntmps46 Tryz.results46 ?_
  refine zE ?_
  refine zs ?_;try exact trivial
theorem bare3_h (e : Ev) : Holds Tryz.prog 49 [.ev e] [] (fun r h' => r = .w (.ev { e with player := 0, frame := 0, inp := 0 }) ∧ h' = []) := by
  refine holds_of_awp Tryz.func49 rfl (by decide +kernel) mixed Tryz.ntmps49 Tryz.results49 ?_
  refine zE ?_
  refine zs ?_;try exact trivial
  rfl
theorem bare4_h (e : Ev) : Holds Tryz.prog 52 [.ev e] [] (fun r h' => r = .w (.ev { e with player := 0 }) ∧ h' = []) := by
  refine holds_of_awp Tryz.func52 rfl (by decide +kernel) mixed Tryz.ntmps52 Tryz.results52 ?_
  refine zE ?_
  refine zs ?_;try exact trivial
theorem bare5_h (e : Ev) : Holds Tryz.prog 55 [.ev e] [] (fun r h' => r = .w (.ev { e with player := 0, n := 0 }) ∧ h' = []) := by
  refine holds_of_awp Tryz.func55 rfl (by decide +kernel) mixed Tryz.ntmps55 Tryz.results55 ?_
  refine zE ?_
  refine zs ?_;try exact trivial
def mayJoinP (c : Ct) (e : Ev) : Int := if actP c e.player ≠ 0 then actP c e.player else if 100 ≤ (if seatP c e.player = 0 then c.l0 else c.l1) then 17 else 0
theorem seat_cases (c : Ct) (x : Int) (h : 0 ≤ seatP c x) : seatP c x = 0 ∨ seatP c x = 1 := by unfold seatP at *; split at h <;> simp_all; split at h <;> simp_all
theorem act_seat {c : Ct} {x : Int} (h : actP c x = 0) : 0 ≤ seatP c x := by
  unfold actP at h
  split at h
  · omega
  split at h
  · omega
  split at h <;> omega
theorem mayJoin_h (c : Ct) (e : Ev) : Holds Tryz.prog 44 [.ptr (.arg 0) 0, .ev e] [(.arg 0, ctB (.arg 0) c)] (fun r h' => r = .int .i64 (mayJoinP c e) ∧ h' = [(.arg 0, ctB (.arg 0) c)]) := by
  refine holds_of_awp Tryz.func44 rfl (by decide +kernel) mixed Tryz.ntmps44 Tryz.results44 ?_
  refine zE ?_
  refine zs ?_;try exact trivial
  refine a_call [.arg 0] (mayAct_h c e) (ok1 rfl) ?_ ?_ ?_
  · refine zs ?_;try exact trivial
  · refine zs ?_;try exact trivial
  rintro _ _ ⟨rfl, rfl⟩
  refine zs ?_;try exact trivial
  refine c_dec (fun h => ?_) (fun h => ?_)
  · have e1 : mayJoinP c e = actP c e.player := by unfold mayJoinP; rw [if_pos (by omega)]
    rw [e1]
    refine zs ?_;try exact trivial
  have ha : actP c e.player = 0 := by omega
  have hs := act_seat ha
  refine zs ?_;try exact trivial
  refine a_drawC (⟨[U, U, U, U, U, U, U, U, U, U, U, U, U, U, U, U, U, U, U, U, U, U, V.bool (decide (100 ≤ (if seatP c e.player = 0 then c.l0 else c.l1)))], [(.arg 0, ctB (.arg 0) c)]⟩) (.take 0 (.take 1 (.take 2 (.take 5 (.take 6 (.take 7 (.both [(3, .both [(4, .take 8 (.take 9 (.take 10 (.done))))])]))))))) (by kernel_rfl) (by kernel_rfl) ?_ ?_
  · refine zc ?_;try exact trivial
    repeat' (with_reducible apply And.intro)
    all_goals (
      refine a_call [.arg 0] (seat_h c e.player) (ok1 rfl) ?_ ?_ ?_
      · refine zs ?_;try exact trivial
      · refine zs ?_;try exact trivial
      rintro _ _ ⟨rfl, rfl⟩
      rcases seat_cases c e.player hs with q | q
      · rw [q]
        refine zc ?_;try exact trivial
      rw [q]
      (refine zc ?_; try exact trivial))
  refine zs ?_;try exact trivial
  refine c_dec (fun h2 => ?_) (fun h2 => ?_)
  · have e1 : mayJoinP c e = 17 := by unfold mayJoinP; rw [if_neg (by omega), if_pos h2]
    rw [e1]
    refine zs ?_;try exact trivial
  have e1 : mayJoinP c e = 0 := by unfold mayJoinP; rw [if_neg (by omega), if_neg h2]
  rw [e1]
  refine zs ?_;try exact trivial
theorem mayForfeit_h (c : Ct) (e : Ev) : Holds Tryz.prog 50 [.ptr (.arg 0) 0, .ev e] [(.arg 0, ctB (.arg 0) c)] (fun r h' => r = .int .i64 (actP c e.player) ∧ h' = [(.arg 0, ctB (.arg 0) c)]) := by
  refine holds_of_awp Tryz.func50 rfl (by decide +kernel) mixed Tryz.ntmps50 Tryz.results50 ?_
  refine zE ?_
  refine zs ?_;try exact trivial
  refine a_call [.arg 0] (mayAct_h c e) (ok1 rfl) ?_ ?_ ?_
  · refine zs ?_;try exact trivial
  · refine zs ?_;try exact trivial
  rintro _ _ ⟨rfl, rfl⟩
  refine zs ?_;try exact trivial
def joinP (c : Ct) (e : Ev) : Ct := if seatP c e.player = 0 then { c with l0 := c.l0 + 1 } else { c with l1 := c.l1 + 1 }
def forfeitP (c : Ct) (e : Ev) : Ct := { c with over := true, winner := 1 - seatP c e.player, why := 3 }
def resultP (c : Ct) (e : Ev) : Ct := { c with over := true, winner := seatP c e.player, why := e.n }
theorem join_h (c : Ct) (e : Ev) (hs : 0 ≤ seatP c e.player) (h0 : 0 ≤ c.l0 ∧ c.l0 ≤ 1000) (h1 : 0 ≤ c.l1 ∧ c.l1 ≤ 1000) : Holds Tryz.prog 45 [.ptr (.arg 0) 0, .ev e] [(.arg 0, ctB (.arg 0) c)] (fun r h' => r = .tup [] ∧ h' = [(.arg 0, ctB (.arg 0) (joinP c e))]) := by
  refine holds_of_awp Tryz.func45 rfl (by decide +kernel) mixed Tryz.ntmps45 Tryz.results45 ?_
  refine zE ?_
  refine zs ?_;try exact trivial
  refine a_drawC (⟨[U, U, U, U, U, U, U, U, U, U, U, U, U, U, U, U, U, U, .undef], [(.arg 0, ctB (.arg 0) (joinP c e))]⟩) (.take 0 (.take 1 (.take 2 (.take 5 (.take 6 (.take 7 (.take 11 (.take 12 (.take 13 (.both [(3, .both [(4, .take 8 (.both [(9, .take 10 (.take 14 (.both [(15, .done)])))]))])])))))))))) (by kernel_rfl) (by kernel_rfl) ?_ ?_
  · refine zc ?_;try exact trivial
    repeat' (with_reducible apply And.intro)
    all_goals first | omega | skip
    all_goals (
      refine a_call [.arg 0] (seat_h c e.player) (ok1 rfl) ?_ ?_ ?_
      · refine zs ?_;try exact trivial
      · refine zs ?_;try exact trivial
      rintro _ _ ⟨rfl, rfl⟩
      rcases seat_cases c e.player hs with q | q
      · have ej : joinP c e = { c with l0 := c.l0 + 1 } := by simp [joinP, q]
        rw [ej, q]
        refine zc ?_;try exact trivial
      have ej : joinP c e = { c with l1 := c.l1 + 1 } := by simp [joinP, q]
      rw [ej, q]
      (refine zc ?_; try exact trivial))
  refine zs ?_;try exact trivial
theorem forfeit_h (c : Ct) (e : Ev) (hs : 0 ≤ seatP c e.player) : Holds Tryz.prog 51 [.ptr (.arg 0) 0, .ev e] [(.arg 0, ctB (.arg 0) c)] (fun r h' => r = .tup [] ∧ h' = [(.arg 0, ctB (.arg 0) (forfeitP c e))]) := by
  refine holds_of_awp Tryz.func51 rfl (by decide +kernel) mixed Tryz.ntmps51 Tryz.results51 ?_
  refine zE ?_
  refine zs ?_;try exact trivial
  refine a_call [.arg 0] (seat_h c e.player) (ok1 rfl) ?_ ?_ ?_
  · refine zs ?_;try exact trivial
  · refine zs ?_;try exact trivial
  rintro _ _ ⟨rfl, rfl⟩
  rcases seat_cases c e.player hs with q | q
  · have ej : forfeitP c e = { c with over := true, winner := 1, why := 3 } := by simp [forfeitP, q]
    rw [ej, q]
    refine zc ?_;try exact trivial
  have ej : forfeitP c e = { c with over := true, winner := 0, why := 3 } := by simp [forfeitP, q]
  rw [ej, q]
  refine zc ?_;try exact trivial
theorem result_h (c : Ct) (e : Ev) (hs : 0 ≤ seatP c e.player) : Holds Tryz.prog 54 [.ptr (.arg 0) 0, .ev e] [(.arg 0, ctB (.arg 0) c)] (fun r h' => r = .tup [] ∧ h' = [(.arg 0, ctB (.arg 0) (resultP c e))]) := by
  refine holds_of_awp Tryz.func54 rfl (by decide +kernel) mixed Tryz.ntmps54 Tryz.results54 ?_
  refine zE ?_
  refine zs ?_;try exact trivial
  refine a_drawC (⟨[U, U, U, U, U, U, U, U, U, U, U, U, U, U, U, U, U, U, U, U, U, .undef], [(.arg 0, ctB (.arg 0) (resultP c e))]⟩) (.take 0 (.take 1 (.take 2 (.take 3 (.take 4 (.take 7 (.both [(5, .both [(6, .take 9 (.take 10 (.take 11 (.both [(8, .both [(12, .take 13 (.take 14 (.take 15 (.both [(16, .take 17 (.take 18 (.take 19 (.both [(20, .done)]))))]))))]), (12, .take 13 (.take 14 (.take 15 (.both [(8, .both [(16, .take 17 (.take 18 (.take 19 (.both [(20, .done)]))))]), (16, .both [(8, .take 17 (.take 18 (.take 19 (.both [(20, .done)]))))])]))))])))), (8, .both [(6, .take 9 (.take 10 (.take 11 (.both [(12, .take 13 (.take 14 (.take 15 (.both [(16, .take 17 (.take 18 (.take 19 (.both [(20, .done)]))))]))))]))))])]), (8, .both [(5, .both [(6, .take 9 (.take 10 (.take 11 (.both [(12, .take 13 (.take 14 (.take 15 (.both [(16, .take 17 (.take 18 (.take 19 (.both [(20, .done)]))))]))))]))))])])]))))))) (by kernel_rfl) (by kernel_rfl) ?_ ?_
  · refine zc ?_;try exact trivial
    repeat' (with_reducible apply And.intro)
    all_goals first | omega | skip
    all_goals (
      refine a_call [.arg 0] (seat_h c e.player) (ok1 rfl) ?_ ?_ ?_
      · refine zs ?_;try exact trivial
      · refine zs ?_;try exact trivial
      rintro _ _ ⟨rfl, rfl⟩
      rcases seat_cases c e.player hs with q | q
      · have ej : resultP c e = { c with over := true, winner := 0, why := e.n } := by simp [resultP, q]
        rw [ej, q]
        refine zc ?_;try exact trivial
      have ej : resultP c e = { c with over := true, winner := 1, why := e.n } := by simp [resultP, q]
      rw [ej, q]
      (refine zc ?_; try exact trivial))
  refine zs ?_;try exact trivial
def resP (s : Sta) (cap : Int) : Int × Int × Bool := if s.over = false then (0, 0, false) else (if s.win = 2 then 0 else s.win, if s.frame = cap then 2 else 1, true)
theorem dresult_h (s : Sta) (cap fuel : Int) (o : Own) (nl : Option Bool) (l : List (Int × Int)) : Holds Tryz.prog 67 [.agg ((sd s).map D.toC), .agg [.lst .no none 2 (ins l), .val (.int .i64 cap), .val (.int .i64 fuel)]] [] (fun r h' => r = .tup [.int .i64 (resP s cap).1, .int .i64 (resP s cap).2.1, .c (.val (.bool (resP s cap).2.2))] ∧ h' = []) := by
  refine holds_of_awp Tryz.func67 rfl (by decide +kernel) mixed Tryz.ntmps67 Tryz.results67 ?_
  refine zE ?_
  refine zs ?_;try exact trivial
  refine c_b (fun d => ?_) (fun d => ?_)
  · have d' : s.over = false := by simpa using d
    have e : resP s cap = (0, 0, false) := by unfold resP; rw [if_pos d']
    rw [e]
    refine zs ?_;try exact trivial
  have d' : s.over = true := by simpa using d
  refine zs ?_;try exact trivial
  refine c_dec (fun w => ?_) (fun w => ?_)
  · refine zs ?_;try exact trivial
    refine c_dec (fun f => ?_) (fun f => ?_)
    · have e : resP s cap = (0, 2, true) := by unfold resP; rw [if_neg (by simp [d']), if_pos w, if_pos f]
      rw [e]
      refine zs ?_;try exact trivial
    have e : resP s cap = (0, 1, true) := by unfold resP; rw [if_neg (by simp [d']), if_pos w, if_neg f]
    rw [e]
    refine zs ?_;try exact trivial
  refine zs ?_;try exact trivial
  refine c_dec (fun f => ?_) (fun f => ?_)
  · have e : resP s cap = (s.win, 2, true) := by unfold resP; rw [if_neg (by simp [d']), if_neg w, if_pos f]
    rw [e]
    refine zs ?_;try exact trivial
  have e : resP s cap = (s.win, 1, true) := by unfold resP; rw [if_neg (by simp [d']), if_neg w, if_neg f]
  rw [e]
  refine zs ?_;try exact trivial
/-- may this be the result? -/
def mayResultP (c : Ct) (e : Ev) : Int :=
  if c.opn = false then 15 else if c.over = true then 12 else if (resP c.st c.cap).2.2 = false then 15
  else if e.player ≠ (if (resP c.st c.cap).1 = 0 then c.p0 else c.p1) ∨ e.n ≠ (resP c.st c.cap).2.1 then 18 else 0
set_option maxHeartbeats 1000000 in
theorem mayResult_h (c : Ct) (e : Ev) (hw : 0 ≤ c.st.win ∧ c.st.win ≤ 2) : Holds Tryz.prog 53 [.ptr (.arg 0) 0, .ev e] [(.arg 0, ctB (.arg 0) c)] (fun r h' => r = .int .i64 (mayResultP c e) ∧ h' = [(.arg 0, ctB (.arg 0) c)]) := by
  refine holds_of_awp Tryz.func53 rfl (by decide +kernel) mixed Tryz.ntmps53 Tryz.results53 ?_
  refine zE ?_
  refine zs ?_;try exact trivial
  refine a_drawC (⟨[V.cell (.ptr (.arg 0) 0), .undef, .undef, V.cell (.ptr (.loc [3]) 0), .undef, V.int .i64 (resP c.st c.cap).1, V.int .i64 (resP c.st c.cap).2.1, V.bool (resP c.st c.cap).2.2, U, U, U, U, U, U, U, U, U, U, U, U, U, U, U, U, U, U, U, U, U, U, U, U, U, U, U, U, U, U, U, U, U, U, U, U, U, U, U, U, U, U, U, U, U, .undef], [(.loc [3], evC e), (.arg 0, ctB (.arg 0) c)]⟩) (.take 0 (.take 1 (.take 2 (.take 4 (.take 5 (.take 6 (.both [(3, .both [(7, .both [(8, .take 9 (.take 10 (.take 11 (.take 12 (.take 13 (.take 14 (.take 15 (.done))))))))])]), (7, .both [(3, .both [(8, .take 9 (.take 10 (.take 11 (.take 12 (.take 13 (.take 14 (.take 15 (.done))))))))])])]))))))) (by kernel_rfl) (by kernel_rfl) ?_ ?_
  · refine zc ?_;try exact trivial
    repeat' (with_reducible apply And.intro)
    all_goals (
      refine a_call [] (dresult_h c.st c.cap c.fuel .no none c.code) ok0 ?_ ?_ ?_
      · refine zs ?_;try exact trivial
      · refine zs ?_;try exact trivial
      rintro _ _ ⟨rfl, rfl⟩
      (refine zc ?_; try exact trivial))
  have hb : (resP c.st c.cap).1 = 0 ∨ (resP c.st c.cap).1 = 1 := by
    unfold resP
    split
    · exact .inl rfl
    split
    · exact .inl rfl
    show c.st.win = 0 ∨ c.st.win = 1; omega
  unfold mayResultP
  generalize resP c.st c.cap = q at *
  obtain ⟨w, y, o⟩ := q
  simp only at hb ⊢
  refine zs ?_;try exact trivial
  refine c_b (fun d => ?_) (fun d => ?_)
  · have d' : c.opn = false := by simpa using d
    rw [if_pos d']
    refine zs ?_;try exact trivial
  have d' : ¬ c.opn = false := by simpa using d
  rw [if_neg d']
  refine zs ?_;try exact trivial
  refine c_b (fun d2 => ?_) (fun d2 => ?_)
  · rw [if_pos d2]
    refine zs ?_;try exact trivial
  rw [if_neg (by simp [d2])]
  cases o
  · rw [if_pos rfl]
    refine zc ?_;try exact trivial
  rw [if_neg (by simp)]
  refine zc ?_;try exact trivial
  refine a_drawC (⟨[U, U, U, U, U, U, U, U, U, U, U, U, U, U, U, U, U, U, U, U, U, U, U, U, U, U, U, U, U, U, U, U, U, U, U, U, U, V.bool (decide (e.player ≠ (if w = 0 then c.p0 else c.p1) ∨ e.n ≠ y)), U, U, U, U, U, U, U, U, U, U, U, U, U, U, U, .undef], [(.arg 0, ctB (.arg 0) c)]⟩) (.take 0 (.take 1 (.take 2 (.take 3 (.take 4 (.take 5 (.take 6 (.take 7 (.take 8 (.take 9 (.take 10 (.take 11 (.take 12 (.take 13 (.take 14 (.take 15 (.take 16 (.done)))))))))))))))))) (by kernel_rfl) (by kernel_rfl) ?_ ?_
  · rcases hb with rfl | rfl
    · by_cases q : e.player = c.p0
      · simp (maxSteps:=2000000) (disch:=omega) only [go_sem,Nat.reduceAdd,Nat.reduceSub,Nat.reduceMul,Nat.reduceBEq,Nat.reduceEqDiff,Nat.reduceLT,Nat.reduceLeDiff,Nat.reduceDiv,reduceIte,reduceCtorEq, q, not_true_eq_false, not_false_eq_true, decide_true, decide_false, true_or, false_or]
      simp (maxSteps:=2000000) (disch:=omega) only [go_sem,Nat.reduceAdd,Nat.reduceSub,Nat.reduceMul,Nat.reduceBEq,Nat.reduceEqDiff,Nat.reduceLT,Nat.reduceLeDiff,Nat.reduceDiv,reduceIte,reduceCtorEq, q, not_true_eq_false, not_false_eq_true, decide_true, decide_false, true_or, false_or]
    by_cases q : e.player = c.p1
    · simp (maxSteps:=2000000) (disch:=omega) only [go_sem,Nat.reduceAdd,Nat.reduceSub,Nat.reduceMul,Nat.reduceBEq,Nat.reduceEqDiff,Nat.reduceLT,Nat.reduceLeDiff,Nat.reduceDiv,reduceIte,reduceCtorEq, q, Int.reduceEq, not_true_eq_false, not_false_eq_true, decide_true, decide_false, true_or, false_or]
    simp (maxSteps:=2000000) (disch:=omega) only [go_sem,Nat.reduceAdd,Nat.reduceSub,Nat.reduceMul,Nat.reduceBEq,Nat.reduceEqDiff,Nat.reduceLT,Nat.reduceLeDiff,Nat.reduceDiv,reduceIte,reduceCtorEq, q, Int.reduceEq, not_true_eq_false, not_false_eq_true, decide_true, decide_false, true_or, false_or]
  refine zs ?_;try exact trivial
  refine c_dec (fun h => ?_) (fun h => ?_)
  · rw [if_pos h]
    refine zs ?_;try exact trivial
  rw [if_neg h]
  refine zs ?_;try exact trivial
end
section
section
variable {K : V → St → Prop} {d : Nat} {s : St} {o : Own} {nl : Option Bool}
@[go_sem ↓ 900] theorem e_apM {z : List C} {b sz : Nat} {xs : List D} {x : V} (h : 2 ≤ sz) : aAp2 (some z) (some (b + 1)) o nl sz xs sz x d s K = (z.length = sz ∧ o ≠ .no ∧ aSrc sz x s fun ys =>
    (xs.length + ys.length) / sz * (b + 1) ≤ 140737488355328 ∧ K (.cell (.lst (.tag (.slot [d])) (nlA nl) sz (xs ++ ys))) (s.clean (fun _ => false) (killT o d))) := by
  have h0 : 0 < sz := by omega
  simp [aAp2, h0]
@[go_sem ↓ 900] theorem e_srcM {sz : Nat} {ys : List D} {J : List D → Prop} : aSrc sz (.cell (.lst o nl sz ys)) s J = J ys := by simp [aSrc]
/-- onto nil -/
@[go_sem ↓ 890] theorem e_apM0 {z : List C} {b sz sz' : Nat} {x : V} (h : 2 ≤ sz) : aAp2 (some z) (some (b + 1)) .full nl sz' [] sz x d s K = (z.length = sz ∧ aSrc sz x s fun ys =>
    ys.length / sz * (b + 1) ≤ 140737488355328 ∧ K (.cell (.lst (.tag (.slot [d])) (nlA nl) sz ys)) (s.clean (fun _ => false) (killT .full d))) := by
  have h0 : 0 < sz := by omega
  simp [aAp2, h0]
end
end
section
@[go_sem] theorem evs_len {l : List Ev} : (evs l).length = l.length * 6 := by
  induction l with
  | nil => rfl
  | cons s l ih => rw [show evs (s :: l) = evD s ++ evs l by simp [evs], List.length_append, ih, List.length_cons]; simp [evD]; omega
@[go_sem] theorem prs_len {l : List (UInt16 × UInt16)} : (prs l).length = l.length * 2 := by
  induction l with
  | nil => rfl
  | cons s l ih => rw [show prs (s :: l) = prD s ++ prs l by simp [prs], List.length_append, ih, List.length_cons]; simp [prD]; omega
set_option maxHeartbeats 1000000 in
theorem cloneU_h (l : List UInt16) (hb : l.length ≤ 100000000) : Holds Tryz.prog 59 [.c (.lst .no none 1 (ls fU l))] [] (fun v h' => v = .cell (.lst (.tag (.slot [7])) none 1 (ls fU l)) ∧ h' = []) := by
  refine holds_of_awp Tryz.func59 rfl (by decide +kernel) mixed Tryz.ntmps59 Tryz.results59 ?_
  refine zE ?_
  refine zs ?_;try exact trivial
  refine ⟨fun e => ?_, ?_⟩
  · exact e
  refine a_apA ?_
  refine zs ?_;try exact trivial
  try omega
set_option maxHeartbeats 1000000 in
theorem cloneI_h (l : List (Int × Int)) (hb : l.length ≤ 100000000) : Holds Tryz.prog 21 [.c (.lst .no none 2 (ins l))] [] (fun v h' => v = .cell (.lst (.tag (.slot [7])) none 2 (ins l)) ∧ h' = []) := by
  refine holds_of_awp Tryz.func21 rfl (by decide +kernel) mixed Tryz.ntmps21 Tryz.results21 ?_
  refine zE ?_
  refine zs ?_;try exact trivial
  refine ⟨fun e => ?_, ?_⟩
  · rw [e]; simp [leC]; rfl
  refine a_apA ?_
  refine zs ?_;try exact trivial
  try omega
set_option maxHeartbeats 1000000 in
theorem cloneE_h (l : List Ev) (hb : l.length ≤ 100000000) : Holds Tryz.prog 35 [.c (.lst .no none 6 (evs l))] [] (fun v h' => v = .cell (.lst (.tag (.slot [7])) none 6 (evs l)) ∧ h' = []) := by
  refine holds_of_awp Tryz.func35 rfl (by decide +kernel) mixed Tryz.ntmps35 Tryz.results35 ?_
  refine zE ?_
  refine zs ?_;try exact trivial
  refine ⟨fun e => ?_, ?_⟩
  · rw [e]; simp [leC]; rfl
  refine a_apA ?_
  refine zs ?_;try exact trivial
  try omega
set_option maxHeartbeats 1000000 in
theorem cloneP_h (l : List (UInt16 × UInt16)) (hb : l.length ≤ 100000000) : Holds Tryz.prog 56 [.c (.lst .no none 2 (prs l))] [] (fun v h' => v = .cell (.lst (.tag (.slot [7])) none 2 (prs l)) ∧ h' = []) := by
  refine holds_of_awp Tryz.func56 rfl (by decide +kernel) mixed Tryz.ntmps56 Tryz.results56 ?_
  refine zE ?_
  refine zs ?_;try exact trivial
  refine ⟨fun e => ?_, ?_⟩
  · rw [e]; simp [leC]; rfl
  refine a_apA ?_
  refine zs ?_;try exact trivial
  try omega
theorem state_h (c : Ct) : Holds Tryz.prog 18 [.ptr (.arg 0) 0] [(.arg 0, ctB (.arg 0) c)] (fun r h' => r = .w (.agg ((sd c.st).map D.toC)) ∧ h' = [(.arg 0, ctB (.arg 0) c)]) := by
  refine holds_of_awp Tryz.func18 rfl (by decide +kernel) mixed Tryz.ntmps18 Tryz.results18 ?_
  refine zE ?_
  refine zs ?_;try exact trivial
abbrev statC (c : Ct) : List C := [.val (.int .i64 c.p0), .val (.int .i64 c.p1), .val (.int .u32 (U32 c.seed)), .val (.int .i64 c.l0), .val (.int .i64 c.l1), .val (.int .i64 c.in0.length), .val (.int .i64 c.in1.length), .val (.bool c.over), .val (.int .i64 c.winner), .val (.int .i64 c.why), .val (.bool c.opn)]
theorem status_h (c : Ct) : Holds Tryz.prog 17 [.ptr (.arg 0) 0] [(.arg 0, ctB (.arg 0) c)] (fun r h' => r = .w (.agg (statC c)) ∧ h' = [(.arg 0, ctB (.arg 0) c)]) := by
  refine holds_of_awp Tryz.func17 rfl (by decide +kernel) mixed Tryz.ntmps17 Tryz.results17 ?_
  refine zE ?_
  refine zs ?_;try exact trivial
def owesP (c : Ct) (x : Int) : Bool := c.opn && !(c.over || c.st.over) && (if seatP c x = 0 then decide (c.in0.length ≤ c.in1.length) else if seatP c x = 1 then decide (c.in1.length ≤ c.in0.length) else false)
theorem owes_h (c : Ct) (x : Int) : Holds Tryz.prog 23 [.ptr (.arg 0) 0, .int .i64 x] [(.arg 0, ctB (.arg 0) c)] (fun r h' => r = V.bool (owesP c x) ∧ h' = [(.arg 0, ctB (.arg 0) c)]) := by
  refine holds_of_awp Tryz.func23 rfl (by decide +kernel) mixed Tryz.ntmps23 Tryz.results23 ?_
  refine zE ?_
  refine zs ?_;try exact trivial
  cases dn : (!c.opn)
  · have do1 : c.opn = true := by simpa using dn
    simp (maxSteps:=2000000) (disch:=omega) only [go_sem,Nat.reduceAdd,Nat.reduceSub,Nat.reduceMul,Nat.reduceBEq,Nat.reduceEqDiff,Nat.reduceLT,Nat.reduceLeDiff,Nat.reduceDiv,reduceIte,reduceCtorEq, dn]
    refine a_call [.arg 0] (ended_h c) (ok1 rfl) ?_ ?_ ?_
    · refine zs ?_;try exact trivial
    · refine zs ?_;try exact trivial
    rintro _ _ ⟨rfl, rfl⟩
    cases d2 : (c.over || c.st.over)
    · simp (maxSteps:=2000000) (disch:=omega) only [go_sem,Nat.reduceAdd,Nat.reduceSub,Nat.reduceMul,Nat.reduceBEq,Nat.reduceEqDiff,Nat.reduceLT,Nat.reduceLeDiff,Nat.reduceDiv,reduceIte,reduceCtorEq, d2]
      refine a_call [.arg 0] (seat_h c x) (ok1 rfl) ?_ ?_ ?_
      · refine zs ?_;try exact trivial
      · refine zs ?_;try exact trivial
      rintro _ _ ⟨rfl, rfl⟩
      refine zs ?_;try exact trivial
      refine a_quiet (by kernel_rfl) (by kernel_rfl) (by kernel_rfl) ?_
      by_cases q0 : seatP c x = 0
      · have e : owesP c x = decide ((c.in0.length : Int) ≤ (c.in1.length : Int)) := by
          unfold owesP
          rw [do1, d2, if_pos q0]
          simp
        rw [q0, e]
        simp (maxSteps:=2000000) (disch:=omega) only [go_sem,Nat.reduceAdd,Nat.reduceSub,Nat.reduceMul,Nat.reduceBEq,Nat.reduceEqDiff,Nat.reduceLT,Nat.reduceLeDiff,Nat.reduceDiv,reduceIte,reduceCtorEq, Int.reduceLE, decide_true]
        refine zc ?_;try exact trivial
      by_cases q1 : seatP c x = 1
      · have e : owesP c x = decide ((c.in1.length : Int) ≤ (c.in0.length : Int)) := by
          unfold owesP
          rw [do1, d2, if_neg q0, if_pos q1]
          simp
        rw [q1, e]
        simp (maxSteps:=2000000) (disch:=omega) only [go_sem,Nat.reduceAdd,Nat.reduceSub,Nat.reduceMul,Nat.reduceBEq,Nat.reduceEqDiff,Nat.reduceLT,Nat.reduceLeDiff,Nat.reduceDiv,reduceIte,reduceCtorEq, Int.reduceLE, decide_true]
        refine zc ?_;try exact trivial
      have qn : decide (0 ≤ seatP c x) = false := by
        rw [decide_eq_false_iff_not]
        intro h
        rcases seat_cases c x h with h | h <;> contradiction
      have e : owesP c x = false := by unfold owesP; rw [do1, d2, if_neg q0, if_neg q1]; rfl
      rw [e]
      simp (maxSteps:=2000000) (disch:=omega) only [go_sem,Nat.reduceAdd,Nat.reduceSub,Nat.reduceMul,Nat.reduceBEq,Nat.reduceEqDiff,Nat.reduceLT,Nat.reduceLeDiff,Nat.reduceDiv,reduceIte,reduceCtorEq, qn]
    have e : owesP c x = false := by unfold owesP; rw [do1, d2]; rfl
    rw [e]
    simp (maxSteps:=2000000) (disch:=omega) only [go_sem,Nat.reduceAdd,Nat.reduceSub,Nat.reduceMul,Nat.reduceBEq,Nat.reduceEqDiff,Nat.reduceLT,Nat.reduceLeDiff,Nat.reduceDiv,reduceIte,reduceCtorEq, d2]
  have do1 : c.opn = false := by simpa using dn
  have e : owesP c x = false := by unfold owesP; rw [do1]; rfl
  rw [e]
  simp (maxSteps:=2000000) (disch:=omega) only [go_sem,Nat.reduceAdd,Nat.reduceSub,Nat.reduceMul,Nat.reduceBEq,Nat.reduceEqDiff,Nat.reduceLT,Nat.reduceLeDiff,Nat.reduceDiv,reduceIte,reduceCtorEq, dn]
theorem events_h (c : Ct) (hb : c.events.length ≤ 100000000) : Holds Tryz.prog 15 [.ptr (.arg 0) 0] [(.arg 0, ctB (.arg 0) c)] (fun r h' => r = .cell (.lst .no none 6 (evs c.events)) ∧ h' = [(.arg 0, ctB (.arg 0) c)]) := by
  refine holds_of_awp Tryz.func15 rfl (by decide +kernel) mixed Tryz.ntmps15 Tryz.results15 ?_
  refine zE ?_
  refine zs ?_;try exact trivial
  refine a_call [] (cloneE_h c.events hb) ok0 ?_ ?_ ?_
  · refine zs ?_;try exact trivial
  · refine zs ?_;try exact trivial
  rintro _ _ ⟨rfl, rfl⟩
  refine zs ?_;try exact trivial
end
end Go.Proofs.YtamcjecgkfmjkaaGreat
