/- Parts of a proof: The logic: lists of rows of bytes, lists of numbers, The logic: rules for signed numbers, From the logic to the rows of the laws: rows of structs of numbers, Numbers of both signs as digits of seven bits, in plain words, The logic: states of a game as rows of twenty cells, What the logic asks of the types of this program, The logic: rows of instructions (two numbers each), The logic: cells laid over rows that are joined of parts; cells of a state, Chapter 18: the cells of a Contest (written by genbox.py). -/
import Derived.Test.YtamcjecgkfmjkaaMFo2
import Derived.Deep.Slices
import Derived.Test.YtamcjecgkfmjkaaProg
/- The logic: lists of rows of bytes, lists of numbers. -/
open Go Go.RowKit
namespace Go.Proofs.Ytamcjecgkfmjkaa
set_option linter.unusedSimpArgs false

def ls {α : Type} (f : α → D) (xs : List α) : List D := xs.map f
def fB (bs : List UInt8) : D := .lst none 1 (byt bs)
def fI (n : Int) : D := .val (.int .i64 n)
abbrev W.rws (xs : List (List UInt8)) : W := .c (.lst .no none 1 (ls fB xs))
abbrev W.nums (xs : List Int) : W := .c (.lst .no none 1 (ls fI xs))
section
variable {α : Type} {f : α → D} {xs ys : List α}
@[go_sem] theorem ls_nil : ls f [] = [] := nr rfl
@[go_sem] theorem ls_len : (ls f xs).length = xs.length := by simp [ls]
@[go_sem] theorem ls_app : ls f xs ++ ls f ys = ls f (xs ++ ys) := by simp [ls]
@[go_sem] theorem ls_take {n : Nat} : (ls f xs).take n = ls f (xs.take n) := by simp [ls]
@[go_sem] theorem ls_drop {n : Nat} : (ls f xs).drop n = ls f (xs.drop n) := by simp [ls]
theorem ls_get {i : Nat} {d : α} (h : i < xs.length) {V' : C → Prop} : (∃ c, ((ls f (xs.drop i)).map D.toC)[0]? = some c ∧ V' c) = V' (f (xs.getD i d)).toC := by
  rw [List.drop_eq_getElem_cons h]
  simp [ls, h]
@[go_sem] theorem ls_app1B {l : List (List UInt8)} {b : List UInt8} : ls fB l ++ [D.lst none 1 (byt b)] = ls fB (l ++ [b]) := by simp [ls, fB]
@[go_sem] theorem ls_app1I {l : List Int} {n : Int} : ls fI l ++ [D.val (.int .i64 n)] = ls fI (l ++ [n]) := by simp [ls, fI]
@[go_sem ↓ 1200] theorem e_lsB {l : List (List UInt8)} {i : Nat} {V' : C → Prop} (h : i < l.length) : (∃ c, ((ls fB (l.drop i)).map D.toC)[0]? = some c ∧ V' c) = V' (.lst .no none 1 (byt (l.getD i []))) := ls_get h
@[go_sem ↓ 1200] theorem e_lsB2 {l : List (List UInt8)} {i : Nat} {V' : C → Prop} (h : i < l.length) : (∃ c, (((ls fB l).drop i).map D.toC)[0]? = some c ∧ V' c) = V' (.lst .no none 1 (byt (l.getD i []))) := by rw [ls_drop]; exact ls_get h
@[go_sem ↓ 1200] theorem e_lsI {l : List Int} {i : Nat} {V' : C → Prop} (h : i < l.length) : (∃ c, ((ls fI (l.drop i)).map D.toC)[0]? = some c ∧ V' c) = V' (.val (.int .i64 (l.getD i 0))) := ls_get h
@[go_sem ↓ 1200] theorem e_lsI2 {l : List Int} {i : Nat} {V' : C → Prop} (h : i < l.length) : (∃ c, (((ls fI l).drop i).map D.toC)[0]? = some c ∧ V' c) = V' (.val (.int .i64 (l.getD i 0))) := by rw [ls_drop]; exact ls_get h
variable {P : Program} {V' : V → Prop} {o : Own} {nl : Option Bool} {k : IntKind} {a b : Int} {t : TypeId}
@[go_sem ↓ 1200] theorem e_IA1l {i : Int} (h0 : 0 ≤ i) (h1 : i < xs.length) : aIA (some (none, t, 1)) (.cell (.lst o nl 1 (ls f xs))) i V' = V' (.cell (.mem ((ls f xs).drop i.toNat))) := by
  simp [aIA, h0, h1, ls_len]
@[go_sem ↓] theorem e_slHl (h0 : 0 ≤ b) (h1 : b ≤ xs.length) : aSlice P t (.cell (.lst o nl 1 (ls f xs))) none (some (V.int k b)) V' = (slB (idxT P t) ∧ V' (.cell (.lst .no nl 1 (ls f (xs.take b.toNat))))) := by
  rw [slB_eq]
  refine propext ⟨fun ⟨e, he, l, h, hl, hh, _, _, _, hk⟩ => ⟨⟨e, he⟩, ?_⟩, fun ⟨⟨e, he⟩, hk⟩ => ⟨e, he, 0, b, rfl, rfl, by omega, h0, by simp [ls]; omega, ?_⟩⟩
  · cases hl; cases hh; simpa [ls_take] using hk
  · simpa [ls_take] using hk
@[go_sem ↓] theorem e_slLl (h0 : 0 ≤ a) (h1 : a ≤ xs.length) : aSlice P t (.cell (.lst o nl 1 (ls f xs))) (some (V.int k a)) none V' = (slB (idxT P t) ∧ V' (.cell (.lst (cutO o) nl 1 (ls f (xs.drop a.toNat))))) := by
  rw [slB_eq]
  cases o <;> (refine propext ⟨fun ⟨e, he, l, h, hl, hh, _, _, _, hk⟩ => ⟨⟨e, he⟩, ?_⟩, fun ⟨⟨e, he⟩, hk⟩ => ⟨e, he, a, xs.length, rfl, by simp [bnd, ls], by omega, h1, by simp [ls], ?_⟩⟩) <;> first | (cases hl; cases hh; simpa [ls_len, ls_take, ls_drop, cutO] using hk) | (simpa [ls_len, ls_take, ls_drop, cutO] using hk)
@[go_sem ↓] theorem e_slNl : aSlice P t (.cell (.lst o nl 1 (ls f xs))) none none V' = (slB (idxT P t) ∧ V' (.cell (.lst (cutO o) nl 1 (ls f xs)))) := by
  rw [slB_eq]
  cases o <;> (refine propext ⟨fun ⟨e, he, l, h, hl, hh, _, _, _, hk⟩ => ⟨⟨e, he⟩, ?_⟩, fun ⟨⟨e, he⟩, hk⟩ => ⟨e, he, 0, xs.length, rfl, by simp [bnd, ls], by omega, by omega, by simp [ls], ?_⟩⟩) <;> first | (cases hl; cases hh; simpa [ls_len, ls_take, ls_drop, cutO] using hk) | (simpa [ls_len, ls_take, ls_drop, cutO] using hk)
@[go_sem ↓] theorem e_slLHl {k' : IntKind} (h0 : 0 ≤ a) (h1 : a ≤ b) (h2 : b ≤ xs.length) : aSlice P t (.cell (.lst o nl 1 (ls f xs))) (some (V.int k a)) (some (V.int k' b)) V' = (slB (idxT P t) ∧ V' (.cell (.lst .no nl 1 (ls f ((xs.take b.toNat).drop a.toNat))))) := by
  rw [slB_eq]
  refine propext ⟨fun ⟨e, he, l, h, hl, hh, _, _, _, hk⟩ => ⟨⟨e, he⟩, ?_⟩, fun ⟨⟨e, he⟩, hk⟩ => ⟨e, he, a, b, rfl, rfl, h0, h1, by simp [ls]; omega, ?_⟩⟩
  · cases hl; cases hh; simpa [ls] using hk
  · simpa [ls] using hk
end
theorem leH_nil (h : Heap) : leH [] h := fun i cs hi => by cases hi
theorem leH_hd (i : Id) (cs : List C) (h : Heap) : leH [(i, cs)] ((i, cs) :: h) := fun j ds hj => by
  simp only [hget] at hj
  split at hj
  · rename_i e; cases hj; subst e; exact ⟨cs, by simp [hget], leCs_refl cs⟩
  · cases hj
@[go_sem ↓] theorem w_D {l : List V} {h : Heap} {i : Id} {off : Nat} {cs : List C} {xs : List D} : St.stow ⟨l, h⟩ i off cs (xs.map D.toC) = ⟨l, hset h i (spl cs off (xs.map D.toC))⟩ := by
  have e : (xs.map D.toC).map (C.clean (fun _ => false) fun _ => true) = xs.map D.toC := k_D
  unfold St.stow
  split
  · rename_i τ nl sz ys hq
    cases xs with
    | nil => simp at hq
    | cons x xs => cases x <;> simp [D.toC] at hq
  · rename_i τ sz ys hq
    cases xs with
    | nil => simp at hq
    | cons x xs => cases x <;> simp [D.toC] at hq
  · rw [e]
/-! ### arrays of bytes -/
theorem a_eqByt {a b : List UInt8} {n : Nat} {J : Bool → Prop} (ha : a.length = n) (hb : b.length = n) (h : J (decide (a = b))) : aEqA (some (List.replicate n (some .u8))) ((byt a).map D.toC) ((byt b).map D.toC) J := by
  have key : ∀ (l : List UInt8) (n : Nat), l.length = n → All2 okK (List.replicate n (some .u8)) (l.map fun b => Value.int .u8 b.toNat) := by
    intro l
    induction l with
    | nil => intro n h; subst h; exact .nil
    | cons x l ih => intro n h; subst h; exact .cons ⟨_, rfl⟩ (ih _ rfl)
  have e : ∀ l : List UInt8, (byt l).map D.toC = (l.map fun b => Value.int .u8 (b.toNat : Int)).map C.val := by intro l; simp [byt, D.toC]
  refine ⟨_, _, _, rfl, e a, e b, key a n ha, key b n hb, fun c hc => ?_⟩
  have : c = decide (a = b) := by
    rw [Bool.eq_iff_iff, hc, decide_eq_true_iff]
    constructor
    · intro h
      refine byt_inj ?_
      have := congrArg (List.map D.val) h
      rw [List.map_map, List.map_map] at this
      exact this
    · rintro rfl; rfl
  rw [this]; exact h
/-! ### bytes in a box -/
section
variable {bs l : List UInt8} {c n k : Nat} {bi : Id → Bool} {bt : Tag → Bool} {ks : List Id} {d sz : Nat} {ta tb : Tag} {i : Id} {ds : List D}
/-- a box of c bytes, of which the first are known -/
def bx (bs : List UInt8) (c : Nat) : List C := (byt bs).map D.toC ++ List.replicate (c - bs.length) .undef
@[go_sem] theorem bx_len (h : bs.length ≤ c) : (bx bs c).length = c := by simp [bx, byt]; omega
/-- noughts -/
def zb (n : Nat) : List UInt8 := List.replicate n 0
@[go_sem] theorem zb_len {n : Nat} : (zb n).length = n := by simp [zb]
theorem bx_map {f : C → C} (h1 : ∀ d : D, f d.toC = d.toC) (h2 : f .undef = .undef) : (bx bs c).map f = bx bs c := by
  unfold bx
  rw [List.map_append, List.map_replicate, h2, List.map_map]
  congr 1
  exact List.map_congr_left fun d _ => h1 d
@[go_sem] theorem bx_clean : (bx bs c).map (C.clean bi bt) = bx bs c := bx_map (fun d => by cases d <;> rfl) rfl
@[go_sem] theorem bx_ren : (bx bs c).map (C.ren ks d) = bx bs c := bx_map (fun d => by cases d <;> rfl) rfl
@[go_sem] theorem bx_retag : (bx bs c).map (C.retag ta tb) = bx bs c := bx_map (fun d => by cases d <;> rfl) rfl
@[go_sem] theorem bx_frz : (bx bs c).map (C.frz i sz ds) = bx bs c := bx_map (fun d => by cases d <;> rfl) rfl
@[go_sem ↓ 1200] theorem bx_get {V' : C → Prop} (h : k < bs.length) : (∃ x, (bx bs c)[k]? = some x ∧ V' x) = V' (.val (.int .u8 (U8 (bs.getD k 0)))) := by
  have : (bx bs c)[k]? = some (.val (.int .u8 (U8 (bs.getD k 0)))) := by
    unfold bx
    rw [List.getElem?_append_left (by simp [byt]; exact h)]
    simp [byt, h, D.toC, U8]
  rw [this]; simp
theorem spl_set {α : Type} (l : List α) (k : Nat) (v : α) : spl l k [v] = l.set k v := rfl
@[go_sem ↓ 1200] theorem bx_set {v : UInt8} (h : k < bs.length) : spl (bx bs c) k [.val (.int .u8 (U8 v))] = bx (bs.set k v) c := by
  rw [spl_set]
  unfold bx
  rw [List.set_append_left _ _ (by simp [byt]; exact h), List.length_set]
  congr 1
  simp [byt, U8, D.toC]
@[go_sem ↓ 1100] theorem bx_setL {z : Int} (h : k < bs.length) (h0 : 0 ≤ z) (h1 : z < 256) : spl (bx bs c) k [.val (.int .u8 z)] = bx (bs.set k (UInt8.ofNat z.toNat)) c := by
  rw [← bx_set h]
  congr 5
  unfold U8
  rw [UInt8.toNat_ofNat']
  omega
@[go_sem ↓ 1200] theorem bx_app (h0 : n = bs.length) (h : bs.length + l.length ≤ c) : spl (bx bs c) n ((byt l).map D.toC) = bx (bs ++ l) c := by
  subst h0
  have hl : (bx bs c).length = c := bx_len (by omega)
  rw [spl_eq (by rw [hl]; simp [byt]; omega)]
  unfold bx
  rw [List.take_left' (by simp [byt]), List.drop_append, List.drop_eq_nil_of_le (by simp [byt])]
  simp only [List.nil_append, List.drop_replicate, List.length_map, byt_len, Nat.add_sub_cancel_left, List.length_append, ← byt_app, List.map_append, Nat.sub_sub]
@[go_sem ↓] theorem bx_mk : (byt bs).map D.toC ++ List.replicate (c - bs.length) .undef = bx bs c := nr rfl
@[go_sem ↓] theorem bx_mk2 : (byt (bs ++ l)).map D.toC ++ List.replicate (c - (bs.length + l.length)) .undef = bx (bs ++ l) c := by
  unfold bx; rw [List.length_append]
@[go_sem ↓ 1200] theorem bx_grow {c' : Nat} (h0 : n = bs.length) : (bx bs c).take n ++ (byt l).map D.toC ++ List.replicate (c' - (n + l.length)) .undef = bx (bs ++ l) c' := by
  subst h0
  unfold bx
  rw [List.take_left' (by simp [byt]), List.length_append, ← List.map_append, byt_app]
theorem lit8 {z : Int} (h0 : 0 ≤ z) (h1 : z < 256) : Value.int .u8 z = .int .u8 (U8 (UInt8.ofNat z.toNat)) := by
  unfold U8
  rw [UInt8.toNat_ofNat']
  congr 1
  omega
@[go_sem] theorem bx_pushL {z : Int} (hn : n = bs.length) (h : bs.length + 1 ≤ c) (h0 : 0 ≤ z) (h1 : z < 256) : (bx bs c).set n (.val (.int .u8 z)) = bx (bs ++ [UInt8.ofNat z.toNat]) c := by
  have := bx_app (bs := bs) (l := [UInt8.ofNat z.toNat]) (n := n) (c := c) hn (by simpa using h)
  rw [← this, lit8 h0 h1]; rfl
@[go_sem] theorem bx_setL' {z : Int} (h : n < bs.length) (h0 : 0 ≤ z) (h1 : z < 256) : (bx bs c).set n (.val (.int .u8 z)) = bx (bs.set n (UInt8.ofNat z.toNat)) c := bx_setL h h0 h1
@[go_sem 1100] theorem bx_set' {v : UInt8} (h : n < bs.length) : (bx bs c).set n (.val (.int .u8 (U8 v))) = bx (bs.set n v) c := bx_set h
@[go_sem] theorem bx_growL {c' : Nat} {z : Int} (hn : n = bs.length) (h0 : 0 ≤ z) (h1 : z < 256) : (bx bs c).take n ++ [.val (.int .u8 z)] ++ List.replicate (c' - (n + 1)) .undef = bx (bs ++ [UInt8.ofNat z.toNat]) c' := by
  have := bx_grow (bs := bs) (c := c) (l := [UInt8.ofNat z.toNat]) (n := n) (c' := c') hn
  rw [← this, lit8 h0 h1]; rfl
@[go_sem] theorem bx_oneL {z : Int} (h0 : 0 ≤ z) (h1 : z < 256) : C.val (.int .u8 z) :: List.replicate (c - 1) .undef = bx [UInt8.ofNat z.toNat] c := by
  rw [lit8 h0 h1]; rfl
@[go_sem ↓ 1200] theorem bx_over (h0 : bs.length = c) (h1 : l.length = c) : spl (bx bs c) 0 ((byt l).map D.toC) = bx l c := by
  have hl : (bx bs c).length = c := bx_len (by omega)
  rw [spl_eq (by rw [hl]; simp [byt]; omega)]
  unfold bx
  simp only [List.take_zero, List.nil_append, Nat.zero_add]
  rw [List.drop_eq_nil_of_le (by simp [byt]; omega), h1]
  simp
theorem frz_bx {s : St} (h : hget s.heap i = some (bx bs c)) : frzOK s i (byt bs) := frz_at h
@[go_sem ↓ 1200] theorem f_Rb (h0 : n = bs.length) (h1 : n ≤ c) (h2 : c ≤ maxLen) : frzR 1 (byt bs) 0 n c = .lst .no (some false) 1 (byt bs) := by
  subst h0
  rw [f_R h1 h2 (by rw [byt_len]; omega), List.drop_zero, ← byt_len bs, List.take_length]
end

/-! ### bytes of a box as a string -/
section
variable {P : Program} {K : V → St → Prop} {s : St} {t t' : TypeId} {bs : List UInt8} {c n : Nat} {i : Id}
theorem bx_cells {off : Nat} (h : off + n ≤ bs.length) : ((bx bs c).drop off).take n = ((bs.drop off).take n).map (fun b => C.val (.int .u8 b.toNat)) := by
  unfold bx
  rw [List.drop_append_of_le_length (by simp [byt]; omega), List.take_append_of_le_length (by simp [byt]; omega), ← List.map_drop, ← List.map_take]
  simp [byt, D.toC]
  rfl
@[go_sem ↓] theorem e_cvR {off n cp : Nat} : aConvS P t t' (.cell (.row i off n cp)) s K = (isSlcT P t = true ∧ cvB P t (idxT P t) ∧ isStrT P t' = true ∧ ∃ cs, hget s.heap i = some cs ∧ ∃ bs : List UInt8, off + n ≤ cs.length ∧ (cs.drop off).take n = bs.map (fun b => C.val (.int .u8 b.toNat)) ∧ K (.val (.string (strB bs))) s) := by
  show aConvR P t t' i off n s K = _
  unfold aConvR
  rw [cvB_eq]
  exact propext ⟨fun ⟨h1, h2, h4, h5⟩ => ⟨h1, ⟨h1, h2⟩, h4, h5⟩, fun ⟨h1, ⟨_, h2⟩, h4, h5⟩ => ⟨h1, h2, h4, h5⟩⟩
theorem bx_ex {off : Nat} {J : List UInt8 → Prop} (h : off + n ≤ bs.length) : (∃ l : List UInt8, ((bx bs c).drop off).take n = l.map (fun b => C.val (.int .u8 b.toNat)) ∧ J l) = J ((bs.drop off).take n) := by
  rw [bx_cells h]
  refine propext ⟨fun ⟨l, h1, h2⟩ => ?_, fun h => ⟨_, rfl, h⟩⟩
  have : (bs.drop off).take n = l := by
    have e : ∀ a b : List UInt8, a.map (fun b => C.val (.int .u8 (b.toNat : Int))) = b.map (fun b => C.val (.int .u8 b.toNat)) → a = b := by
      intro a
      induction a with
      | nil => intro b h; cases b with
        | nil => rfl
        | cons _ _ => simp at h
      | cons x a ih => intro b h; cases b with
        | nil => simp at h
        | cons y b =>
          simp only [List.map_cons, List.cons.injEq, C.val.injEq, Value.int.injEq, true_and] at h
          rw [ih b h.2, UInt8.toNat_inj.1 (by omega : x.toNat = y.toNat)]
    exact e _ _ h1
  rw [this]; exact h2
end
/-! ### bits of an int -/
def andi (a b : Int) : Int := IntKind.i64.wrap (BitVec.ofInt IntKind.i64.bits a &&& BitVec.ofInt IntKind.i64.bits b).toNat
@[go_sem ↓ 1150] theorem e_andi {a b : Int} {V' : V → Prop} : aInt .and .i64 a .i64 b V' = V' (.int .i64 (andi a b)) := by rw [e_and]; rfl
theorem andi_mask {a b : Int} (h0 : 0 ≤ b) (h1 : b ≤ 9223372036854775807) : 0 ≤ andi a b ∧ andi a b ≤ b := by
  have e : (BitVec.ofInt IntKind.i64.bits b).toNat = b.toNat := by
    show (BitVec.ofInt 64 b).toNat = _
    rw [BitVec.toNat_ofInt]
    omega
  have h2 : (BitVec.ofInt IntKind.i64.bits a &&& BitVec.ofInt IntKind.i64.bits b).toNat ≤ b.toNat := by
    rw [BitVec.toNat_and, e]; exact Nat.and_le_right
  unfold andi
  rw [wrap_i64 (by omega) (by omega)]
  omega
theorem tmod_nat {a : Int} {n : Nat} (h0 : 0 ≤ a) (hn : 0 < n) : ∃ j : Nat, j < n ∧ a.tmod (n : Int) = j := by
  obtain ⟨m, rfl⟩ := Int.eq_ofNat_of_zero_le h0
  exact ⟨m % n, Nat.mod_lt _ hn, by simp [Int.tmod]⟩
end Go.Proofs.Ytamcjecgkfmjkaa

/- The logic: rules for signed numbers. -/
open Go Go.RowKit
namespace Go.Proofs.Ytamcjecgkfmjkaa
set_option linter.unusedSimpArgs false
variable {V' : V → Prop} {k k' : IntKind} {a b : Int}
@[go_sem] theorem wrap_i32 {n : Int} (h : -2147483648 ≤ n) (h' : n ≤ 2147483647) : IntKind.i32.wrap n = n := by
  simp [IntKind.wrap, IntKind.bits, IntKind.signed]; omega
@[go_sem] theorem wrap_u64' {n : Int} (h : 0 ≤ n) (h' : n ≤ 18446744073709551615) : IntKind.u64.wrap n = n := by
  simp [IntKind.wrap, IntKind.bits, IntKind.signed]; omega
@[go_sem ↓] theorem e_maxi : aMinMax true [V.int k a, V.int k b] V' = V' (.int k (max a b)) := by simp [aMinMax]
@[go_sem ↓] theorem e_mini : aMinMax false [V.int k a, V.int k b] V' = V' (.int k (min a b)) := by simp [aMinMax]
@[go_sem ↓] theorem e_neg : aUn .neg (V.int k a) V' = V' (.int k (k.wrap (0 - a))) := nr rfl
@[go_sem ↓ 1150] theorem e_shl16 : aInt .shl .i64 a k' 16 V' = V' (.int .i64 (IntKind.i64.wrap (a * 65536))) := by rw [e_shl (by decide)]; rfl
@[go_sem ↓ 1150] theorem e_shr16 : aInt .shr .i64 a k' 16 V' = V' (.int .i64 (a / 65536)) := by
  rw [e_shr (by decide)]
  have e : a.fdiv (2 ^ min (16 : Int).toNat IntKind.i64.bits) = a / 65536 := Int.fdiv_eq_ediv_of_nonneg a (by decide)
  rw [e]
@[go_sem ↓ 1150] theorem e_shr1 : aInt .shr .i64 a k' 1 V' = V' (.int .i64 (a / 2)) := by
  rw [e_shr (by decide)]
  have e : a.fdiv (2 ^ min (1 : Int).toNat IntKind.i64.bits) = a / 2 := Int.fdiv_eq_ediv_of_nonneg a (by decide)
  rw [e]
@[go_sem ↓ 1100] theorem e_shl_i (h0 : 0 ≤ b) (h1 : b ≤ 63) : aInt .shl .i64 a k' b V' = V' (.int .i64 (IntKind.i64.wrap (a * 2 ^ b.toNat))) := by
  rw [e_shl h0]
  have e : min b.toNat IntKind.i64.bits = b.toNat := by show min b.toNat 64 = _; omega
  rw [e]
theorem U64_int {n : Int} (h0 : 0 ≤ n) (h1 : n ≤ 18446744073709551615) : U64 (UInt64.ofNat n.toNat) = n := by
  unfold U64; rw [UInt64.toNat_ofNat']; omega
@[go_sem] theorem wrap_u64n {n : Int} (h : -18446744073709551616 ≤ n) (h' : n < 0) : IntKind.u64.wrap n = n + 18446744073709551616 := by
  simp [IntKind.wrap, IntKind.bits, IntKind.signed]; omega
theorem bits_u64 : IntKind.u64.bits = 64 := rfl
theorem bits_i64 : IntKind.i64.bits = 64 := rfl
@[go_sem ↓] theorem e_IA5 {xs : List D} {t n sz : Nat} {i : Int} (h0 : 0 ≤ i) (h1 : i < n) : aIA (some (some n, t, sz)) (.cell (.mem xs)) i V' = V' (.cell (.mem (xs.drop (i.toNat * sz)))) := by
  simp [aIA, h0, h1]
theorem e_slStr {P : Program} {t : TypeId} {s : ByteArray} (lo hi : Nat) (h1 : lo ≤ hi) (h2 : hi ≤ s.size) (ht : isStrT P t = true) (h : V' (.val (.string (s.extract lo hi)))) : aSlice P t (V.val (.string s)) (some (V.int k lo)) (some (V.int k' hi)) V' :=
  ⟨ht, lo, hi, rfl, rfl, by omega, by omega, by omega, by simpa using h⟩
@[go_sem ↓ 1100] theorem e_shr_u (h0 : 0 ≤ b) (h1 : b ≤ 63) : aInt .shr .u64 a k' b V' = V' (.int .u64 (a / 2 ^ b.toNat)) := by
  rw [e_shr h0]
  have e : min b.toNat IntKind.u64.bits = b.toNat := by show min b.toNat 64 = _; omega
  rw [e, Int.fdiv_eq_ediv_of_nonneg _ (Int.le_of_lt (Int.pow_pos (by decide)))]
theorem a_ixStr {P : Program} {t : TypeId} {s : ByteArray} (i : Nat) (c : UInt8) (ht : isStrT P t = true) (hb : s.data.toList[i]? = some c) (h : V' (.int .u8 (U8 c))) : aIndex P t (V.val (.string s)) (V.int k i) V' :=
  ⟨ht, by omega, c, by simpa using hb, h⟩
/-! ### parts of an array -/
def aSlP (q : Option (Option Nat × TypeId × Nat)) (i : Id) (off : Nat) (l : Int) (h : Option Int) (K : V → Prop) : Prop :=
  match q with
  | some (some n, _, sz) => 0 ≤ l ∧ l ≤ h.getD n ∧ h.getD n ≤ n ∧ K (.cell (.row i (if n = l.toNat then off else off + l.toNat * sz) ((h.getD n).toNat - l.toNat) (n - l.toNat)))
  | _ => False
section
variable {P : Program} {t : TypeId} {i : Id} {off : Nat} {q q' : Option (Option Nat × TypeId × Nat)} {l : Int} {h : Option Int}
@[congr] theorem cg_aSlP (h0 : q = q') : aSlP q i off l h V' = aSlP q' i off l h V' := by subst h0; rfl
@[go_sem ↓] theorem e_slP1 {n e sz : Nat} : aSlP (some (some n, e, sz)) i off l none V' = (0 ≤ l ∧ l ≤ n ∧ V' (.cell (.row i (if n = l.toNat then off else off + l.toNat * sz) (n - l.toNat) (n - l.toNat)))) := by
  simp [aSlP]
@[go_sem ↓] theorem e_slP2 {n e sz : Nat} {z : Int} : aSlP (some (some n, e, sz)) i off l (some z) V' = (0 ≤ l ∧ l ≤ z ∧ z ≤ n ∧ V' (.cell (.row i (if n = l.toNat then off else off + l.toNat * sz) (z.toNat - l.toNat) (n - l.toNat)))) := by
  simp [aSlP]
theorem slP_eq {lo hi : Option V} (hl : bnd 0 lo = some l) (hh : ∀ n : Int, bnd n hi = some (h.getD n)) : aSlice P t (.cell (.ptr i off)) lo hi V' = aSlP (idxT P t) i off l h V' := by
  unfold aSlP
  refine propext ⟨fun ⟨n, e, sz, h0, l', h', h1, h2, h3⟩ => ?_, fun H => ?_⟩
  · rw [h0]
    rw [hl] at h1
    rw [hh] at h2
    cases h1; cases h2
    exact h3
  · split at H
    · rename_i n e sz hq
      exact ⟨n, e, sz, hq, l, h.getD n, hl, hh n, H⟩
    · exact H.elim
@[go_sem ↓] theorem e_slPa {k : IntKind} : aSlice P t (.cell (.ptr i off)) (some (V.int k a)) none V' = aSlP (idxT P t) i off a none V' := slP_eq rfl (fun _ => rfl)
@[go_sem ↓] theorem e_slPb {k : IntKind} : aSlice P t (.cell (.ptr i off)) none (some (V.int k a)) V' = aSlP (idxT P t) i off 0 (some a) V' := slP_eq rfl (fun _ => rfl)
@[go_sem ↓] theorem e_slPc : aSlice P t (.cell (.ptr i off)) none none V' = aSlP (idxT P t) i off 0 none V' := slP_eq rfl (fun _ => rfl)
@[go_sem ↓] theorem e_slPd {k k' : IntKind} : aSlice P t (.cell (.ptr i off)) (some (V.int k a)) (some (V.int k' b)) V' = aSlP (idxT P t) i off a (some b) V' := slP_eq rfl (fun _ => rfl)
end
/-! ### strings -/
theorem mk_strB {l : List UInt8} : (ByteArray.mk l.toArray) = strB l := rfl
@[go_sem] theorem strB_size {l : List UInt8} : (strB l).size = l.length := by simp [strB, ByteArray.size]
theorem strB_app (a b : List UInt8) : strB a ++ strB b = strB (a ++ b) := by
  apply ByteArray.ext
  simp [strB]
@[go_sem ↓] theorem e_strAdd {a b : List UInt8} : aStr .add (strB a) (strB b) V' = (a.length + b.length ≤ 9223372036854775807 ∧ V' (.val (.string (strB (a ++ b))))) := by
  simp only [aStr, strB_app, strB_size]
@[go_sem ↓ 1100] theorem e_cstr' {l : List UInt8} : ofValue (.string ⟨l.toArray⟩) = V.val (.string (strB l)) := nr rfl
theorem U64n {n : Nat} (h1 : n < 18446744073709551616) : U64 (UInt64.ofNat n) = (n : Int) := by
  unfold U64; rw [UInt64.toNat_ofNat']; omega
def ori (a b : Int) : Int := IntKind.i64.wrap (BitVec.ofInt IntKind.i64.bits a ||| BitVec.ofInt IntKind.i64.bits b).toNat
@[go_sem ↓ 1150] theorem e_ori : aInt .or .i64 a .i64 b V' = V' (.int .i64 (ori a b)) := by rw [e_or]; rfl
theorem ori_nat {x y : Nat} (hx : x < 2 ^ 62) (hy : y < 2 ^ 62) : ori x y = ((x ||| y : Nat) : Int) := by
  unfold ori
  have e : ∀ z : Nat, z < 2 ^ 62 → (BitVec.ofInt IntKind.i64.bits z).toNat = z := fun z hz => by
    show (BitVec.ofInt 64 z).toNat = z
    rw [BitVec.toNat_ofInt]
    omega
  rw [BitVec.toNat_or, e x hx, e y hy]
  have : x ||| y < 2 ^ 62 := Nat.or_lt_two_pow hx hy
  exact wrap_i64 (by omega) (by omega)
/-- i32, told by its bounds -/
def B32 (a : Int) : Prop := -2147483648 ≤ a ∧ a ≤ 2147483647
theorem tdiv_bound {a b : Int} {m : Nat} (h1 : -(m : Int) ≤ a) (h2 : a ≤ m) : -(m : Int) ≤ a.tdiv b ∧ a.tdiv b ≤ m := by
  have h : (a.tdiv b).natAbs ≤ a.natAbs := by
    rw [Int.natAbs_tdiv]; exact Nat.div_le_self _ _
  omega
theorem mul_bound {a b : Int} (ha : B32 a) (hb : B32 b) : -4611686018427387904 ≤ a * b ∧ a * b ≤ 4611686018427387904 := by
  obtain ⟨a1, a2⟩ := ha
  obtain ⟨b1, b2⟩ := hb
  have h : (a * b).natAbs ≤ 2147483648 * 2147483648 := by
    rw [Int.natAbs_mul]; exact Nat.mul_le_mul (by omega) (by omega)
  omega
/-! ### what is reckoned -/
theorem zs {p q : Prop} (hq : q) (h : p = q := by (conv => lhs; simp (maxSteps := 2000000) (disch := omega) only [go_sem, Nat.reduceAdd, Nat.reduceSub, Nat.reduceMul, Nat.reduceBEq, Nat.reduceEqDiff, Nat.reduceLT, Nat.reduceLeDiff, Nat.reduceDiv, reduceIte, reduceCtorEq]); all_goals exact rfl) : p := Eq.mpr h hq
theorem zc {p q : Prop} (hq : q) (h : p = q := by (conv => lhs; simp (maxSteps := 2000000) (disch := omega) only [go_sem, Nat.reduceAdd, Nat.reduceSub, Nat.reduceMul, Nat.reduceBEq, Nat.reduceEqDiff, Nat.reduceLT, Nat.reduceLeDiff, Nat.reduceDiv, reduceIte, reduceCtorEq, Int.reduceLT, Int.reduceLE, Int.reduceEq, Int.reduceNe, Int.reduceAdd, Int.reduceSub, Int.reduceMul, Int.reduceNeg, Int.reduceDiv, Int.reduceMod, Int.reduceTMod, Int.reduceTDiv, Int.reduceFDiv, Int.reducePow, Int.reduceToNat, U64n, BitVec.reduceOfInt, BitVec.reduceAnd, BitVec.reduceToNat, bits_u64, bits_i64]); all_goals exact rfl) : p := Eq.mpr h hq
end Go.Proofs.Ytamcjecgkfmjkaa

/- From the logic to the rows of the laws: rows of structs of numbers. -/
open Go Go.RowKit Go.ChangeShapes Go.WideShapes
namespace Go.Proofs.Ytamcjecgkfmjkaa
set_option linter.unusedVariables false
theorem All2.app' {α β : Type} {R : α → β → Prop} {a c : List α} {b d : List β} (h1 : All2 R a b) (h2 : All2 R c d) : All2 R (a ++ c) (b ++ d) := by
  induction h1 with
  | nil => exact h2
  | cons h _ ih => exact .cons h ih
def okW : Option IntKind → Value → Prop
  | none, v => ∃ b, v = .bool b
  | some k, v => ∃ n, v = .int k n ∧ (Lit.int k n).wf = true
theorem All2.split {α β : Type} {R : α → β → Prop} {a b : List α} {l : List β} (h : All2 R (a ++ b) l) : ∃ l1 l2, l = l1 ++ l2 ∧ All2 R a l1 ∧ All2 R b l2 := by
  refine ⟨l.take a.length, l.drop a.length, (List.take_append_drop _ _).symm, ?_, ?_⟩
  · have := h.take a.length; rwa [List.take_left' rfl] at this
  · have := h.drop a.length; rwa [List.drop_left' rfl] at this
section
variable {H : Type} {enc : TypeId × Value → H} {P : Program} {w : World} {base : Nat} {sp : Nat → Bool} {held : Bool}
theorem flatFs_ok {K : TypeId → Option (List (Option IntKind))} {cs : List Value} : ∀ (fs : List Field) (off : Nat) (ks : List (Option IntKind)), flatFs K off fs = some ks →
    (∀ f ∈ fs, ∀ k1, K f.type = some k1 → All2 okW k1 ((cs.drop f.offset).take (P.cellsOf f.type))) → All2 okW ks ((cs.drop off).take ks.length) := by
  intro fs
  induction fs with
  | nil => intro off ks h _; cases h; exact .nil
  | cons f fs ih =>
    intro off ks h hf
    unfold flatFs at h
    split at h
    · cases h
    · rename_i hn
      have hoff : f.offset = off := Decidable.byContradiction fun e => hn (.inr e)
      split at h
      · rename_i k1 hk1
        simp only [Option.map_eq_some_iff] at h
        obtain ⟨k2, hk2, rfl⟩ := h
        have h1 := hf f (List.mem_cons_self ..) k1 hk1
        rw [hoff] at h1
        have hl := h1.length
        have hc : (cs.drop off).take k1.length = (cs.drop off).take (P.cellsOf f.type) := by
          have e : ((cs.drop off).take (P.cellsOf f.type)).take k1.length = (cs.drop off).take (P.cellsOf f.type) := List.take_of_length_le (by omega)
          rw [List.take_take] at e
          have hle : k1.length ≤ P.cellsOf f.type := by rw [hl, List.length_take]; omega
          rw [Nat.min_eq_left hle] at e
          exact e
        have h2 := ih (off + k1.length) k2 hk2 fun g hg => hf g (List.mem_cons_of_mem _ hg)
        rw [List.length_append, List.take_add, hc, List.drop_drop]
        exact h1.app' h2
      · cases h
theorem flat_trod : ∀ (d : Nat) {t : TypeId} {ks : List (Option IntKind)} {fuel : Nat} {cs : List Value} {x : DataW H × List MemPlace}, flatK P d t = some ks → DataW.trod enc P w base sp held fuel t cs = some x → All2 okW ks cs := by
  intro d
  induction d with
  | zero => intro t ks fuel cs x h; cases h
  | succ d ih =>
    intro t ks fuel cs x h hx
    unfold flatK at h
    split at h
    · cases h
    · split at h
      · rename_i hu
        cases h
        obtain ⟨b, rfl, _⟩ := DataW.trod_bool hu hx
        exact .cons ⟨b, rfl⟩ .nil
      · rename_i k hu
        cases h
        obtain ⟨n, rfl, _, hw⟩ := DataW.trod_int hu hx
        exact .cons ⟨n, rfl, hw⟩ .nil
      · rename_i n e hu
        split at h
        · rename_i k1 hk1
          split at h
          · rename_i hc
            cases h
            obtain ⟨xs, m, _, _, hlen, hxl, hall⟩ := DataW.trod_array hu hx
            have key : ∀ j, j ≤ n → All2 okW (List.replicate j k1).flatten (cs.take (j * k1.length)) := by
              intro j
              induction j with
              | zero => intro _; simp only [List.replicate_zero, List.flatten_nil, Nat.zero_mul, List.take_zero]; exact .nil
              | succ j ihj =>
                intro hj
                have h1 := ihj (by omega)
                have hq := hall j (by omega)
                rw [List.getElem?_eq_getElem (by omega)] at hq
                have h2 := ih hk1 hq
                rw [hc.1] at h2
                rw [show List.replicate (j + 1) k1 = List.replicate j k1 ++ [k1] by rw [List.replicate_succ'], List.flatten_append, Nat.succ_mul, List.take_add]
                simp only [List.flatten_cons, List.flatten_nil, List.append_nil]
                exact h1.app' h2
            have := key n (Nat.le_refl _)
            rwa [List.take_of_length_le (by rw [hlen, hc.2]; omega)] at this
          · cases h
        · cases h
      · rename_i fs hu
        split at h
        · cases h
        · split at h
          · rename_i k1 hk1
            split at h
            · rename_i hc
              cases h
              obtain ⟨xs, m, _, _, hlen, hxl, hall⟩ := DataW.trod_struct hu hx
              have := flatFs_ok (P := P) (cs := cs) fs.toList 0 _ hk1 fun f hf kf hkf => by
                obtain ⟨i, hi⟩ := List.mem_iff_getElem?.1 hf
                have hi' : fs[i]? = some f := by simpa using hi
                have hlt : i < fs.size := by
                  have := (List.getElem?_eq_some_iff.1 hi).1; simpa using this
                have hq := hall i f hi'
                rw [List.getElem?_eq_getElem (by omega)] at hq
                exact ih hkf hq
              rw [List.drop_zero, List.take_of_length_le (by omega)] at this
              exact this
            · cases h
          · cases h
      · cases h
end
def i64B (n : Int) : Prop := -9223372036854775808 ≤ n ∧ n ≤ 9223372036854775807
theorem i64_wf {n : Int} (h : (Lit.int .i64 n).wf = true) : i64B n := by
  simp only [Lit.wf, Bool.and_eq_true, decide_eq_true_eq] at h
  have e1 : IntKind.i64.min = -9223372036854775808 := by kernel_rfl
  have e2 : IntKind.i64.max = 9223372036854775807 := by kernel_rfl
  rw [e1, e2] at h
  exact h
theorem rel_vals {g : Gh} : ∀ {us : List Value}, (∀ u ∈ us, scalar u = true) → All2 (RelC g) (us.map C.val) us
  | [], _ => .nil
  | u :: us, h => .cons ⟨h u (List.mem_cons_self ..), rfl⟩ (rel_vals fun v hv => h v (List.mem_cons_of_mem _ hv))
theorem okW_scalar {k : Option IntKind} {v : Value} (h : okW k v) : scalar v = true := by
  cases k with
  | none => obtain ⟨b, rfl⟩ := h; rfl
  | some k => obtain ⟨n, rfl, _⟩ := h; rfl
theorem okW_all {ks : List (Option IntKind)} {vs : List Value} (h : All2 okW ks vs) : ∀ v ∈ vs, scalar v = true := by
  induction h with
  | nil => intro v hv; cases hv
  | cons h _ ih => intro v hv; rcases List.mem_cons.1 hv with rfl | hv
                   · exact okW_scalar h
                   · exact ih v hv
theorem flat_row {α : Type} {sz : Nat} : ∀ (L : List (List α)), (∀ r ∈ L, r.length = sz) → L.flatten.length = L.length * sz ∧ ∀ (j i : Nat), i < sz → L.flatten[j * sz + i]? = (L[j]?).bind (·[i]?)
  | [], _ => ⟨by simp, fun j i _ => by simp⟩
  | r :: L, h => by
    obtain ⟨h1, h2⟩ := flat_row L fun r hr => h r (List.mem_cons_of_mem _ hr)
    have hr := h r (List.mem_cons_self ..)
    refine ⟨by simp only [List.flatten_cons, List.length_append, h1, hr, List.length_cons, Nat.succ_mul]; omega, fun j i hi => ?_⟩
    rw [List.flatten_cons]
    cases j with
    | zero => rw [Nat.zero_mul, Nat.zero_add, List.getElem?_append_left (by omega)]; simp
    | succ j =>
      rw [List.getElem?_append_right (by rw [Nat.succ_mul]; omega), show (j + 1) * sz + i - r.length = j * sz + i by rw [Nat.succ_mul]; omega, h2 j i hi]
      simp
theorem open_flats {H : Type} {enc : TypeId × Value → H} {P : Program} {W : World} {t e : TypeId} {ks : List (Option IntKind)} {v : Value} {d : DataW H} {ps : List MemPlace} {r : Reach} {b0 sz : Nat}
    (hu : P.underlying t = some (.slice e)) (hk : flatK P 8 e = some ks) (hsz : ks.length = sz) (h0 : 0 < sz)
    (hv : Value.okWide P W r b0 t v) (h : DataW.Trod enc P W 0 (fun _ => true) true t v d ps) :
    ∃ L : List (List Value), (∀ q ∈ L, All2 okW ks q) ∧ L.length ≤ maxLen ∧ RelW (ghOf W) (.c (.lst .no none sz (L.flatten.map D.val))) v := by
  obtain ⟨a, len, cap, rfl⟩ := okWide_slice hu hv
  obtain ⟨fuel, hf⟩ := h
  rcases Go.Deep.open_slice hu hf with ⟨hcs, _⟩ | ⟨x, l, c, m, n, D', Pl, hcs, _, hl, hm, hmm, _, hx⟩
  · simp [Value.cells] at hcs
    obtain ⟨rfl, rfl, rfl⟩ := hcs
    exact ⟨[], by simp, by simp, ⟨RelD.nil (by simp) h0, trivial⟩⟩
  · simp [Value.cells] at hcs
    obtain ⟨rfl, rfl, rfl⟩ := hcs
    have hlm : len ≤ m := by rw [hmm]; simp only [if_true]; exact hl
    have hV : ∀ i, i < len → ∃ cs' : List Value, (∀ j, j < sz → W.cell? (x.add (i * sz + j)) = cs'[j]?) ∧ All2 okW ks cs' := by
      intro i hi
      obtain ⟨cs', h1, h2⟩ := hx i (by omega)
      have h3 := flat_trod 8 hk h2
      obtain ⟨_, h4, h5⟩ := World.cells?_some h1
      have h6 : P.cellsOf e = sz := by rw [← h4, ← h3.length, hsz]
      rw [h6] at h5
      refine ⟨cs', fun j hj => ?_, h3⟩
      rw [← add_of_add]
      exact h5 j hj
    obtain ⟨V, hV⟩ := Go.Deep.choose_lt hV
    have hL : ∀ q ∈ (List.range len).map V, All2 okW ks q := by
      intro q hq
      simp only [List.mem_map, List.mem_range] at hq
      obtain ⟨i, hi, rfl⟩ := hq
      exact (hV i hi).2
    have hl2 : ∀ q ∈ (List.range len).map V, q.length = sz := fun q hq => by rw [← (hL q hq).length, hsz]
    obtain ⟨f1, f2⟩ := flat_row _ hl2
    rw [List.length_map, List.length_range] at f1
    refine ⟨(List.range len).map V, hL, by simp; omega, ⟨RelD.mk (by simp) h0 (by simp only [List.length_map, f1]) hl hm ?_, trivial⟩⟩
    intro i dd hi
    rw [List.getElem?_map, Option.map_eq_some_iff] at hi
    obtain ⟨u, hu2, rfl⟩ := hi
    have hlt := (List.getElem?_eq_some_iff.1 hu2).1
    rw [f1] at hlt
    have e1 : i / sz * sz + i % sz = i := by rw [Nat.mul_comm]; exact Nat.div_add_mod i sz
    have e2 : i / sz < len := Nat.div_lt_of_lt_mul (by rw [Nat.mul_comm]; exact hlt)
    have e3 : i % sz < sz := Nat.mod_lt _ h0
    have h7 := f2 (i / sz) (i % sz) e3
    rw [e1, hu2] at h7
    have h8 := (hV _ e2).1 _ e3
    rw [e1] at h8
    rw [List.getElem?_map, List.getElem?_range e2] at h7
    simp only [Option.map_some, Option.bind_some] at h7
    refine ⟨u, by rw [show (ghOf W).M = fun a => W.cell? a from rfl]; dsimp only; rw [h8, ← h7], .val ?_⟩
    exact okW_all (hV _ e2).2 u (List.mem_of_getElem? h7.symm)
/-- one struct (or array) of numbers -/
theorem open_flat {H : Type} {enc : TypeId × Value → H} {P : Program} {W : World} {t : TypeId} {ks : List (Option IntKind)} {cs : Array Value} {d : DataW H} {ps : List MemPlace}
    (hk : flatK P 8 t = some ks) (h : DataW.Trod enc P W 0 (fun _ => true) true t (.agg cs) d ps) : All2 okW ks cs.toList ∧ RelW (ghOf W) (.agg (cs.toList.map C.val)) (.agg cs) := by
  obtain ⟨fuel, hf⟩ := h
  have := flat_trod 8 hk hf
  exact ⟨this, ⟨cs, rfl, rel_vals (okW_all this)⟩⟩
end Go.Proofs.Ytamcjecgkfmjkaa

/- Numbers of both signs as digits of seven bits, in plain words. -/
open Go Go.RowKit
namespace Go.Proofs.Ytamcjecgkfmjkaa
set_option linter.unusedSimpArgs false
set_option linter.unusedVariables false
theorem shr64_nat (a : UInt64) (k : Nat) : (shr64 a k).toNat = a.toNat / 2 ^ k := by
  have := a.toNat_lt
  unfold shr64
  rw [UInt64.toNat_ofNat', Nat.mod_eq_of_lt]
  exact Nat.lt_of_le_of_lt (Nat.div_le_self _ _) this
theorem shr64_shr64 (a : UInt64) (k m : Nat) : shr64 (shr64 a k) m = shr64 a (k + m) := by
  rw [← UInt64.toNat_inj, shr64_nat, shr64_nat, shr64_nat, Nat.div_div_eq_div_mul, Nat.pow_add]
theorem shr64_zero (a : UInt64) : shr64 a 0 = a := by rw [← UInt64.toNat_inj, shr64_nat]; simp
/-- a number in digits of seven bits, the lowest first -/
def num (a : UInt64) : List UInt8 := if 128 ≤ a.toNat then or8 (c64to8 a) (UInt8.ofNat 128) :: num (shr64 a 7) else [c64to8 a]
termination_by a.toNat
decreasing_by rw [shr64_nat]; omega
theorem num_more {a : UInt64} (h : 128 ≤ a.toNat) : num a = or8 (c64to8 a) (UInt8.ofNat 128) :: num (shr64 a 7) := by rw [num, if_pos h]
theorem num_last {a : UInt64} (h : ¬ 128 ≤ a.toNat) : num a = [c64to8 a] := by rw [num, if_neg h]
theorem num_len' : ∀ (k : Nat) (a : UInt64), a.toNat < 128 ^ (k + 1) → 1 ≤ (num a).length ∧ (num a).length ≤ k + 1
  | 0, a, h => by rw [num_last (by simp at h; omega)]; simp
  | k + 1, a, h => by
    by_cases h1 : 128 ≤ a.toNat
    · rw [num_more h1]
      have := num_len' k (shr64 a 7) (by rw [shr64_nat, Nat.pow_succ] at *; omega)
      simp; omega
    · rw [num_last h1]; simp
theorem num_len (a : UInt64) : 1 ≤ (num a).length ∧ (num a).length ≤ 10 := num_len' 9 a (by have := a.toNat_lt; omega)
/-- both signs -/
def zz (v : Int) : UInt64 := UInt64.ofNat (if 0 ≤ v then 2 * v else -2 * v - 1).toNat
theorem zz_nat {v : Int} (h1 : -9223372036854775808 ≤ v) (h2 : v ≤ 9223372036854775807) : ((zz v).toNat : Int) = if 0 ≤ v then 2 * v else -2 * v - 1 := by
  unfold zz
  rw [UInt64.toNat_ofNat']
  split <;> omega
def ofI (n : Int) : UInt64 := UInt64.ofNat (n % 18446744073709551616).toNat
theorem ofI_nat (n : Int) : ((ofI n).toNat : Int) = n % 18446744073709551616 := by
  unfold ofI
  rw [UInt64.toNat_ofNat']
  omega
theorem wrap_i64g (n : Int) : IntKind.i64.wrap n = (n + 9223372036854775808) % 18446744073709551616 - 9223372036854775808 := by
  simp [IntKind.wrap, IntKind.bits, IntKind.signed]; omega
section
variable {V' : V → Prop} {k k' : IntKind} {a b : Int}
@[go_sem ↓ 1050] theorem cv_i_64g (n : Int) : aCv (some .u64) n V' = V' (.int .u64 (U64 (ofI n))) := by
  have e : IntKind.u64.wrap n = U64 (ofI n) := by rw [wrap_u64_]; unfold U64; rw [ofI_nat]
  rw [← e]; rfl
@[go_sem ↓ 1150] theorem e_shl1 : aInt .shl .i64 a k' 1 V' = V' (.int .i64 (IntKind.i64.wrap (a * 2))) := by rw [e_shl (by decide)]; rfl
@[go_sem ↓ 1150] theorem e_shr63 : aInt .shr .i64 a k' 63 V' = V' (.int .i64 (a / 9223372036854775808)) := by
  rw [e_shr (by decide)]
  have e : a.fdiv (2 ^ min (63 : Int).toNat IntKind.i64.bits) = a / 9223372036854775808 := Int.fdiv_eq_ediv_of_nonneg a (by decide)
  rw [e]
def ofI8 (n : Int) : UInt8 := UInt8.ofNat (n % 256).toNat
theorem ofI8_nat (n : Int) : ((ofI8 n).toNat : Int) = n % 256 := by
  unfold ofI8
  rw [UInt8.toNat_ofNat']
  omega
@[go_sem ↓ 1050] theorem cv_i_8g (n : Int) : aCv (some .u8) n V' = V' (.int .u8 (U8 (ofI8 n))) := by
  have e : IntKind.u8.wrap n = U8 (ofI8 n) := by rw [wrap_u8_]; unfold U8; rw [ofI8_nat]
  rw [← e]; rfl
def ofI32 (n : Int) : UInt32 := UInt32.ofNat (n % 4294967296).toNat
theorem ofI32_nat (n : Int) : ((ofI32 n).toNat : Int) = n % 4294967296 := by
  unfold ofI32
  rw [UInt32.toNat_ofNat']
  omega
@[go_sem ↓ 1050] theorem cv_i_32g (n : Int) : aCv (some .u32) n V' = V' (.int .u32 (U32 (ofI32 n))) := by
  have e : IntKind.u32.wrap n = U32 (ofI32 n) := by rw [wrap_u32_]; unfold U32; rw [ofI32_nat]
  rw [← e]; rfl
def wI32 (x : UInt32) : Int := IntKind.i32.wrap (U32 x)
@[go_sem ↓ 1050] theorem cv_32_i32 (x : UInt32) : aCv (some .i32) (U32 x) V' = V' (.int .i32 (wI32 x)) := nr rfl
def wI (x : UInt64) : Int := IntKind.i64.wrap (U64 x)
@[go_sem ↓ 1200] theorem cv_64_i (x : UInt64) : aCv (some .i64) (U64 x) V' = V' (.int .i64 (wI x)) := nr rfl
def xori (a b : Int) : Int := IntKind.i64.wrap (BitVec.ofInt IntKind.i64.bits a ^^^ BitVec.ofInt IntKind.i64.bits b).toNat
@[go_sem ↓ 1150] theorem e_xori : aInt .xor .i64 a .i64 b V' = V' (.int .i64 (xori a b)) := by simp [aInt, xori]
end
theorem not64_nat (x : UInt64) : (xor64 x (ofI (-1))).toNat = 18446744073709551615 - x.toNat := by
  have e : ofI (-1) = 0 - 1 := by decide
  rw [e]
  have e1 : xor64 x (0 - 1) = ~~~ x := by
    unfold xor64
    rw [← UInt64.toBitVec_inj, UInt64.toBitVec_xor, UInt64.toBitVec_not, BitVec.xor_comm]; exact BitVec.allOnes_xor
  rw [e1, UInt64.toNat_not]
  rfl
theorem xor64_0 (x : UInt64) : xor64 x (ofI 0) = x := by
  have e : ofI 0 = 0 := by decide
  rw [e]; unfold xor64; simp
theorem zz_eq {v : Int} (h1 : -9223372036854775808 ≤ v) (h2 : v ≤ 9223372036854775807) : xor64 (ofI (IntKind.i64.wrap (v * 2))) (ofI (v / 9223372036854775808)) = zz v := by
  rw [← UInt64.toNat_inj, ← Int.ofNat_inj, zz_nat h1 h2]
  have e := ofI_nat (IntKind.i64.wrap (v * 2))
  rw [wrap_i64g] at e
  by_cases h : 0 ≤ v
  · have : v / 9223372036854775808 = 0 := by omega
    rw [this, xor64_0, wrap_i64g, if_pos h, e]; omega
  · have : v / 9223372036854775808 = -1 := by omega
    rw [this, not64_nat, wrap_i64g, if_neg h]
    omega
theorem mul2 (x : Int) : ((mul64 (UInt64.ofNat 2) (ofI x)).toNat : Int) = 2 * x % 18446744073709551616 := by
  unfold mul64
  rw [UInt64.toNat_mul]
  have := ofI_nat x
  have e : (UInt64.ofNat 2).toNat = 2 := by decide
  rw [e]
  omega
theorem zz_ref0 {v : Int} (h1 : 0 ≤ v) (h2 : v ≤ 9223372036854775807) : mul64 (UInt64.ofNat 2) (ofI v) = zz v := by
  rw [← UInt64.toNat_inj, ← Int.ofNat_inj, zz_nat (by omega) h2, mul2, if_pos h1]; omega
theorem zz_ref1 {v : Int} (h1 : -9223372036854775808 ≤ v) (h2 : v < 0) : add64 (mul64 (UInt64.ofNat 2) (ofI (IntKind.i64.wrap (0 - IntKind.i64.wrap (v + 1))))) (UInt64.ofNat 1) = zz v := by
  rw [← UInt64.toNat_inj, ← Int.ofNat_inj, zz_nat h1 (by omega), if_neg (by omega)]
  have := mul2 (IntKind.i64.wrap (0 - IntKind.i64.wrap (v + 1)))
  rw [wrap_i64g, wrap_i64g] at this
  unfold add64
  rw [UInt64.toNat_add]
  have e : (UInt64.ofNat 1).toNat = 1 := by decide
  rw [e, wrap_i64g, wrap_i64g]
  omega
theorem zz_ref1' {v : Int} (h1 : -9223372036854775808 ≤ v) (h2 : v < 0) : add64 (mul64 (UInt64.ofNat 2) (UInt64.ofNat (0 - (v + 1)).toNat)) (UInt64.ofNat 1) = zz v := by
  rw [← UInt64.toNat_inj, ← Int.ofNat_inj, zz_nat h1 (by omega), if_neg (by omega)]
  unfold add64 mul64
  have e : (UInt64.ofNat 1).toNat = 1 := by decide
  have e2 : (UInt64.ofNat 2).toNat = 2 := by decide
  rw [UInt64.toNat_add, UInt64.toNat_mul, e, e2, UInt64.toNat_ofNat']
  omega
theorem xori64 (a b : Int) : xori a b = IntKind.i64.wrap (((BitVec.ofInt 64 a ^^^ BitVec.ofInt 64 b).toNat : Nat) : Int) := rfl
theorem xori_0 {a : Int} (h1 : -9223372036854775808 ≤ a) (h2 : a ≤ 9223372036854775807) : xori a 0 = a := by
  rw [xori64]
  have e : BitVec.ofInt 64 a ^^^ BitVec.ofInt 64 0 = BitVec.ofInt 64 a := BitVec.xor_zero
  rw [e, BitVec.toNat_ofInt, wrap_i64g]
  omega
theorem xori_m1 {a : Int} (h1 : -9223372036854775808 ≤ a) (h2 : a ≤ 9223372036854775807) : xori a (-1) = -a - 1 := by
  rw [xori64]
  have e : BitVec.ofInt 64 a ^^^ BitVec.ofInt 64 (-1) = ~~~ (BitVec.ofInt 64 a) := by
    show BitVec.ofInt 64 a ^^^ BitVec.allOnes 64 = _
    rw [BitVec.xor_comm]; exact BitVec.allOnes_xor
  rw [e, BitVec.toNat_not, BitVec.toNat_ofInt, wrap_i64g]
  omega
theorem and1_nat (x : UInt64) : (and64 x (UInt64.ofNat 1)).toNat = x.toNat % 2 := by
  unfold and64
  rw [UInt64.toNat_and]
  have e : (UInt64.ofNat 1).toNat = 1 := by decide
  rw [e, Nat.and_one_is_mod]
theorem zz_back {v : Int} (h1 : -9223372036854775808 ≤ v) (h2 : v ≤ 9223372036854775807) : xori (wI (shr64 (zz v) 1)) (IntKind.i64.wrap (0 - wI (and64 (zz v) (UInt64.ofNat 1)))) = v := by
  have e := zz_nat h1 h2
  have es : wI (shr64 (zz v) 1) = if 0 ≤ v then v else -v - 1 := by
    unfold wI U64
    rw [shr64_nat, wrap_i64g]
    split at e <;> simp only [*, if_true, if_false] <;> omega
  have ea : wI (and64 (zz v) (UInt64.ofNat 1)) = if 0 ≤ v then 0 else 1 := by
    unfold wI U64
    rw [and1_nat, wrap_i64g]
    split at e <;> simp only [*, if_true, if_false] <;> omega
  rw [es, ea]
  by_cases h : 0 ≤ v
  · simp only [h, if_true]
    rw [show IntKind.i64.wrap (0 - 0) = 0 from rfl]
    exact xori_0 h1 h2
  · simp only [h, if_false]
    rw [show IntKind.i64.wrap (0 - 1) = -1 from rfl, xori_m1 (by omega) (by omega)]
    omega
/-! ### digits -/
theorem c64to8_nat (x : UInt64) : (c64to8 x).toNat = x.toNat % 256 := by
  unfold c64to8; simp
theorem c8to64_nat (x : UInt8) : (c8to64 x).toNat = x.toNat := by
  unfold c8to64; simp
theorem and127_nat (x : UInt8) : (and8 x (UInt8.ofNat 127)).toNat = x.toNat % 128 := by
  unfold and8
  rw [UInt8.toNat_and]
  have e : (UInt8.ofNat 127).toNat = 2 ^ 7 - 1 := by decide
  rw [e, Nat.and_two_pow_sub_one_eq_mod]
theorem or128_nat (x : UInt8) : (or8 x (UInt8.ofNat 128)).toNat = x.toNat % 128 + 128 := by
  have h : ∀ x : Fin 256, (UInt8.ofNat x.val ||| UInt8.ofNat 128).toNat = x.val % 128 + 128 := by decide +kernel
  have := h ⟨x.toNat, x.toNat_lt⟩
  simp only [UInt8.ofNat_toNat] at this
  unfold or8
  exact this
theorem and127_64 (x : UInt64) : (and64 x (UInt64.ofNat 127)).toNat = x.toNat % 128 := by
  unfold and64
  rw [UInt64.toNat_and]
  have e : (UInt64.ofNat 127).toNat = 2 ^ 7 - 1 := by decide
  rw [e, Nat.and_two_pow_sub_one_eq_mod]
theorem dig_ref (x : UInt64) : or8 (c64to8 (and64 x (UInt64.ofNat 127))) (UInt8.ofNat 128) = or8 (c64to8 x) (UInt8.ofNat 128) := by
  rw [← UInt8.toNat_inj, or128_nat, or128_nat, c64to8_nat, c64to8_nat, and127_64]
  omega
/-! ### common rules -/
section
variable {P : Program} {V' : V → Prop} {k : IntKind} {a : Int} {t : TypeId}
/-! ### an item of an array -/
def aIxA (P : Program) (q : Option (Option Nat × TypeId × Nat)) (cs : List C) (i : Int) (K : V → Prop) : Prop :=
  match q with
  | some (some n, e, sz) => 0 ≤ i ∧ i < n ∧ aPt (isAggT P e) sz cs (i.toNat * sz) K
  | _ => False
@[congr] theorem cg_aIxA {q q' : Option (Option Nat × TypeId × Nat)} {cs : List C} (h : q = q') : aIxA P q cs a V' = aIxA P q' cs a V' := by rw [h]
@[go_sem ↓] theorem e_ixA {cs : List C} : aIndex P t (.w (.agg cs)) (V.int k a) V' = aIxA P (idxT P t) cs a V' := by
  unfold aIndex aIxA
  simp only
  cases h : idxT P t with
  | none => simp
  | some q =>
    obtain ⟨l, e, sz⟩ := q
    cases l with
    | none => simp
    | some n => simp only [Option.some.injEq, Prod.mk.injEq]; exact propext ⟨fun ⟨_, _, _, ⟨h1, h2, h3⟩, h4⟩ => by subst h1; subst h2; subst h3; exact h4, fun h => ⟨_, _, _, ⟨rfl, rfl, rfl⟩, h⟩⟩
@[go_sem ↓] theorem e_ixA1 {cs : List C} {n e sz : Nat} (h0 : 0 ≤ a) (h1 : a < n) : aIxA P (some (some n, e, sz)) cs a V' = aPt (isAggT P e) sz cs (a.toNat * sz) V' := by simp [aIxA, h0, h1]
@[go_sem ↓] theorem e_ldbox {P : Program} {t : TypeId} {i : Id} {o : Nat} {s : St} {V' : V → Prop} : aLoadBox P t (.cell (.ptr i o)) s V' = ∃ cs, hget s.heap i = some cs ∧ ∃ sz, sizeT P t = some sz ∧ aPart P t sz cs o V' := by
  simp only [aLoadBox]
  exact propext ⟨fun ⟨a, b, h1, h2, h3⟩ => ⟨a, h1, b, h2, h3⟩, fun ⟨a, h1, b, h2, h3⟩ => ⟨a, b, h1, h2, h3⟩⟩
end
section
variable {P : Program} {t : TypeId} {a b : Bool} {V' : V → Prop}
@[go_sem ↓] theorem e_eqBo : aBin P .eql t (V.bool a) (V.bool b) V' = (isBoolT P t = true ∧ V' (.bool (a == b))) := nr rfl
@[go_sem ↓] theorem e_neBo : aBin P .neq t (V.bool a) (V.bool b) V' = (isBoolT P t = true ∧ V' (.bool (a != b))) := nr rfl
attribute [go_sem] bne_self_eq_false beq_self_eq_true Bool.not_true Bool.not_false
end
/-! ### copy -/
def aCp (q : Option (Option Nat × TypeId × Nat)) (i : Id) (off n : Nat) (x : V) (s : St) (K : V → St → Prop) : Prop :=
  match q with
  | some (none, _, 1) => ∃ cs, hget s.heap i = some cs ∧ aSrc 1 x s fun ys => off + min ys.length n ≤ cs.length ∧ K (.int .i64 (min ys.length n : Nat)) ⟨s.slots, hset s.heap i (spl cs off ((ys.take n).map D.toC))⟩
  | _ => False
section
variable {P : Program} {t : TypeId} {i : Id} {off n c : Nat} {x : V} {s : St} {K : V → St → Prop}
@[congr] theorem cg_aCp {q q' : Option (Option Nat × TypeId × Nat)} {s' : St} (h : q = q') (h2 : s = s') : aCp q i off n x s K = aCp q' i off n x s' K := by rw [h, h2]
@[go_sem ↓] theorem e_cpR : aCopy P t (.cell (.row i off n c)) x s K = aCp (idxT P t) i off n x s K := by
  unfold aCopy aCp
  simp only
  refine propext ⟨fun ⟨e, cs, h1, h2, h3⟩ => by rw [h1]; exact ⟨cs, h2, h3⟩, fun h => ?_⟩
  split at h
  · rename_i e hq
    obtain ⟨cs, h2, h3⟩ := h
    exact ⟨_, cs, hq, h2, h3⟩
  · exact h.elim
@[go_sem ↓] theorem e_srcR {sz : Nat} {J : List D → Prop} : aSrc sz (.cell (.row i off n c)) s J = ∃ cs, hget s.heap i = some cs ∧ off + n * sz ≤ cs.length ∧ ∃ ds, allD ((cs.drop off).take (n * sz)) = some ds ∧ J ds := by
  simp only [aSrc]
  exact propext ⟨fun ⟨cs, ds, h1, h2, h3, h4⟩ => ⟨cs, h1, h2, ds, h3, h4⟩, fun ⟨cs, h1, h2, ds, h3, h4⟩ => ⟨cs, ds, h1, h2, h3, h4⟩⟩
@[go_sem ↓] theorem e_cp1 {e : Nat} : aCp (some (none, e, 1)) i off n x s K = ∃ cs, hget s.heap i = some cs ∧ aSrc 1 x s fun ys => off + min ys.length n ≤ cs.length ∧ K (.int .i64 (min ys.length n : Nat)) ⟨s.slots, hset s.heap i (spl cs off ((ys.take n).map D.toC))⟩ := nr rfl
end
/-! ### digits -/
/-- what is read so far -/
def rdU (a : UInt64) (i : Nat) : UInt64 := UInt64.ofNat (a.toNat % 2 ^ (7 * i))
theorem rdU_0 (a : UInt64) : rdU a 0 = UInt64.ofNat 0 := by unfold rdU; simp [Nat.mod_one]
theorem rdU_step (a : UInt64) (i : Nat) (c : UInt8) (hi : i ≤ 9) (hc : c.toNat % 128 = a.toNat / 2 ^ (7 * i) % 128) : or64 (rdU a i) (shl64 (c8to64 (and8 c (UInt8.ofNat 127))) (7 * i)) = rdU a (i + 1) := by
  have ha := a.toNat_lt
  have hp : 0 < 2 ^ (7 * i) := Nat.two_pow_pos _
  have h1 : a.toNat % 2 ^ (7 * (i + 1)) = a.toNat % 2 ^ (7 * i) + 2 ^ (7 * i) * (a.toNat / 2 ^ (7 * i) % 128) := by
    rw [show 7 * (i + 1) = 7 * i + 7 by omega, Nat.pow_add, Nat.mod_mul]
  have h2 : a.toNat % 2 ^ (7 * (i + 1)) < 18446744073709551616 := Nat.lt_of_le_of_lt (Nat.mod_le _ _) ha
  have h3 : a.toNat % 2 ^ (7 * i) < 2 ^ (7 * i) := Nat.mod_lt _ hp
  rw [← UInt64.toNat_inj]
  unfold or64 rdU shl64
  rw [UInt64.toNat_or, UInt64.toNat_ofNat', UInt64.toNat_ofNat', UInt64.toNat_ofNat', c8to64_nat, and127_nat, hc]
  rw [Nat.mod_eq_of_lt (a := a.toNat % 2 ^ (7 * i)) (Nat.lt_of_le_of_lt (Nat.mod_le _ _) ha), Nat.mod_eq_of_lt h2, h1]
  rw [Nat.mod_eq_of_lt (a := _ * _) (by rw [Nat.mul_comm]; omega), Nat.mul_comm _ (2 ^ (7 * i)), Nat.or_comm, Nat.add_comm]
  exact (Nat.two_pow_add_eq_or_of_lt h3 _).symm
theorem rdU_all (a : UInt64) (i : Nat) (h : a.toNat < 2 ^ (7 * i)) : rdU a i = a := by
  unfold rdU
  rw [Nat.mod_eq_of_lt h, UInt64.ofNat_toNat]
end Go.Proofs.Ytamcjecgkfmjkaa

/- The logic: states of a game as rows of twenty cells. -/
open Go Go.RowKit
namespace Go.Proofs.Ytamcjecgkfmjkaa
set_option linter.unusedSimpArgs false
set_option linter.unusedVariables false
/-- a state -/
structure Sta where
  frame : Int
  cells : List Int
  seed : UInt32
  over : Bool
  win : Int
  len : cells.length = 16
theorem Sta.ext' {a b : Sta} (h1 : a.frame = b.frame) (h2 : a.cells = b.cells) (h3 : a.seed = b.seed) (h4 : a.over = b.over) (h5 : a.win = b.win) : a = b := by
  cases a; cases b; simp_all
def c32 (l : List Int) : List D := l.map fun n => .val (.int .i32 n)
def sd (s : Sta) : List D := .val (.int .i64 s.frame) :: (c32 s.cells ++ [.val (.int .u32 (U32 s.seed)), .val (.bool s.over), .val (.int .i64 s.win)])
def sds (l : List Sta) : List D := (l.map sd).flatten
/-- nothing but a frame and a seed -/
def stz (f : Int) (n : UInt32) : Sta := ⟨f, List.replicate 16 0, n, false, 0, rfl⟩
@[go_sem] theorem c32_len {l : List Int} : (c32 l).length = l.length := by simp [c32]
@[go_sem] theorem sd_len {s : Sta} : (sd s).length = 20 := by simp [sd, c32, s.len]
@[go_sem] theorem sds_nil : sds [] = [] := nr rfl
theorem sds_cons {s : Sta} {l : List Sta} : sds (s :: l) = sd s ++ sds l := by simp [sds]
@[go_sem] theorem sds_len {l : List Sta} : (sds l).length = l.length * 20 := by
  induction l with
  | nil => rfl
  | cons s l ih => rw [sds_cons, List.length_append, sd_len, ih, List.length_cons]; omega
@[go_sem] theorem sds_app {a b : List Sta} : sds a ++ sds b = sds (a ++ b) := by simp [sds]
@[go_sem] theorem sds_app1 {a : List Sta} {s : Sta} : sds a ++ sd s = sds (a ++ [s]) := by simp [sds]
theorem sds_one {s : Sta} : sds [s] = sd s := by simp [sds]
theorem sds_take (l : List Sta) (k : Nat) : (sds l).take (k * 20) = sds (l.take k) := by
  induction l generalizing k with
  | nil => simp [sds]
  | cons s l ih =>
    cases k with
    | zero => simp [sds]
    | succ k => rw [sds_cons, List.take_succ_cons, sds_cons, List.take_append, sd_len, List.take_of_length_le (by rw [sd_len]; omega), show (k + 1) * 20 - 20 = k * 20 by omega, ih]
theorem sds_drop (l : List Sta) (k : Nat) : (sds l).drop (k * 20) = sds (l.drop k) := by
  induction l generalizing k with
  | nil => simp [sds]
  | cons s l ih =>
    cases k with
    | zero => simp [sds]
    | succ k => rw [sds_cons, List.drop_succ_cons, List.drop_append, sd_len, List.drop_eq_nil_of_le (by rw [sd_len]; omega), show (k + 1) * 20 - 20 = k * 20 by omega, ih]; rfl
theorem sds_at {l : List Sta} {k : Nat} (h : k < l.length) (d : Sta) : (sds l).drop (k * 20) = sd (l.getD k d) ++ sds (l.drop (k + 1)) := by
  rw [sds_drop, List.drop_eq_getElem_cons h, sds_cons]
  simp [List.getD, h]
theorem c32_inj {a b : List Int} (h : c32 a = c32 b) : a = b := by
  induction a generalizing b with
  | nil => cases b with
    | nil => rfl
    | cons y b => simp [c32] at h
  | cons x a ih => cases b with
    | nil => simp [c32] at h
    | cons y b =>
      simp only [c32, List.map_cons, List.cons.injEq, D.val.injEq, Value.int.injEq, true_and] at h
      rw [ih h.2, h.1]
theorem sd_inj {a b : Sta} (h : sd a = sd b) : a = b := by
  unfold sd at h
  simp only [List.cons.injEq, D.val.injEq, Value.int.injEq, true_and] at h
  obtain ⟨h1, h2⟩ := h
  obtain ⟨h3, h4⟩ := List.append_inj h2 (by simp [c32, a.len, b.len])
  simp only [List.cons.injEq, D.val.injEq, Value.int.injEq, Value.bool.injEq, true_and, and_true] at h4
  exact Sta.ext' h1 (c32_inj h3) (U32_inj.1 h4.1) h4.2.1 h4.2.2
section
variable {P : Program} {V' : V → Prop} {K : C → Prop} {s : Sta} {l : List Sta} {r : List D} {o : Own} {nl : Option Bool} {k : IntKind} {a b : Int} {t : TypeId} {i j : Nat}
/-! ### a state's cells -/
theorem sd0 : ((sd s ++ r).map D.toC)[0]? = some (.val (.int .i64 s.frame)) := nr rfl
theorem sdk (x : D) (h : (sd s)[i]? = some x) : ((sd s ++ r).map D.toC)[i]? = some x.toC := by
  have : i < (sd s).length := (List.getElem?_eq_some_iff.1 h).1
  rw [List.getElem?_map, List.getElem?_append_left this, h]; rfl
theorem sd17 : (sd s)[17]? = some (.val (.int .u32 (U32 s.seed))) := by
  unfold sd
  rw [List.getElem?_cons_succ, List.getElem?_append_right (by simp [c32, s.len])]
  simp [c32, s.len]
theorem sd18 : (sd s)[18]? = some (.val (.bool s.over)) := by
  unfold sd
  rw [List.getElem?_cons_succ, List.getElem?_append_right (by simp [c32, s.len])]
  simp [c32, s.len]
theorem sd19 : (sd s)[19]? = some (.val (.int .i64 s.win)) := by
  unfold sd
  rw [List.getElem?_cons_succ, List.getElem?_append_right (by simp [c32, s.len])]
  simp [c32, s.len]
theorem ex_some {α : Type} {q : Option α} {x : α} {K : α → Prop} (h : q = some x) : (∃ c, q = some c ∧ K c) = K x := by subst h; simp
@[go_sem ↓ 1200] theorem m_sd0 : (∃ c, ((sd s).map D.toC)[0]? = some c ∧ K c) = K (.val (.int .i64 s.frame)) := ex_some rfl
@[go_sem ↓ 1200] theorem m_sd17 : (∃ c, ((sd s).map D.toC)[17]? = some c ∧ K c) = K (.val (.int .u32 (U32 s.seed))) := ex_some (by rw [List.getElem?_map, sd17]; rfl)
@[go_sem ↓ 1200] theorem m_sd18 : (∃ c, ((sd s).map D.toC)[18]? = some c ∧ K c) = K (.val (.bool s.over)) := ex_some (by rw [List.getElem?_map, sd18]; rfl)
@[go_sem ↓ 1200] theorem m_sd19 : (∃ c, ((sd s).map D.toC)[19]? = some c ∧ K c) = K (.val (.int .i64 s.win)) := ex_some (by rw [List.getElem?_map, sd19]; rfl)
@[go_sem ↓ 1200] theorem m_sdr0 : (∃ c, (((sd s ++ r).drop 0).map D.toC)[0]? = some c ∧ K c) = K (.val (.int .i64 s.frame)) := ex_some rfl
@[go_sem ↓ 1200] theorem m_sdr0' : (∃ c, ((sd s ++ r).map D.toC)[0]? = some c ∧ K c) = K (.val (.int .i64 s.frame)) := ex_some rfl
theorem toC_take {xs : List D} {n : Nat} : (xs.map D.toC).take n = (xs.take n).map D.toC := by simp
theorem toC_drop {xs : List D} {n : Nat} : (xs.map D.toC).drop n = (xs.drop n).map D.toC := by simp
/-- the whole of it -/
@[go_sem ↓ 1200] theorem p_sd : aPt (some true) 20 ((sd s).map D.toC) 0 V' = V' (.w (.agg ((sd s).map D.toC))) := by
  simp only [aPt, List.length_map, sd_len, List.drop_zero]
  rw [List.take_of_length_le (by simp [sd_len])]
  simp
@[go_sem ↓ 1200] theorem p_sdr : aPt (some true) 20 ((sd s ++ r).map D.toC) 0 V' = V' (.w (.agg ((sd s).map D.toC))) := by
  simp only [aPt, List.length_map, List.length_append, sd_len, List.drop_zero]
  rw [toC_take, List.take_left' sd_len]
  simp
@[go_sem ↓ 1200] theorem p_sc : aPt (some true) 16 ((sd s).map D.toC) 1 V' = V' (.w (.agg ((c32 s.cells).map D.toC))) := by
  simp only [aPt, List.length_map, sd_len]
  rw [toC_drop, toC_take]
  have : ((sd s).drop 1).take 16 = c32 s.cells := by
    unfold sd
    rw [List.drop_succ_cons, List.drop_zero, List.take_left' (by simp [c32, s.len])]
  rw [this]
  simp
@[go_sem ↓ 1200] theorem p_c32 {l : List Int} (h : i < l.length) : (∃ c, ((c32 l).map D.toC)[i]? = some c ∧ K c) = K (.val (.int .i32 (l.getD i 0))) :=
  ex_some (by simp [c32, h, D.toC])
/-! ### rows of states -/
@[go_sem ↓ 1200] theorem e_IAs {d : Sta} (h0 : 0 ≤ a) (h1 : a < l.length) : aIA (some (none, t, 20)) (.cell (.lst o nl 20 (sds l))) a V' = V' (.cell (.mem (sd (l.getD a.toNat (stz 0 0)) ++ sds (l.drop (a.toNat + 1))))) := by
  have h2 : a.toNat < l.length := by omega
  rw [← sds_at h2]
  simp only [aIA, sds_len, h0, true_and]
  have : a * ((20 : Nat) : Int) < ((l.length * 20 : Nat) : Int) := by omega
  simp only [this, true_and]
@[go_sem ↓ 1200] theorem e_lens : aLen P t (.cell (.lst o nl 20 (sds l))) V' = (isSlcT P t = true ∧ V' (.int .i64 l.length)) := by
  simp only [aLen, sds_len, Nat.mul_div_cancel _ (show 0 < 20 by omega)]
def slB20 (q : Option (Option Nat × TypeId × Nat)) : Prop := match q with
  | some (none, _, 20) => True
  | _ => False
@[go_sem] theorem slB20_1 {e : Nat} : slB20 (some (none, e, 20)) = True := nr rfl
theorem slB20_eq {q : Option (Option Nat × TypeId × Nat)} : slB20 q = ∃ e, q = some (none, e, 20) := by
  unfold slB20
  split
  · exact (eq_true ⟨_, rfl⟩).symm
  · rename_i h; exact (eq_false fun ⟨e, he⟩ => h e he).symm
@[congr] theorem cg_slB20 {q q' : Option (Option Nat × TypeId × Nat)} (h : q = q') : slB20 q = slB20 q' := by rw [h]
@[go_sem ↓] theorem e_slHs (h0 : 0 ≤ b) (h1 : b ≤ l.length) : aSlice P t (.cell (.lst o nl 20 (sds l))) none (some (V.int k b)) V' = (slB20 (idxT P t) ∧ V' (.cell (.lst .no nl 20 (sds (l.take b.toNat))))) := by
  rw [slB20_eq]
  refine propext ⟨fun ⟨e, he, l, h, hl, hh, _, _, _, hk⟩ => ⟨⟨e, he⟩, ?_⟩, fun ⟨⟨e, he⟩, hk⟩ => ⟨e, he, 0, b, rfl, rfl, by omega, h0, by rw [sds_len]; omega, ?_⟩⟩
  · cases hl; cases hh; simpa [sds_take] using hk
  · simpa [sds_take] using hk
@[go_sem ↓] theorem e_slLs (h0 : 0 ≤ a) (h1 : a ≤ l.length) : aSlice P t (.cell (.lst o nl 20 (sds l))) (some (V.int k a)) none V' = (slB20 (idxT P t) ∧ V' (.cell (.lst (cutO o) nl 20 (sds (l.drop a.toNat))))) := by
  rw [slB20_eq]
  have e1 : (sds l).length / 20 = l.length := by rw [sds_len]; omega
  have e2 : List.take (l.length * 20) (sds l) = sds l := List.take_of_length_le (by rw [sds_len]; omega)
  cases o <;> (refine propext ⟨fun ⟨e, he, l, h, hl, hh, _, _, _, hk⟩ => ⟨⟨e, he⟩, ?_⟩, fun ⟨⟨e, he⟩, hk⟩ => ⟨e, he, a, l.length, rfl, by simp [bnd, e1], by omega, h1, by rw [sds_len]; omega, ?_⟩⟩) <;> first | (cases hl; cases hh; simpa [e1, e2, sds_drop, cutO] using hk) | (simpa [e1, e2, sds_drop, cutO] using hk)
/-! ### states in a box -/
@[go_sem ↓ 1200] theorem q_sd (h : j < l.length) : aPt (some true) 20 ((sds l).map D.toC) (j * 20) V' = V' (.w (.agg ((sd (l.getD j (stz 0 0))).map D.toC))) := by
  simp only [aPt, List.length_map, sds_len]
  rw [toC_drop, toC_take, sds_at h (stz 0 0), List.take_left' sd_len]
  have : j * 20 + 20 ≤ l.length * 20 := by omega
  simp [this]
theorem sds_set (h : j < l.length) : (sds l).take (j * 20) ++ sd s ++ (sds l).drop (j * 20 + 20) = sds (l.set j s) := by
  rw [show j * 20 + 20 = (j + 1) * 20 by omega, sds_take, sds_drop, sds_app1, sds_app, List.set_eq_take_append_cons_drop, if_pos h]
  simp
@[go_sem ↓ 1200] theorem spl_sds (h : j < l.length) : spl ((sds l).map D.toC) (j * 20) ((sd s).map D.toC) = (sds (l.set j s)).map D.toC := by
  rw [spl_eq (by simp [sds_len, sd_len]; omega)]
  rw [List.length_map, sd_len, toC_take, toC_drop, ← List.map_append, ← List.map_append, sds_set h]
theorem toC_rep (n : Nat) : (List.replicate n ((sd (stz 0 0)).map D.toC)).flatten = (sds (List.replicate n (stz 0 0))).map D.toC := by
  simp only [sds, List.map_flatten, List.map_replicate]
end
@[go_sem] theorem toC_len {xs : List D} : (xs.map D.toC).length = xs.length := by simp
@[go_sem] theorem t_sc {s : Sta} : (((sd s).map D.toC).drop 1).take 16 = (c32 s.cells).map D.toC := by
  rw [toC_drop, toC_take]
  unfold sd
  rw [List.drop_succ_cons, List.drop_zero, List.take_left' (by simp [c32, s.len])]
@[go_sem] theorem t_sd {s : Sta} : (((sd s).map D.toC).drop 0).take 20 = (sd s).map D.toC := by
  rw [List.drop_zero, List.take_of_length_le (by simp [sd_len])]
@[go_sem] theorem t_sd' {s : Sta} : ((sd s).map D.toC).take 20 = (sd s).map D.toC := by
  rw [List.take_of_length_le (by simp [sd_len])]
@[go_sem] theorem t_sdr {s : Sta} {r : List D} : (((sd s ++ r).map D.toC).drop 0).take 20 = (sd s).map D.toC := by
  rw [List.drop_zero, toC_take, List.take_left' sd_len]
@[go_sem] theorem t_sds {l : List Sta} {j : Nat} (h : j < l.length) : (((sds l).map D.toC).drop (j * 20)).take 20 = (sd (l.getD j (stz 0 0))).map D.toC := by
  rw [toC_drop, toC_take, sds_at h (stz 0 0), List.take_left' sd_len]
attribute [go_sem] List.length_append
theorem allD_map {xs : List D} : allD (xs.map D.toC) = some xs := by
  induction xs with
  | nil => rfl
  | cons x xs ih => rw [List.map_cons, e_aD, ih]; cases x <;> rfl
attribute [go_sem] allD_map
/-! ### states that are written down -/
@[go_sem 900] theorem f_stz {f z : Int} (h0 : 0 ≤ z) (h1 : z < 4294967296) : W.agg [.val (.int .i64 f), .val (.int .i32 0), .val (.int .i32 0), .val (.int .i32 0), .val (.int .i32 0), .val (.int .i32 0), .val (.int .i32 0), .val (.int .i32 0), .val (.int .i32 0), .val (.int .i32 0), .val (.int .i32 0), .val (.int .i32 0), .val (.int .i32 0), .val (.int .i32 0), .val (.int .i32 0), .val (.int .i32 0), .val (.int .i32 0), .val (.int .u32 z), .val (.bool false), .val (.int .i64 0)] = W.agg ((sd (stz f (UInt32.ofNat z.toNat))).map D.toC) := by
  have : U32 (UInt32.ofNat z.toNat) = z := by unfold U32; rw [UInt32.toNat_ofNat']; omega
  unfold sd stz
  rw [this]
  rfl
@[go_sem] theorem f_stzU {f : Int} {n : UInt32} : W.agg [.val (.int .i64 f), .val (.int .i32 0), .val (.int .i32 0), .val (.int .i32 0), .val (.int .i32 0), .val (.int .i32 0), .val (.int .i32 0), .val (.int .i32 0), .val (.int .i32 0), .val (.int .i32 0), .val (.int .i32 0), .val (.int .i32 0), .val (.int .i32 0), .val (.int .i32 0), .val (.int .i32 0), .val (.int .i32 0), .val (.int .i32 0), .val (.int .u32 (U32 n)), .val (.bool false), .val (.int .i64 0)] = W.agg ((sd (stz f n)).map D.toC) := nr rfl
@[go_sem] theorem f_stz0 {f : Int} : W.agg [.val (.int .i64 f), .val (.int .i32 0), .val (.int .i32 0), .val (.int .i32 0), .val (.int .i32 0), .val (.int .i32 0), .val (.int .i32 0), .val (.int .i32 0), .val (.int .i32 0), .val (.int .i32 0), .val (.int .i32 0), .val (.int .i32 0), .val (.int .i32 0), .val (.int .i32 0), .val (.int .i32 0), .val (.int .i32 0), .val (.int .i32 0), .val (.int .u32 0), .val (.bool false), .val (.int .i64 0)] = W.agg ((sd (stz f 0)).map D.toC) := nr rfl
theorem spl_sd' {x : Sta} {y : Sta} {l : List C} (h : l = (sd y).map D.toC) : spl ((sd x).map D.toC) 0 l = (sd y).map D.toC := by
  rw [h, spl_eq (by simp [sd_len]), List.take_zero, List.nil_append, List.drop_eq_nil_of_le (by simp [sd_len]), List.append_nil]
@[go_sem 1150] theorem spl_stz {x : Sta} {f z : Int} (h0 : 0 ≤ z) (h1 : z < 4294967296) : spl ((sd x).map D.toC) 0 [.val (.int .i64 f), .val (.int .i32 0), .val (.int .i32 0), .val (.int .i32 0), .val (.int .i32 0), .val (.int .i32 0), .val (.int .i32 0), .val (.int .i32 0), .val (.int .i32 0), .val (.int .i32 0), .val (.int .i32 0), .val (.int .i32 0), .val (.int .i32 0), .val (.int .i32 0), .val (.int .i32 0), .val (.int .i32 0), .val (.int .i32 0), .val (.int .u32 z), .val (.bool false), .val (.int .i64 0)] = (sd (stz f (UInt32.ofNat z.toNat))).map D.toC := by
  have : U32 (UInt32.ofNat z.toNat) = z := by unfold U32; rw [UInt32.toNat_ofNat']; omega
  refine spl_sd' ?_
  unfold sd stz
  rw [this]
  rfl
@[go_sem 1200] theorem spl_stzU {x : Sta} {f : Int} {n : UInt32} : spl ((sd x).map D.toC) 0 [.val (.int .i64 f), .val (.int .i32 0), .val (.int .i32 0), .val (.int .i32 0), .val (.int .i32 0), .val (.int .i32 0), .val (.int .i32 0), .val (.int .i32 0), .val (.int .i32 0), .val (.int .i32 0), .val (.int .i32 0), .val (.int .i32 0), .val (.int .i32 0), .val (.int .i32 0), .val (.int .i32 0), .val (.int .i32 0), .val (.int .i32 0), .val (.int .u32 (U32 n)), .val (.bool false), .val (.int .i64 0)] = (sd (stz f n)).map D.toC := spl_sd' rfl
@[go_sem 1200] theorem spl_stz0 {x : Sta} {f : Int} : spl ((sd x).map D.toC) 0 [.val (.int .i64 f), .val (.int .i32 0), .val (.int .i32 0), .val (.int .i32 0), .val (.int .i32 0), .val (.int .i32 0), .val (.int .i32 0), .val (.int .i32 0), .val (.int .i32 0), .val (.int .i32 0), .val (.int .i32 0), .val (.int .i32 0), .val (.int .i32 0), .val (.int .i32 0), .val (.int .i32 0), .val (.int .i32 0), .val (.int .i32 0), .val (.int .u32 0), .val (.bool false), .val (.int .i64 0)] = (sd (stz f 0)).map D.toC := spl_sd' rfl
@[go_sem] theorem b_stzU {i : Id} {f : Int} {n : UInt32} : ((i, [.val (.int .i64 f), .val (.int .i32 0), .val (.int .i32 0), .val (.int .i32 0), .val (.int .i32 0), .val (.int .i32 0), .val (.int .i32 0), .val (.int .i32 0), .val (.int .i32 0), .val (.int .i32 0), .val (.int .i32 0), .val (.int .i32 0), .val (.int .i32 0), .val (.int .i32 0), .val (.int .i32 0), .val (.int .i32 0), .val (.int .i32 0), .val (.int .u32 (U32 n)), .val (.bool false), .val (.int .i64 0)]) : Id × List C) = (i, (sd (stz f n)).map D.toC) := nr rfl
@[go_sem] theorem b_stz0 {i : Id} {f : Int} : ((i, [.val (.int .i64 f), .val (.int .i32 0), .val (.int .i32 0), .val (.int .i32 0), .val (.int .i32 0), .val (.int .i32 0), .val (.int .i32 0), .val (.int .i32 0), .val (.int .i32 0), .val (.int .i32 0), .val (.int .i32 0), .val (.int .i32 0), .val (.int .i32 0), .val (.int .i32 0), .val (.int .i32 0), .val (.int .i32 0), .val (.int .i32 0), .val (.int .u32 0), .val (.bool false), .val (.int .i64 0)]) : Id × List C) = (i, (sd (stz f 0)).map D.toC) := nr rfl
@[go_sem] theorem t_lit0 {f : Int} : List.take 20 (List.drop 0 ([.val (.int .i64 f), .val (.int .i32 0), .val (.int .i32 0), .val (.int .i32 0), .val (.int .i32 0), .val (.int .i32 0), .val (.int .i32 0), .val (.int .i32 0), .val (.int .i32 0), .val (.int .i32 0), .val (.int .i32 0), .val (.int .i32 0), .val (.int .i32 0), .val (.int .i32 0), .val (.int .i32 0), .val (.int .i32 0), .val (.int .i32 0), .val (.int .u32 0), .val (.bool false), .val (.int .i64 0)] : List C)) = (sd (stz f 0)).map D.toC := nr rfl
@[go_sem] theorem t_litU {f : Int} {n : UInt32} : List.take 20 (List.drop 0 ([.val (.int .i64 f), .val (.int .i32 0), .val (.int .i32 0), .val (.int .i32 0), .val (.int .i32 0), .val (.int .i32 0), .val (.int .i32 0), .val (.int .i32 0), .val (.int .i32 0), .val (.int .i32 0), .val (.int .i32 0), .val (.int .i32 0), .val (.int .i32 0), .val (.int .i32 0), .val (.int .i32 0), .val (.int .i32 0), .val (.int .i32 0), .val (.int .u32 (U32 n)), .val (.bool false), .val (.int .i64 0)] : List C)) = (sd (stz f n)).map D.toC := nr rfl
@[go_sem 1200] theorem spl_lit0 {f : Int} {y : Sta} : spl ([.val (.int .i64 f), .val (.int .i32 0), .val (.int .i32 0), .val (.int .i32 0), .val (.int .i32 0), .val (.int .i32 0), .val (.int .i32 0), .val (.int .i32 0), .val (.int .i32 0), .val (.int .i32 0), .val (.int .i32 0), .val (.int .i32 0), .val (.int .i32 0), .val (.int .i32 0), .val (.int .i32 0), .val (.int .i32 0), .val (.int .i32 0), .val (.int .u32 0), .val (.bool false), .val (.int .i64 0)] : List C) 0 ((sd y).map D.toC) = (sd y).map D.toC := spl_sd' (x := stz f 0) rfl
@[go_sem 1200] theorem spl_litU {f : Int} {n : UInt32} {y : Sta} : spl ([.val (.int .i64 f), .val (.int .i32 0), .val (.int .i32 0), .val (.int .i32 0), .val (.int .i32 0), .val (.int .i32 0), .val (.int .i32 0), .val (.int .i32 0), .val (.int .i32 0), .val (.int .i32 0), .val (.int .i32 0), .val (.int .i32 0), .val (.int .i32 0), .val (.int .i32 0), .val (.int .i32 0), .val (.int .i32 0), .val (.int .i32 0), .val (.int .u32 (U32 n)), .val (.bool false), .val (.int .i64 0)] : List C) 0 ((sd y).map D.toC) = (sd y).map D.toC := spl_sd' (x := stz f n) rfl
@[go_sem ↓ 1200] theorem spl_sd {x y : Sta} : spl ((sd x).map D.toC) 0 ((sd y).map D.toC) = (sd y).map D.toC := by
  rw [spl_eq (by simp [sd_len]), List.take_zero, List.nil_append, List.drop_eq_nil_of_le (by simp [sd_len]), List.append_nil]
end Go.Proofs.Ytamcjecgkfmjkaa

/- What the logic asks of the types of this program. -/
open Go Go.RowKit
namespace Go.Proofs.Ytamcjecgkfmjkaa
theorem mixed : Try.prog.follows .mixedOrders = true := by kernel_rfl
@[go_sem] theorem ty1_fn : isFnT Try.prog 1 = true := by kernel_rfl
@[go_sem] theorem ty1_size : sizeT Try.prog 1 = some 1 := by kernel_rfl
@[go_sem] theorem ty1_agg : isAggT Try.prog 1 = some false := by kernel_rfl
@[go_sem] theorem ty2_size : sizeT Try.prog 2 = some 1 := by kernel_rfl
@[go_sem] theorem ty2_agg : isAggT Try.prog 2 = some false := by kernel_rfl
@[go_sem] theorem ty2_known : knownT Try.prog 2 = true := by kernel_rfl
@[go_sem] theorem ty2_kind : kindT Try.prog 2 = some .i64 := by kernel_rfl
@[go_sem] theorem ty2_isint : isIntT Try.prog 2 = true := by kernel_rfl
@[go_sem] theorem ty2_bytes : bytesT Try.prog 2 = some 8 := by kernel_rfl
@[go_sem] theorem ty2_zero : zeroC Try.prog 2 = some [.val (.int .i64 0)] := by kernel_rfl
@[go_sem] theorem ty2_alloc : allocC Try.prog 2 = some [.val (.int .i64 0)] := by kernel_rfl
@[go_sem] theorem ty3_size : sizeT Try.prog 3 = some 1 := by kernel_rfl
@[go_sem] theorem ty3_agg : isAggT Try.prog 3 = some false := by kernel_rfl
@[go_sem] theorem ty3_known : knownT Try.prog 3 = true := by kernel_rfl
@[go_sem] theorem ty3_kind : kindT Try.prog 3 = some .i64 := by kernel_rfl
@[go_sem] theorem ty3_isint : isIntT Try.prog 3 = true := by kernel_rfl
@[go_sem] theorem ty3_bytes : bytesT Try.prog 3 = some 8 := by kernel_rfl
@[go_sem] theorem ty3_zero : zeroC Try.prog 3 = some [.val (.int .i64 0)] := by kernel_rfl
@[go_sem] theorem ty3_alloc : allocC Try.prog 3 = some [.val (.int .i64 0)] := by kernel_rfl
@[go_sem] theorem ty4_size : sizeT Try.prog 4 = some 1 := by kernel_rfl
@[go_sem] theorem ty4_agg : isAggT Try.prog 4 = some false := by kernel_rfl
@[go_sem] theorem ty4_known : knownT Try.prog 4 = true := by kernel_rfl
@[go_sem] theorem ty4_bool : isBoolT Try.prog 4 = true := by kernel_rfl
@[go_sem] theorem ty4_bytes : bytesT Try.prog 4 = some 1 := by kernel_rfl
@[go_sem] theorem ty4_zero : zeroC Try.prog 4 = some [.val (.bool false)] := by kernel_rfl
@[go_sem] theorem ty4_alloc : allocC Try.prog 4 = some [.val (.bool false)] := by kernel_rfl
@[go_sem] theorem ty5_size : sizeT Try.prog 5 = some 1 := by kernel_rfl
@[go_sem] theorem ty5_agg : isAggT Try.prog 5 = some false := by kernel_rfl
@[go_sem] theorem ty5_known : knownT Try.prog 5 = true := by kernel_rfl
@[go_sem] theorem ty5_kind : kindT Try.prog 5 = some .u8 := by kernel_rfl
@[go_sem] theorem ty5_isint : isIntT Try.prog 5 = true := by kernel_rfl
@[go_sem] theorem ty5_bytes : bytesT Try.prog 5 = some 1 := by kernel_rfl
@[go_sem] theorem ty5_zero : zeroC Try.prog 5 = some [.val (.int .u8 0)] := by kernel_rfl
@[go_sem] theorem ty5_alloc : allocC Try.prog 5 = some [.val (.int .u8 0)] := by kernel_rfl
@[go_sem] theorem ty7_size : sizeT Try.prog 7 = some 4 := by kernel_rfl
@[go_sem] theorem ty7_agg : isAggT Try.prog 7 = some true := by kernel_rfl
@[go_sem] theorem ty7_known : knownT Try.prog 7 = true := by kernel_rfl
@[go_sem] theorem ty7_flat : flatT Try.prog 7 = some (List.replicate 1 (some .i64) ++ List.replicate 1 (some .i64) ++ List.replicate 1 (none) ++ List.replicate 1 (some .u8)) := by kernel_rfl
@[go_sem] theorem ty7_f0 : fldT Try.prog 7 0 = some (0, 2, 1) := by kernel_rfl
@[go_sem] theorem ty7_f1 : fldT Try.prog 7 1 = some (1, 3, 1) := by kernel_rfl
@[go_sem] theorem ty7_f2 : fldT Try.prog 7 2 = some (2, 4, 1) := by kernel_rfl
@[go_sem] theorem ty7_f3 : fldT Try.prog 7 3 = some (3, 6, 1) := by kernel_rfl
@[go_sem] theorem ty7_lay : layT Try.prog 7 = some (.str [(0, 1), (1, 1), (2, 1), (3, 1)]) := by kernel_rfl
@[go_sem] theorem ty7_bytes : bytesT Try.prog 7 = some 24 := by kernel_rfl
@[go_sem] theorem ty7_zero : zeroC Try.prog 7 = some [.val (.int .i64 0), .val (.int .i64 0), .val (.bool false), .val (.int .u8 0)] := by kernel_rfl
@[go_sem] theorem ty7_alloc : allocC Try.prog 7 = some [.val (.int .i64 0), .val (.int .i64 0), .val (.bool false), .val (.int .u8 0)] := by kernel_rfl
@[go_sem] theorem ty9_size : sizeT Try.prog 9 = some 1 := by kernel_rfl
@[go_sem] theorem ty9_agg : isAggT Try.prog 9 = some false := by kernel_rfl
@[go_sem] theorem ty9_known : knownT Try.prog 9 = true := by kernel_rfl
@[go_sem] theorem ty9_str : isStrT Try.prog 9 = true := by kernel_rfl
@[go_sem] theorem ty9_sb : sbT Try.prog 9 = some false := by kernel_rfl
@[go_sem] theorem ty9_bytes : bytesT Try.prog 9 = some 16 := by kernel_rfl
@[go_sem] theorem ty9_zero : zeroC Try.prog 9 = some [.val (.string ⟨#[]⟩)] := by kernel_rfl
@[go_sem] theorem ty9_alloc : allocC Try.prog 9 = some [.val (.string ⟨#[]⟩)] := by kernel_rfl
@[go_sem] theorem ty12_size : sizeT Try.prog 12 = some 1 := by kernel_rfl
@[go_sem] theorem ty12_agg : isAggT Try.prog 12 = some false := by kernel_rfl
@[go_sem] theorem ty12_known : knownT Try.prog 12 = true := by kernel_rfl
@[go_sem] theorem ty12_kind : kindT Try.prog 12 = some .u64 := by kernel_rfl
@[go_sem] theorem ty12_isint : isIntT Try.prog 12 = true := by kernel_rfl
@[go_sem] theorem ty12_bytes : bytesT Try.prog 12 = some 8 := by kernel_rfl
@[go_sem] theorem ty12_zero : zeroC Try.prog 12 = some [.val (.int .u64 0)] := by kernel_rfl
@[go_sem] theorem ty12_alloc : allocC Try.prog 12 = some [.val (.int .u64 0)] := by kernel_rfl
@[go_sem] theorem ty13_size : sizeT Try.prog 13 = some 2 := by kernel_rfl
@[go_sem] theorem ty13_agg : isAggT Try.prog 13 = some true := by kernel_rfl
@[go_sem] theorem ty13_known : knownT Try.prog 13 = true := by kernel_rfl
@[go_sem] theorem ty13_f0 : fldT Try.prog 13 0 = some (0, 9, 1) := by kernel_rfl
@[go_sem] theorem ty13_f1 : fldT Try.prog 13 1 = some (1, 12, 1) := by kernel_rfl
@[go_sem] theorem ty13_lay : layT Try.prog 13 = some (.str [(0, 1), (1, 1)]) := by kernel_rfl
@[go_sem] theorem ty13_bytes : bytesT Try.prog 13 = some 24 := by kernel_rfl
@[go_sem] theorem ty13_zero : zeroC Try.prog 13 = some [.val (.string ⟨#[]⟩), .val (.int .u64 0)] := by kernel_rfl
@[go_sem] theorem ty13_alloc : allocC Try.prog 13 = some [.val (.string ⟨#[]⟩), .val (.int .u64 0)] := by kernel_rfl
@[go_sem] theorem ty15_size : sizeT Try.prog 15 = some 1 := by kernel_rfl
@[go_sem] theorem ty15_agg : isAggT Try.prog 15 = some false := by kernel_rfl
@[go_sem] theorem ty15_known : knownT Try.prog 15 = true := by kernel_rfl
@[go_sem] theorem ty15_ptr : isPtrT Try.prog 15 = true := by kernel_rfl
@[go_sem] theorem ty15_bytes : bytesT Try.prog 15 = some 8 := by kernel_rfl
@[go_sem] theorem ty15_zero : zeroC Try.prog 15 = some [.val (.pointer none)] := by kernel_rfl
@[go_sem] theorem ty15_alloc : allocC Try.prog 15 = some [.val (.pointer none)] := by kernel_rfl
@[go_sem] theorem ty16_size : sizeT Try.prog 16 = some 1 := by kernel_rfl
@[go_sem] theorem ty16_agg : isAggT Try.prog 16 = some false := by kernel_rfl
@[go_sem] theorem ty16_known : knownT Try.prog 16 = true := by kernel_rfl
@[go_sem] theorem ty16_ptr : isPtrT Try.prog 16 = true := by kernel_rfl
@[go_sem] theorem ty16_bytes : bytesT Try.prog 16 = some 8 := by kernel_rfl
@[go_sem] theorem ty16_zero : zeroC Try.prog 16 = some [.val (.pointer none)] := by kernel_rfl
@[go_sem] theorem ty16_alloc : allocC Try.prog 16 = some [.val (.pointer none)] := by kernel_rfl
@[go_sem] theorem ty17_size : sizeT Try.prog 17 = some 1 := by kernel_rfl
@[go_sem] theorem ty17_agg : isAggT Try.prog 17 = some false := by kernel_rfl
@[go_sem] theorem ty17_known : knownT Try.prog 17 = true := by kernel_rfl
@[go_sem] theorem ty17_ptr : isPtrT Try.prog 17 = true := by kernel_rfl
@[go_sem] theorem ty17_bytes : bytesT Try.prog 17 = some 8 := by kernel_rfl
@[go_sem] theorem ty17_zero : zeroC Try.prog 17 = some [.val (.pointer none)] := by kernel_rfl
@[go_sem] theorem ty17_alloc : allocC Try.prog 17 = some [.val (.pointer none)] := by kernel_rfl
@[go_sem] theorem ty18_size : sizeT Try.prog 18 = some 1 := by kernel_rfl
@[go_sem] theorem ty18_agg : isAggT Try.prog 18 = some true := by kernel_rfl
@[go_sem] theorem ty18_known : knownT Try.prog 18 = true := by kernel_rfl
@[go_sem] theorem ty18_f0 : fldT Try.prog 18 0 = some (0, 17, 1) := by kernel_rfl
@[go_sem] theorem ty18_lay : layT Try.prog 18 = some (.str [(0, 1)]) := by kernel_rfl
@[go_sem] theorem ty18_bytes : bytesT Try.prog 18 = some 8 := by kernel_rfl
@[go_sem] theorem ty18_zero : zeroC Try.prog 18 = some [.val (.pointer none)] := by kernel_rfl
@[go_sem] theorem ty18_alloc : allocC Try.prog 18 = some [.val (.pointer none)] := by kernel_rfl
@[go_sem] theorem ty19_size : sizeT Try.prog 19 = some 1 := by kernel_rfl
@[go_sem] theorem ty19_agg : isAggT Try.prog 19 = some true := by kernel_rfl
@[go_sem] theorem ty19_known : knownT Try.prog 19 = true := by kernel_rfl
@[go_sem] theorem ty19_f0 : fldT Try.prog 19 0 = some (0, 17, 1) := by kernel_rfl
@[go_sem] theorem ty19_lay : layT Try.prog 19 = some (.str [(0, 1)]) := by kernel_rfl
@[go_sem] theorem ty19_bytes : bytesT Try.prog 19 = some 8 := by kernel_rfl
@[go_sem] theorem ty19_zero : zeroC Try.prog 19 = some [.val (.pointer none)] := by kernel_rfl
@[go_sem] theorem ty19_alloc : allocC Try.prog 19 = some [.val (.pointer none)] := by kernel_rfl
@[go_sem] theorem ty20_ifc : isIfcT Try.prog 20 = true := by kernel_rfl
@[go_sem] theorem ty21_size : sizeT Try.prog 21 = some 1 := by kernel_rfl
@[go_sem] theorem ty21_agg : isAggT Try.prog 21 = some false := by kernel_rfl
@[go_sem] theorem ty21_known : knownT Try.prog 21 = true := by kernel_rfl
@[go_sem] theorem ty21_kind : kindT Try.prog 21 = some .i32 := by kernel_rfl
@[go_sem] theorem ty21_isint : isIntT Try.prog 21 = true := by kernel_rfl
@[go_sem] theorem ty21_bytes : bytesT Try.prog 21 = some 4 := by kernel_rfl
@[go_sem] theorem ty21_zero : zeroC Try.prog 21 = some [.val (.int .i32 0)] := by kernel_rfl
@[go_sem] theorem ty21_alloc : allocC Try.prog 21 = some [.val (.int .i32 0)] := by kernel_rfl
@[go_sem] theorem ty22_size : sizeT Try.prog 22 = some 1 := by kernel_rfl
@[go_sem] theorem ty22_agg : isAggT Try.prog 22 = some false := by kernel_rfl
@[go_sem] theorem ty22_known : knownT Try.prog 22 = true := by kernel_rfl
@[go_sem] theorem ty22_slc : isSlcT Try.prog 22 = true := by kernel_rfl
@[go_sem] theorem ty22_idx : idxT Try.prog 22 = some (none, 74, 2) := by kernel_rfl
@[go_sem] theorem ty22_bytes : bytesT Try.prog 22 = some 24 := by kernel_rfl
@[go_sem] theorem ty22_zero : zeroC Try.prog 22 = some [.lst .full (some true) 1 []] := by kernel_rfl
@[go_sem] theorem ty22_alloc : allocC Try.prog 22 = some [.lst .full (some true) 1 []] := by kernel_rfl
@[go_sem] theorem ty23_size : sizeT Try.prog 23 = some 3 := by kernel_rfl
@[go_sem] theorem ty23_agg : isAggT Try.prog 23 = some true := by kernel_rfl
@[go_sem] theorem ty23_known : knownT Try.prog 23 = true := by kernel_rfl
@[go_sem] theorem ty23_f0 : fldT Try.prog 23 0 = some (0, 22, 1) := by kernel_rfl
@[go_sem] theorem ty23_f1 : fldT Try.prog 23 1 = some (1, 3, 1) := by kernel_rfl
@[go_sem] theorem ty23_f2 : fldT Try.prog 23 2 = some (2, 3, 1) := by kernel_rfl
@[go_sem] theorem ty23_lay : layT Try.prog 23 = some (.str [(0, 1), (1, 1), (2, 1)]) := by kernel_rfl
@[go_sem] theorem ty23_bytes : bytesT Try.prog 23 = some 40 := by kernel_rfl
@[go_sem] theorem ty23_zero : zeroC Try.prog 23 = some [.lst .full (some true) 1 [], .val (.int .i64 0), .val (.int .i64 0)] := by kernel_rfl
@[go_sem] theorem ty23_alloc : allocC Try.prog 23 = some [.lst .full (some true) 1 [], .val (.int .i64 0), .val (.int .i64 0)] := by kernel_rfl
@[go_sem] theorem ty24_size : sizeT Try.prog 24 = some 3 := by kernel_rfl
@[go_sem] theorem ty24_agg : isAggT Try.prog 24 = some true := by kernel_rfl
@[go_sem] theorem ty24_known : knownT Try.prog 24 = true := by kernel_rfl
@[go_sem] theorem ty24_f0 : fldT Try.prog 24 0 = some (0, 22, 1) := by kernel_rfl
@[go_sem] theorem ty24_f1 : fldT Try.prog 24 1 = some (1, 3, 1) := by kernel_rfl
@[go_sem] theorem ty24_f2 : fldT Try.prog 24 2 = some (2, 3, 1) := by kernel_rfl
@[go_sem] theorem ty24_lay : layT Try.prog 24 = some (.str [(0, 1), (1, 1), (2, 1)]) := by kernel_rfl
@[go_sem] theorem ty24_bytes : bytesT Try.prog 24 = some 40 := by kernel_rfl
@[go_sem] theorem ty24_zero : zeroC Try.prog 24 = some [.lst .full (some true) 1 [], .val (.int .i64 0), .val (.int .i64 0)] := by kernel_rfl
@[go_sem] theorem ty24_alloc : allocC Try.prog 24 = some [.lst .full (some true) 1 [], .val (.int .i64 0), .val (.int .i64 0)] := by kernel_rfl
@[go_sem] theorem ty25_size : sizeT Try.prog 25 = some 1 := by kernel_rfl
@[go_sem] theorem ty25_agg : isAggT Try.prog 25 = some false := by kernel_rfl
@[go_sem] theorem ty25_known : knownT Try.prog 25 = true := by kernel_rfl
@[go_sem] theorem ty25_slc : isSlcT Try.prog 25 = true := by kernel_rfl
@[go_sem] theorem ty25_idx : idxT Try.prog 25 = some (none, 35, 1) := by kernel_rfl
@[go_sem] theorem ty25_bytes : bytesT Try.prog 25 = some 24 := by kernel_rfl
@[go_sem] theorem ty25_zero : zeroC Try.prog 25 = some [.lst .full (some true) 1 []] := by kernel_rfl
@[go_sem] theorem ty25_alloc : allocC Try.prog 25 = some [.lst .full (some true) 1 []] := by kernel_rfl
@[go_sem] theorem ty26_size : sizeT Try.prog 26 = some 1 := by kernel_rfl
@[go_sem] theorem ty26_agg : isAggT Try.prog 26 = some false := by kernel_rfl
@[go_sem] theorem ty26_known : knownT Try.prog 26 = true := by kernel_rfl
@[go_sem] theorem ty26_slc : isSlcT Try.prog 26 = true := by kernel_rfl
@[go_sem] theorem ty26_idx : idxT Try.prog 26 = some (none, 3, 1) := by kernel_rfl
@[go_sem] theorem ty26_bytes : bytesT Try.prog 26 = some 24 := by kernel_rfl
@[go_sem] theorem ty26_zero : zeroC Try.prog 26 = some [.lst .full (some true) 1 []] := by kernel_rfl
@[go_sem] theorem ty26_alloc : allocC Try.prog 26 = some [.lst .full (some true) 1 []] := by kernel_rfl
@[go_sem] theorem ty27_fn : isFnT Try.prog 27 = true := by kernel_rfl
@[go_sem] theorem ty27_size : sizeT Try.prog 27 = some 1 := by kernel_rfl
@[go_sem] theorem ty27_agg : isAggT Try.prog 27 = some false := by kernel_rfl
@[go_sem] theorem ty28_fn : isFnT Try.prog 28 = true := by kernel_rfl
@[go_sem] theorem ty28_size : sizeT Try.prog 28 = some 1 := by kernel_rfl
@[go_sem] theorem ty28_agg : isAggT Try.prog 28 = some false := by kernel_rfl
@[go_sem] theorem ty29_fn : isFnT Try.prog 29 = true := by kernel_rfl
@[go_sem] theorem ty29_size : sizeT Try.prog 29 = some 1 := by kernel_rfl
@[go_sem] theorem ty29_agg : isAggT Try.prog 29 = some false := by kernel_rfl
@[go_sem] theorem ty30_size : sizeT Try.prog 30 = some 1 := by kernel_rfl
@[go_sem] theorem ty30_agg : isAggT Try.prog 30 = some false := by kernel_rfl
@[go_sem] theorem ty30_known : knownT Try.prog 30 = true := by kernel_rfl
@[go_sem] theorem ty30_ptr : isPtrT Try.prog 30 = true := by kernel_rfl
@[go_sem] theorem ty30_bytes : bytesT Try.prog 30 = some 8 := by kernel_rfl
@[go_sem] theorem ty30_zero : zeroC Try.prog 30 = some [.val (.pointer none)] := by kernel_rfl
@[go_sem] theorem ty30_alloc : allocC Try.prog 30 = some [.val (.pointer none)] := by kernel_rfl
@[go_sem] theorem ty31_size : sizeT Try.prog 31 = some 1 := by kernel_rfl
@[go_sem] theorem ty31_agg : isAggT Try.prog 31 = some false := by kernel_rfl
@[go_sem] theorem ty31_known : knownT Try.prog 31 = true := by kernel_rfl
@[go_sem] theorem ty31_kind : kindT Try.prog 31 = some .i64 := by kernel_rfl
@[go_sem] theorem ty31_isint : isIntT Try.prog 31 = true := by kernel_rfl
@[go_sem] theorem ty31_bytes : bytesT Try.prog 31 = some 8 := by kernel_rfl
@[go_sem] theorem ty31_zero : zeroC Try.prog 31 = some [.val (.int .i64 0)] := by kernel_rfl
@[go_sem] theorem ty31_alloc : allocC Try.prog 31 = some [.val (.int .i64 0)] := by kernel_rfl
@[go_sem] theorem ty33_fn : isFnT Try.prog 33 = true := by kernel_rfl
@[go_sem] theorem ty33_size : sizeT Try.prog 33 = some 1 := by kernel_rfl
@[go_sem] theorem ty33_agg : isAggT Try.prog 33 = some false := by kernel_rfl
@[go_sem] theorem ty34_fn : isFnT Try.prog 34 = true := by kernel_rfl
@[go_sem] theorem ty34_size : sizeT Try.prog 34 = some 1 := by kernel_rfl
@[go_sem] theorem ty34_agg : isAggT Try.prog 34 = some false := by kernel_rfl
@[go_sem] theorem ty35_size : sizeT Try.prog 35 = some 1 := by kernel_rfl
@[go_sem] theorem ty35_agg : isAggT Try.prog 35 = some false := by kernel_rfl
@[go_sem] theorem ty35_known : knownT Try.prog 35 = true := by kernel_rfl
@[go_sem] theorem ty35_kind : kindT Try.prog 35 = some .u16 := by kernel_rfl
@[go_sem] theorem ty35_isint : isIntT Try.prog 35 = true := by kernel_rfl
@[go_sem] theorem ty35_bytes : bytesT Try.prog 35 = some 2 := by kernel_rfl
@[go_sem] theorem ty35_zero : zeroC Try.prog 35 = some [.val (.int .u16 0)] := by kernel_rfl
@[go_sem] theorem ty35_alloc : allocC Try.prog 35 = some [.val (.int .u16 0)] := by kernel_rfl
@[go_sem] theorem ty36_size : sizeT Try.prog 36 = some 6 := by kernel_rfl
@[go_sem] theorem ty36_agg : isAggT Try.prog 36 = some true := by kernel_rfl
@[go_sem] theorem ty36_known : knownT Try.prog 36 = true := by kernel_rfl
@[go_sem] theorem ty36_flat : flatT Try.prog 36 = some (List.replicate 1 (some .i64) ++ List.replicate 1 (some .i64) ++ List.replicate 1 (some .i64) ++ List.replicate 1 (some .i64) ++ List.replicate 1 (some .u16) ++ List.replicate 1 (some .i64)) := by kernel_rfl
@[go_sem] theorem ty36_f0 : fldT Try.prog 36 0 = some (0, 3, 1) := by kernel_rfl
@[go_sem] theorem ty36_f1 : fldT Try.prog 36 1 = some (1, 3, 1) := by kernel_rfl
@[go_sem] theorem ty36_f2 : fldT Try.prog 36 2 = some (2, 3, 1) := by kernel_rfl
@[go_sem] theorem ty36_f3 : fldT Try.prog 36 3 = some (3, 3, 1) := by kernel_rfl
@[go_sem] theorem ty36_f4 : fldT Try.prog 36 4 = some (4, 35, 1) := by kernel_rfl
@[go_sem] theorem ty36_f5 : fldT Try.prog 36 5 = some (5, 3, 1) := by kernel_rfl
@[go_sem] theorem ty36_lay : layT Try.prog 36 = some (.str [(0, 1), (1, 1), (2, 1), (3, 1), (4, 1), (5, 1)]) := by kernel_rfl
@[go_sem] theorem ty36_bytes : bytesT Try.prog 36 = some 48 := by kernel_rfl
@[go_sem] theorem ty36_zero : zeroC Try.prog 36 = some [.val (.int .i64 0), .val (.int .i64 0), .val (.int .i64 0), .val (.int .i64 0), .val (.int .u16 0), .val (.int .i64 0)] := by kernel_rfl
@[go_sem] theorem ty36_alloc : allocC Try.prog 36 = some [.val (.int .i64 0), .val (.int .i64 0), .val (.int .i64 0), .val (.int .i64 0), .val (.int .u16 0), .val (.int .i64 0)] := by kernel_rfl
@[go_sem] theorem ty37_size : sizeT Try.prog 37 = some 6 := by kernel_rfl
@[go_sem] theorem ty37_agg : isAggT Try.prog 37 = some true := by kernel_rfl
@[go_sem] theorem ty37_known : knownT Try.prog 37 = true := by kernel_rfl
@[go_sem] theorem ty37_flat : flatT Try.prog 37 = some (List.replicate 1 (some .i64) ++ List.replicate 1 (some .i64) ++ List.replicate 1 (some .i64) ++ List.replicate 1 (some .i64) ++ List.replicate 1 (some .u16) ++ List.replicate 1 (some .i64)) := by kernel_rfl
@[go_sem] theorem ty37_f0 : fldT Try.prog 37 0 = some (0, 3, 1) := by kernel_rfl
@[go_sem] theorem ty37_f1 : fldT Try.prog 37 1 = some (1, 3, 1) := by kernel_rfl
@[go_sem] theorem ty37_f2 : fldT Try.prog 37 2 = some (2, 3, 1) := by kernel_rfl
@[go_sem] theorem ty37_f3 : fldT Try.prog 37 3 = some (3, 3, 1) := by kernel_rfl
@[go_sem] theorem ty37_f4 : fldT Try.prog 37 4 = some (4, 35, 1) := by kernel_rfl
@[go_sem] theorem ty37_f5 : fldT Try.prog 37 5 = some (5, 3, 1) := by kernel_rfl
@[go_sem] theorem ty37_lay : layT Try.prog 37 = some (.str [(0, 1), (1, 1), (2, 1), (3, 1), (4, 1), (5, 1)]) := by kernel_rfl
@[go_sem] theorem ty37_bytes : bytesT Try.prog 37 = some 48 := by kernel_rfl
@[go_sem] theorem ty37_zero : zeroC Try.prog 37 = some [.val (.int .i64 0), .val (.int .i64 0), .val (.int .i64 0), .val (.int .i64 0), .val (.int .u16 0), .val (.int .i64 0)] := by kernel_rfl
@[go_sem] theorem ty37_alloc : allocC Try.prog 37 = some [.val (.int .i64 0), .val (.int .i64 0), .val (.int .i64 0), .val (.int .i64 0), .val (.int .u16 0), .val (.int .i64 0)] := by kernel_rfl
@[go_sem] theorem ty38_size : sizeT Try.prog 38 = some 1 := by kernel_rfl
@[go_sem] theorem ty38_agg : isAggT Try.prog 38 = some false := by kernel_rfl
@[go_sem] theorem ty38_known : knownT Try.prog 38 = true := by kernel_rfl
@[go_sem] theorem ty38_slc : isSlcT Try.prog 38 = true := by kernel_rfl
@[go_sem] theorem ty38_idx : idxT Try.prog 38 = some (none, 40, 2) := by kernel_rfl
@[go_sem] theorem ty38_bytes : bytesT Try.prog 38 = some 24 := by kernel_rfl
@[go_sem] theorem ty38_zero : zeroC Try.prog 38 = some [.lst .full (some true) 1 []] := by kernel_rfl
@[go_sem] theorem ty38_alloc : allocC Try.prog 38 = some [.lst .full (some true) 1 []] := by kernel_rfl
@[go_sem] theorem ty39_size : sizeT Try.prog 39 = some 2 := by kernel_rfl
@[go_sem] theorem ty39_agg : isAggT Try.prog 39 = some true := by kernel_rfl
@[go_sem] theorem ty39_known : knownT Try.prog 39 = true := by kernel_rfl
@[go_sem] theorem ty39_flat : flatT Try.prog 39 = some (List.replicate 2 (some .u16)) := by kernel_rfl
@[go_sem] theorem ty39_idx : idxT Try.prog 39 = some (some 2, 35, 1) := by kernel_rfl
@[go_sem] theorem ty39_lay : layT Try.prog 39 = some (.arr 1) := by kernel_rfl
@[go_sem] theorem ty39_bytes : bytesT Try.prog 39 = some 4 := by kernel_rfl
@[go_sem] theorem ty39_zero : zeroC Try.prog 39 = some [.val (.int .u16 0), .val (.int .u16 0)] := by kernel_rfl
@[go_sem] theorem ty39_alloc : allocC Try.prog 39 = some [.val (.int .u16 0), .val (.int .u16 0)] := by kernel_rfl
theorem ty39_und : ∃ q, Try.prog.underlying 39 = some (.array q.1 q.2) ∧ q = (2, 35) := ⟨(2, 35), by kernel_rfl, rfl⟩
@[go_sem] theorem ty40_size : sizeT Try.prog 40 = some 2 := by kernel_rfl
@[go_sem] theorem ty40_agg : isAggT Try.prog 40 = some true := by kernel_rfl
@[go_sem] theorem ty40_known : knownT Try.prog 40 = true := by kernel_rfl
@[go_sem] theorem ty40_flat : flatT Try.prog 40 = some (List.replicate 2 (some .u16)) := by kernel_rfl
@[go_sem] theorem ty40_idx : idxT Try.prog 40 = some (some 2, 35, 1) := by kernel_rfl
@[go_sem] theorem ty40_lay : layT Try.prog 40 = some (.arr 1) := by kernel_rfl
@[go_sem] theorem ty40_bytes : bytesT Try.prog 40 = some 4 := by kernel_rfl
@[go_sem] theorem ty40_zero : zeroC Try.prog 40 = some [.val (.int .u16 0), .val (.int .u16 0)] := by kernel_rfl
@[go_sem] theorem ty40_alloc : allocC Try.prog 40 = some [.val (.int .u16 0), .val (.int .u16 0)] := by kernel_rfl
theorem ty40_und : ∃ q, Try.prog.underlying 40 = some (.array q.1 q.2) ∧ q = (2, 35) := ⟨(2, 35), by kernel_rfl, rfl⟩
@[go_sem] theorem ty41_size : sizeT Try.prog 41 = some 16 := by kernel_rfl
@[go_sem] theorem ty41_agg : isAggT Try.prog 41 = some true := by kernel_rfl
@[go_sem] theorem ty41_known : knownT Try.prog 41 = true := by kernel_rfl
@[go_sem] theorem ty41_flat : flatT Try.prog 41 = some (List.replicate 16 (some .i32)) := by kernel_rfl
@[go_sem] theorem ty41_idx : idxT Try.prog 41 = some (some 16, 21, 1) := by kernel_rfl
@[go_sem] theorem ty41_lay : layT Try.prog 41 = some (.arr 1) := by kernel_rfl
@[go_sem] theorem ty41_bytes : bytesT Try.prog 41 = some 64 := by kernel_rfl
@[go_sem] theorem ty41_zero : zeroC Try.prog 41 = some [.val (.int .i32 0), .val (.int .i32 0), .val (.int .i32 0), .val (.int .i32 0), .val (.int .i32 0), .val (.int .i32 0), .val (.int .i32 0), .val (.int .i32 0), .val (.int .i32 0), .val (.int .i32 0), .val (.int .i32 0), .val (.int .i32 0), .val (.int .i32 0), .val (.int .i32 0), .val (.int .i32 0), .val (.int .i32 0)] := by kernel_rfl
@[go_sem] theorem ty41_alloc : allocC Try.prog 41 = some [.val (.int .i32 0), .val (.int .i32 0), .val (.int .i32 0), .val (.int .i32 0), .val (.int .i32 0), .val (.int .i32 0), .val (.int .i32 0), .val (.int .i32 0), .val (.int .i32 0), .val (.int .i32 0), .val (.int .i32 0), .val (.int .i32 0), .val (.int .i32 0), .val (.int .i32 0), .val (.int .i32 0), .val (.int .i32 0)] := by kernel_rfl
theorem ty41_und : ∃ q, Try.prog.underlying 41 = some (.array q.1 q.2) ∧ q = (16, 21) := ⟨(16, 21), by kernel_rfl, rfl⟩
@[go_sem] theorem ty42_size : sizeT Try.prog 42 = some 1 := by kernel_rfl
@[go_sem] theorem ty42_agg : isAggT Try.prog 42 = some false := by kernel_rfl
@[go_sem] theorem ty42_known : knownT Try.prog 42 = true := by kernel_rfl
@[go_sem] theorem ty42_kind : kindT Try.prog 42 = some .u32 := by kernel_rfl
@[go_sem] theorem ty42_isint : isIntT Try.prog 42 = true := by kernel_rfl
@[go_sem] theorem ty42_bytes : bytesT Try.prog 42 = some 4 := by kernel_rfl
@[go_sem] theorem ty42_zero : zeroC Try.prog 42 = some [.val (.int .u32 0)] := by kernel_rfl
@[go_sem] theorem ty42_alloc : allocC Try.prog 42 = some [.val (.int .u32 0)] := by kernel_rfl
@[go_sem] theorem ty43_size : sizeT Try.prog 43 = some 20 := by kernel_rfl
@[go_sem] theorem ty43_agg : isAggT Try.prog 43 = some true := by kernel_rfl
@[go_sem] theorem ty43_known : knownT Try.prog 43 = true := by kernel_rfl
@[go_sem] theorem ty43_flat : flatT Try.prog 43 = some (List.replicate 1 (some .i64) ++ List.replicate 16 (some .i32) ++ List.replicate 1 (some .u32) ++ List.replicate 1 (none) ++ List.replicate 1 (some .i64)) := by kernel_rfl
@[go_sem] theorem ty43_f0 : fldT Try.prog 43 0 = some (0, 3, 1) := by kernel_rfl
@[go_sem] theorem ty43_f1 : fldT Try.prog 43 1 = some (1, 41, 16) := by kernel_rfl
@[go_sem] theorem ty43_f2 : fldT Try.prog 43 2 = some (17, 42, 1) := by kernel_rfl
@[go_sem] theorem ty43_f3 : fldT Try.prog 43 3 = some (18, 4, 1) := by kernel_rfl
@[go_sem] theorem ty43_f4 : fldT Try.prog 43 4 = some (19, 3, 1) := by kernel_rfl
@[go_sem] theorem ty43_lay : layT Try.prog 43 = some (.str [(0, 1), (1, 16), (17, 1), (18, 1), (19, 1)]) := by kernel_rfl
@[go_sem] theorem ty43_bytes : bytesT Try.prog 43 = some 88 := by kernel_rfl
@[go_sem] theorem ty43_zero : zeroC Try.prog 43 = some [.val (.int .i64 0), .val (.int .i32 0), .val (.int .i32 0), .val (.int .i32 0), .val (.int .i32 0), .val (.int .i32 0), .val (.int .i32 0), .val (.int .i32 0), .val (.int .i32 0), .val (.int .i32 0), .val (.int .i32 0), .val (.int .i32 0), .val (.int .i32 0), .val (.int .i32 0), .val (.int .i32 0), .val (.int .i32 0), .val (.int .i32 0), .val (.int .u32 0), .val (.bool false), .val (.int .i64 0)] := by kernel_rfl
@[go_sem] theorem ty43_alloc : allocC Try.prog 43 = some [.val (.int .i64 0), .val (.int .i32 0), .val (.int .i32 0), .val (.int .i32 0), .val (.int .i32 0), .val (.int .i32 0), .val (.int .i32 0), .val (.int .i32 0), .val (.int .i32 0), .val (.int .i32 0), .val (.int .i32 0), .val (.int .i32 0), .val (.int .i32 0), .val (.int .i32 0), .val (.int .i32 0), .val (.int .i32 0), .val (.int .i32 0), .val (.int .u32 0), .val (.bool false), .val (.int .i64 0)] := by kernel_rfl
@[go_sem] theorem ty44_size : sizeT Try.prog 44 = some 20 := by kernel_rfl
@[go_sem] theorem ty44_agg : isAggT Try.prog 44 = some true := by kernel_rfl
@[go_sem] theorem ty44_known : knownT Try.prog 44 = true := by kernel_rfl
@[go_sem] theorem ty44_flat : flatT Try.prog 44 = some (List.replicate 1 (some .i64) ++ List.replicate 16 (some .i32) ++ List.replicate 1 (some .u32) ++ List.replicate 1 (none) ++ List.replicate 1 (some .i64)) := by kernel_rfl
@[go_sem] theorem ty44_f0 : fldT Try.prog 44 0 = some (0, 3, 1) := by kernel_rfl
@[go_sem] theorem ty44_f1 : fldT Try.prog 44 1 = some (1, 41, 16) := by kernel_rfl
@[go_sem] theorem ty44_f2 : fldT Try.prog 44 2 = some (17, 42, 1) := by kernel_rfl
@[go_sem] theorem ty44_f3 : fldT Try.prog 44 3 = some (18, 4, 1) := by kernel_rfl
@[go_sem] theorem ty44_f4 : fldT Try.prog 44 4 = some (19, 3, 1) := by kernel_rfl
@[go_sem] theorem ty44_lay : layT Try.prog 44 = some (.str [(0, 1), (1, 16), (17, 1), (18, 1), (19, 1)]) := by kernel_rfl
@[go_sem] theorem ty44_bytes : bytesT Try.prog 44 = some 88 := by kernel_rfl
@[go_sem] theorem ty44_zero : zeroC Try.prog 44 = some [.val (.int .i64 0), .val (.int .i32 0), .val (.int .i32 0), .val (.int .i32 0), .val (.int .i32 0), .val (.int .i32 0), .val (.int .i32 0), .val (.int .i32 0), .val (.int .i32 0), .val (.int .i32 0), .val (.int .i32 0), .val (.int .i32 0), .val (.int .i32 0), .val (.int .i32 0), .val (.int .i32 0), .val (.int .i32 0), .val (.int .i32 0), .val (.int .u32 0), .val (.bool false), .val (.int .i64 0)] := by kernel_rfl
@[go_sem] theorem ty44_alloc : allocC Try.prog 44 = some [.val (.int .i64 0), .val (.int .i32 0), .val (.int .i32 0), .val (.int .i32 0), .val (.int .i32 0), .val (.int .i32 0), .val (.int .i32 0), .val (.int .i32 0), .val (.int .i32 0), .val (.int .i32 0), .val (.int .i32 0), .val (.int .i32 0), .val (.int .i32 0), .val (.int .i32 0), .val (.int .i32 0), .val (.int .i32 0), .val (.int .i32 0), .val (.int .u32 0), .val (.bool false), .val (.int .i64 0)] := by kernel_rfl
@[go_sem] theorem ty46_fn : isFnT Try.prog 46 = true := by kernel_rfl
@[go_sem] theorem ty46_size : sizeT Try.prog 46 = some 1 := by kernel_rfl
@[go_sem] theorem ty46_agg : isAggT Try.prog 46 = some false := by kernel_rfl
@[go_sem] theorem ty47_fn : isFnT Try.prog 47 = true := by kernel_rfl
@[go_sem] theorem ty47_size : sizeT Try.prog 47 = some 1 := by kernel_rfl
@[go_sem] theorem ty47_agg : isAggT Try.prog 47 = some false := by kernel_rfl
@[go_sem] theorem ty48_fn : isFnT Try.prog 48 = true := by kernel_rfl
@[go_sem] theorem ty48_size : sizeT Try.prog 48 = some 1 := by kernel_rfl
@[go_sem] theorem ty48_agg : isAggT Try.prog 48 = some false := by kernel_rfl
@[go_sem] theorem ty49_size : sizeT Try.prog 49 = some 2 := by kernel_rfl
@[go_sem] theorem ty49_agg : isAggT Try.prog 49 = some true := by kernel_rfl
@[go_sem] theorem ty49_known : knownT Try.prog 49 = true := by kernel_rfl
@[go_sem] theorem ty49_flat : flatT Try.prog 49 = some (List.replicate 2 (some .i64)) := by kernel_rfl
@[go_sem] theorem ty49_idx : idxT Try.prog 49 = some (some 2, 3, 1) := by kernel_rfl
@[go_sem] theorem ty49_lay : layT Try.prog 49 = some (.arr 1) := by kernel_rfl
@[go_sem] theorem ty49_bytes : bytesT Try.prog 49 = some 16 := by kernel_rfl
@[go_sem] theorem ty49_zero : zeroC Try.prog 49 = some [.val (.int .i64 0), .val (.int .i64 0)] := by kernel_rfl
@[go_sem] theorem ty49_alloc : allocC Try.prog 49 = some [.val (.int .i64 0), .val (.int .i64 0)] := by kernel_rfl
theorem ty49_und : ∃ q, Try.prog.underlying 49 = some (.array q.1 q.2) ∧ q = (2, 3) := ⟨(2, 3), by kernel_rfl, rfl⟩
@[go_sem] theorem ty50_size : sizeT Try.prog 50 = some 11 := by kernel_rfl
@[go_sem] theorem ty50_agg : isAggT Try.prog 50 = some true := by kernel_rfl
@[go_sem] theorem ty50_known : knownT Try.prog 50 = true := by kernel_rfl
@[go_sem] theorem ty50_flat : flatT Try.prog 50 = some (List.replicate 2 (some .i64) ++ List.replicate 1 (some .u32) ++ List.replicate 2 (some .i64) ++ List.replicate 2 (some .i64) ++ List.replicate 1 (none) ++ List.replicate 1 (some .i64) ++ List.replicate 1 (some .i64) ++ List.replicate 1 (none)) := by kernel_rfl
@[go_sem] theorem ty50_f0 : fldT Try.prog 50 0 = some (0, 49, 2) := by kernel_rfl
@[go_sem] theorem ty50_f1 : fldT Try.prog 50 1 = some (2, 42, 1) := by kernel_rfl
@[go_sem] theorem ty50_f2 : fldT Try.prog 50 2 = some (3, 49, 2) := by kernel_rfl
@[go_sem] theorem ty50_f3 : fldT Try.prog 50 3 = some (5, 49, 2) := by kernel_rfl
@[go_sem] theorem ty50_f4 : fldT Try.prog 50 4 = some (7, 4, 1) := by kernel_rfl
@[go_sem] theorem ty50_f5 : fldT Try.prog 50 5 = some (8, 3, 1) := by kernel_rfl
@[go_sem] theorem ty50_f6 : fldT Try.prog 50 6 = some (9, 3, 1) := by kernel_rfl
@[go_sem] theorem ty50_f7 : fldT Try.prog 50 7 = some (10, 4, 1) := by kernel_rfl
@[go_sem] theorem ty50_lay : layT Try.prog 50 = some (.str [(0, 2), (2, 1), (3, 2), (5, 2), (7, 1), (8, 1), (9, 1), (10, 1)]) := by kernel_rfl
@[go_sem] theorem ty50_bytes : bytesT Try.prog 50 = some 88 := by kernel_rfl
@[go_sem] theorem ty50_zero : zeroC Try.prog 50 = some [.val (.int .i64 0), .val (.int .i64 0), .val (.int .u32 0), .val (.int .i64 0), .val (.int .i64 0), .val (.int .i64 0), .val (.int .i64 0), .val (.bool false), .val (.int .i64 0), .val (.int .i64 0), .val (.bool false)] := by kernel_rfl
@[go_sem] theorem ty50_alloc : allocC Try.prog 50 = some [.val (.int .i64 0), .val (.int .i64 0), .val (.int .u32 0), .val (.int .i64 0), .val (.int .i64 0), .val (.int .i64 0), .val (.int .i64 0), .val (.bool false), .val (.int .i64 0), .val (.int .i64 0), .val (.bool false)] := by kernel_rfl
@[go_sem] theorem ty51_size : sizeT Try.prog 51 = some 11 := by kernel_rfl
@[go_sem] theorem ty51_agg : isAggT Try.prog 51 = some true := by kernel_rfl
@[go_sem] theorem ty51_known : knownT Try.prog 51 = true := by kernel_rfl
@[go_sem] theorem ty51_flat : flatT Try.prog 51 = some (List.replicate 2 (some .i64) ++ List.replicate 1 (some .u32) ++ List.replicate 2 (some .i64) ++ List.replicate 2 (some .i64) ++ List.replicate 1 (none) ++ List.replicate 1 (some .i64) ++ List.replicate 1 (some .i64) ++ List.replicate 1 (none)) := by kernel_rfl
@[go_sem] theorem ty51_f0 : fldT Try.prog 51 0 = some (0, 49, 2) := by kernel_rfl
@[go_sem] theorem ty51_f1 : fldT Try.prog 51 1 = some (2, 42, 1) := by kernel_rfl
@[go_sem] theorem ty51_f2 : fldT Try.prog 51 2 = some (3, 49, 2) := by kernel_rfl
@[go_sem] theorem ty51_f3 : fldT Try.prog 51 3 = some (5, 49, 2) := by kernel_rfl
@[go_sem] theorem ty51_f4 : fldT Try.prog 51 4 = some (7, 4, 1) := by kernel_rfl
@[go_sem] theorem ty51_f5 : fldT Try.prog 51 5 = some (8, 3, 1) := by kernel_rfl
@[go_sem] theorem ty51_f6 : fldT Try.prog 51 6 = some (9, 3, 1) := by kernel_rfl
@[go_sem] theorem ty51_f7 : fldT Try.prog 51 7 = some (10, 4, 1) := by kernel_rfl
@[go_sem] theorem ty51_lay : layT Try.prog 51 = some (.str [(0, 2), (2, 1), (3, 2), (5, 2), (7, 1), (8, 1), (9, 1), (10, 1)]) := by kernel_rfl
@[go_sem] theorem ty51_bytes : bytesT Try.prog 51 = some 88 := by kernel_rfl
@[go_sem] theorem ty51_zero : zeroC Try.prog 51 = some [.val (.int .i64 0), .val (.int .i64 0), .val (.int .u32 0), .val (.int .i64 0), .val (.int .i64 0), .val (.int .i64 0), .val (.int .i64 0), .val (.bool false), .val (.int .i64 0), .val (.int .i64 0), .val (.bool false)] := by kernel_rfl
@[go_sem] theorem ty51_alloc : allocC Try.prog 51 = some [.val (.int .i64 0), .val (.int .i64 0), .val (.int .u32 0), .val (.int .i64 0), .val (.int .i64 0), .val (.int .i64 0), .val (.int .i64 0), .val (.bool false), .val (.int .i64 0), .val (.int .i64 0), .val (.bool false)] := by kernel_rfl
@[go_sem] theorem ty52_fn : isFnT Try.prog 52 = true := by kernel_rfl
@[go_sem] theorem ty52_size : sizeT Try.prog 52 = some 1 := by kernel_rfl
@[go_sem] theorem ty52_agg : isAggT Try.prog 52 = some false := by kernel_rfl
@[go_sem] theorem ty53_fn : isFnT Try.prog 53 = true := by kernel_rfl
@[go_sem] theorem ty53_size : sizeT Try.prog 53 = some 1 := by kernel_rfl
@[go_sem] theorem ty53_agg : isAggT Try.prog 53 = some false := by kernel_rfl
@[go_sem] theorem ty54_fn : isFnT Try.prog 54 = true := by kernel_rfl
@[go_sem] theorem ty54_size : sizeT Try.prog 54 = some 1 := by kernel_rfl
@[go_sem] theorem ty54_agg : isAggT Try.prog 54 = some false := by kernel_rfl
@[go_sem] theorem ty56_fn : isFnT Try.prog 56 = true := by kernel_rfl
@[go_sem] theorem ty56_size : sizeT Try.prog 56 = some 1 := by kernel_rfl
@[go_sem] theorem ty56_agg : isAggT Try.prog 56 = some false := by kernel_rfl
@[go_sem] theorem ty57_fn : isFnT Try.prog 57 = true := by kernel_rfl
@[go_sem] theorem ty57_size : sizeT Try.prog 57 = some 1 := by kernel_rfl
@[go_sem] theorem ty57_agg : isAggT Try.prog 57 = some false := by kernel_rfl
@[go_sem] theorem ty58_fn : isFnT Try.prog 58 = true := by kernel_rfl
@[go_sem] theorem ty58_size : sizeT Try.prog 58 = some 1 := by kernel_rfl
@[go_sem] theorem ty58_agg : isAggT Try.prog 58 = some false := by kernel_rfl
@[go_sem] theorem ty59_fn : isFnT Try.prog 59 = true := by kernel_rfl
@[go_sem] theorem ty59_size : sizeT Try.prog 59 = some 1 := by kernel_rfl
@[go_sem] theorem ty59_agg : isAggT Try.prog 59 = some false := by kernel_rfl
@[go_sem] theorem ty60_fn : isFnT Try.prog 60 = true := by kernel_rfl
@[go_sem] theorem ty60_size : sizeT Try.prog 60 = some 1 := by kernel_rfl
@[go_sem] theorem ty60_agg : isAggT Try.prog 60 = some false := by kernel_rfl
@[go_sem] theorem ty61_size : sizeT Try.prog 61 = some 1 := by kernel_rfl
@[go_sem] theorem ty61_agg : isAggT Try.prog 61 = some false := by kernel_rfl
@[go_sem] theorem ty61_known : knownT Try.prog 61 = true := by kernel_rfl
@[go_sem] theorem ty61_slc : isSlcT Try.prog 61 = true := by kernel_rfl
@[go_sem] theorem ty61_idx : idxT Try.prog 61 = some (none, 37, 6) := by kernel_rfl
@[go_sem] theorem ty61_bytes : bytesT Try.prog 61 = some 24 := by kernel_rfl
@[go_sem] theorem ty61_zero : zeroC Try.prog 61 = some [.lst .full (some true) 1 []] := by kernel_rfl
@[go_sem] theorem ty61_alloc : allocC Try.prog 61 = some [.lst .full (some true) 1 []] := by kernel_rfl
@[go_sem] theorem ty62_fn : isFnT Try.prog 62 = true := by kernel_rfl
@[go_sem] theorem ty62_size : sizeT Try.prog 62 = some 1 := by kernel_rfl
@[go_sem] theorem ty62_agg : isAggT Try.prog 62 = some false := by kernel_rfl
@[go_sem] theorem ty63_fn : isFnT Try.prog 63 = true := by kernel_rfl
@[go_sem] theorem ty63_size : sizeT Try.prog 63 = some 1 := by kernel_rfl
@[go_sem] theorem ty63_agg : isAggT Try.prog 63 = some false := by kernel_rfl
@[go_sem] theorem ty64_fn : isFnT Try.prog 64 = true := by kernel_rfl
@[go_sem] theorem ty64_size : sizeT Try.prog 64 = some 1 := by kernel_rfl
@[go_sem] theorem ty64_agg : isAggT Try.prog 64 = some false := by kernel_rfl
@[go_sem] theorem ty66_fn : isFnT Try.prog 66 = true := by kernel_rfl
@[go_sem] theorem ty66_size : sizeT Try.prog 66 = some 1 := by kernel_rfl
@[go_sem] theorem ty66_agg : isAggT Try.prog 66 = some false := by kernel_rfl
@[go_sem] theorem ty67_fn : isFnT Try.prog 67 = true := by kernel_rfl
@[go_sem] theorem ty67_size : sizeT Try.prog 67 = some 1 := by kernel_rfl
@[go_sem] theorem ty67_agg : isAggT Try.prog 67 = some false := by kernel_rfl
@[go_sem] theorem ty68_fn : isFnT Try.prog 68 = true := by kernel_rfl
@[go_sem] theorem ty68_size : sizeT Try.prog 68 = some 1 := by kernel_rfl
@[go_sem] theorem ty68_agg : isAggT Try.prog 68 = some false := by kernel_rfl
@[go_sem] theorem ty69_size : sizeT Try.prog 69 = some 2 := by kernel_rfl
@[go_sem] theorem ty69_agg : isAggT Try.prog 69 = some true := by kernel_rfl
@[go_sem] theorem ty69_known : knownT Try.prog 69 = true := by kernel_rfl
@[go_sem] theorem ty69_idx : idxT Try.prog 69 = some (some 2, 25, 1) := by kernel_rfl
@[go_sem] theorem ty69_lay : layT Try.prog 69 = some (.arr 1) := by kernel_rfl
@[go_sem] theorem ty69_bytes : bytesT Try.prog 69 = some 48 := by kernel_rfl
@[go_sem] theorem ty69_zero : zeroC Try.prog 69 = some [.lst .full (some true) 1 [], .lst .full (some true) 1 []] := by kernel_rfl
@[go_sem] theorem ty69_alloc : allocC Try.prog 69 = some [.lst .full (some true) 1 [], .lst .full (some true) 1 []] := by kernel_rfl
theorem ty69_und : ∃ q, Try.prog.underlying 69 = some (.array q.1 q.2) ∧ q = (2, 25) := ⟨(2, 25), by kernel_rfl, rfl⟩
@[go_sem] theorem ty70_size : sizeT Try.prog 70 = some 38 := by kernel_rfl
@[go_sem] theorem ty70_agg : isAggT Try.prog 70 = some true := by kernel_rfl
@[go_sem] theorem ty70_known : knownT Try.prog 70 = true := by kernel_rfl
@[go_sem] theorem ty70_f0 : fldT Try.prog 70 0 = some (0, 24, 3) := by kernel_rfl
@[go_sem] theorem ty70_f1 : fldT Try.prog 70 1 = some (3, 51, 11) := by kernel_rfl
@[go_sem] theorem ty70_f2 : fldT Try.prog 70 2 = some (14, 69, 2) := by kernel_rfl
@[go_sem] theorem ty70_f3 : fldT Try.prog 70 3 = some (16, 38, 1) := by kernel_rfl
@[go_sem] theorem ty70_f4 : fldT Try.prog 70 4 = some (17, 44, 20) := by kernel_rfl
@[go_sem] theorem ty70_f5 : fldT Try.prog 70 5 = some (37, 61, 1) := by kernel_rfl
@[go_sem] theorem ty70_lay : layT Try.prog 70 = some (.str [(0, 3), (3, 11), (14, 2), (16, 1), (17, 20), (37, 1)]) := by kernel_rfl
@[go_sem] theorem ty70_bytes : bytesT Try.prog 70 = some 312 := by kernel_rfl
@[go_sem] theorem ty70_zero : zeroC Try.prog 70 = some [.lst .full (some true) 1 [], .val (.int .i64 0), .val (.int .i64 0), .val (.int .i64 0), .val (.int .i64 0), .val (.int .u32 0), .val (.int .i64 0), .val (.int .i64 0), .val (.int .i64 0), .val (.int .i64 0), .val (.bool false), .val (.int .i64 0), .val (.int .i64 0), .val (.bool false), .lst .full (some true) 1 [], .lst .full (some true) 1 [], .lst .full (some true) 1 [], .val (.int .i64 0), .val (.int .i32 0), .val (.int .i32 0), .val (.int .i32 0), .val (.int .i32 0), .val (.int .i32 0), .val (.int .i32 0), .val (.int .i32 0), .val (.int .i32 0), .val (.int .i32 0), .val (.int .i32 0), .val (.int .i32 0), .val (.int .i32 0), .val (.int .i32 0), .val (.int .i32 0), .val (.int .i32 0), .val (.int .i32 0), .val (.int .u32 0), .val (.bool false), .val (.int .i64 0), .lst .full (some true) 1 []] := by kernel_rfl
@[go_sem] theorem ty70_alloc : allocC Try.prog 70 = some [.lst .full (some true) 1 [], .val (.int .i64 0), .val (.int .i64 0), .val (.int .i64 0), .val (.int .i64 0), .val (.int .u32 0), .val (.int .i64 0), .val (.int .i64 0), .val (.int .i64 0), .val (.int .i64 0), .val (.bool false), .val (.int .i64 0), .val (.int .i64 0), .val (.bool false), .lst .full (some true) 1 [], .lst .full (some true) 1 [], .lst .full (some true) 1 [], .val (.int .i64 0), .val (.int .i32 0), .val (.int .i32 0), .val (.int .i32 0), .val (.int .i32 0), .val (.int .i32 0), .val (.int .i32 0), .val (.int .i32 0), .val (.int .i32 0), .val (.int .i32 0), .val (.int .i32 0), .val (.int .i32 0), .val (.int .i32 0), .val (.int .i32 0), .val (.int .i32 0), .val (.int .i32 0), .val (.int .i32 0), .val (.int .u32 0), .val (.bool false), .val (.int .i64 0), .lst .full (some true) 1 []] := by kernel_rfl
@[go_sem] theorem ty71_size : sizeT Try.prog 71 = some 38 := by kernel_rfl
@[go_sem] theorem ty71_agg : isAggT Try.prog 71 = some true := by kernel_rfl
@[go_sem] theorem ty71_known : knownT Try.prog 71 = true := by kernel_rfl
@[go_sem] theorem ty71_f0 : fldT Try.prog 71 0 = some (0, 24, 3) := by kernel_rfl
@[go_sem] theorem ty71_f1 : fldT Try.prog 71 1 = some (3, 51, 11) := by kernel_rfl
@[go_sem] theorem ty71_f2 : fldT Try.prog 71 2 = some (14, 69, 2) := by kernel_rfl
@[go_sem] theorem ty71_f3 : fldT Try.prog 71 3 = some (16, 38, 1) := by kernel_rfl
@[go_sem] theorem ty71_f4 : fldT Try.prog 71 4 = some (17, 44, 20) := by kernel_rfl
@[go_sem] theorem ty71_f5 : fldT Try.prog 71 5 = some (37, 61, 1) := by kernel_rfl
@[go_sem] theorem ty71_lay : layT Try.prog 71 = some (.str [(0, 3), (3, 11), (14, 2), (16, 1), (17, 20), (37, 1)]) := by kernel_rfl
@[go_sem] theorem ty71_bytes : bytesT Try.prog 71 = some 312 := by kernel_rfl
@[go_sem] theorem ty71_zero : zeroC Try.prog 71 = some [.lst .full (some true) 1 [], .val (.int .i64 0), .val (.int .i64 0), .val (.int .i64 0), .val (.int .i64 0), .val (.int .u32 0), .val (.int .i64 0), .val (.int .i64 0), .val (.int .i64 0), .val (.int .i64 0), .val (.bool false), .val (.int .i64 0), .val (.int .i64 0), .val (.bool false), .lst .full (some true) 1 [], .lst .full (some true) 1 [], .lst .full (some true) 1 [], .val (.int .i64 0), .val (.int .i32 0), .val (.int .i32 0), .val (.int .i32 0), .val (.int .i32 0), .val (.int .i32 0), .val (.int .i32 0), .val (.int .i32 0), .val (.int .i32 0), .val (.int .i32 0), .val (.int .i32 0), .val (.int .i32 0), .val (.int .i32 0), .val (.int .i32 0), .val (.int .i32 0), .val (.int .i32 0), .val (.int .i32 0), .val (.int .u32 0), .val (.bool false), .val (.int .i64 0), .lst .full (some true) 1 []] := by kernel_rfl
@[go_sem] theorem ty71_alloc : allocC Try.prog 71 = some [.lst .full (some true) 1 [], .val (.int .i64 0), .val (.int .i64 0), .val (.int .i64 0), .val (.int .i64 0), .val (.int .u32 0), .val (.int .i64 0), .val (.int .i64 0), .val (.int .i64 0), .val (.int .i64 0), .val (.bool false), .val (.int .i64 0), .val (.int .i64 0), .val (.bool false), .lst .full (some true) 1 [], .lst .full (some true) 1 [], .lst .full (some true) 1 [], .val (.int .i64 0), .val (.int .i32 0), .val (.int .i32 0), .val (.int .i32 0), .val (.int .i32 0), .val (.int .i32 0), .val (.int .i32 0), .val (.int .i32 0), .val (.int .i32 0), .val (.int .i32 0), .val (.int .i32 0), .val (.int .i32 0), .val (.int .i32 0), .val (.int .i32 0), .val (.int .i32 0), .val (.int .i32 0), .val (.int .i32 0), .val (.int .u32 0), .val (.bool false), .val (.int .i64 0), .lst .full (some true) 1 []] := by kernel_rfl
@[go_sem] theorem ty72_fn : isFnT Try.prog 72 = true := by kernel_rfl
@[go_sem] theorem ty72_size : sizeT Try.prog 72 = some 1 := by kernel_rfl
@[go_sem] theorem ty72_agg : isAggT Try.prog 72 = some false := by kernel_rfl
@[go_sem] theorem ty73_size : sizeT Try.prog 73 = some 2 := by kernel_rfl
@[go_sem] theorem ty73_agg : isAggT Try.prog 73 = some true := by kernel_rfl
@[go_sem] theorem ty73_known : knownT Try.prog 73 = true := by kernel_rfl
@[go_sem] theorem ty73_flat : flatT Try.prog 73 = some (List.replicate 1 (some .i64) ++ List.replicate 1 (some .i64)) := by kernel_rfl
@[go_sem] theorem ty73_f0 : fldT Try.prog 73 0 = some (0, 3, 1) := by kernel_rfl
@[go_sem] theorem ty73_f1 : fldT Try.prog 73 1 = some (1, 3, 1) := by kernel_rfl
@[go_sem] theorem ty73_lay : layT Try.prog 73 = some (.str [(0, 1), (1, 1)]) := by kernel_rfl
@[go_sem] theorem ty73_bytes : bytesT Try.prog 73 = some 16 := by kernel_rfl
@[go_sem] theorem ty73_zero : zeroC Try.prog 73 = some [.val (.int .i64 0), .val (.int .i64 0)] := by kernel_rfl
@[go_sem] theorem ty73_alloc : allocC Try.prog 73 = some [.val (.int .i64 0), .val (.int .i64 0)] := by kernel_rfl
@[go_sem] theorem ty74_size : sizeT Try.prog 74 = some 2 := by kernel_rfl
@[go_sem] theorem ty74_agg : isAggT Try.prog 74 = some true := by kernel_rfl
@[go_sem] theorem ty74_known : knownT Try.prog 74 = true := by kernel_rfl
@[go_sem] theorem ty74_flat : flatT Try.prog 74 = some (List.replicate 1 (some .i64) ++ List.replicate 1 (some .i64)) := by kernel_rfl
@[go_sem] theorem ty74_f0 : fldT Try.prog 74 0 = some (0, 3, 1) := by kernel_rfl
@[go_sem] theorem ty74_f1 : fldT Try.prog 74 1 = some (1, 3, 1) := by kernel_rfl
@[go_sem] theorem ty74_lay : layT Try.prog 74 = some (.str [(0, 1), (1, 1)]) := by kernel_rfl
@[go_sem] theorem ty74_bytes : bytesT Try.prog 74 = some 16 := by kernel_rfl
@[go_sem] theorem ty74_zero : zeroC Try.prog 74 = some [.val (.int .i64 0), .val (.int .i64 0)] := by kernel_rfl
@[go_sem] theorem ty74_alloc : allocC Try.prog 74 = some [.val (.int .i64 0), .val (.int .i64 0)] := by kernel_rfl
@[go_sem] theorem ty75_fn : isFnT Try.prog 75 = true := by kernel_rfl
@[go_sem] theorem ty75_size : sizeT Try.prog 75 = some 1 := by kernel_rfl
@[go_sem] theorem ty75_agg : isAggT Try.prog 75 = some false := by kernel_rfl
@[go_sem] theorem ty76_fn : isFnT Try.prog 76 = true := by kernel_rfl
@[go_sem] theorem ty76_size : sizeT Try.prog 76 = some 1 := by kernel_rfl
@[go_sem] theorem ty76_agg : isAggT Try.prog 76 = some false := by kernel_rfl
@[go_sem] theorem ty77_fn : isFnT Try.prog 77 = true := by kernel_rfl
@[go_sem] theorem ty77_size : sizeT Try.prog 77 = some 1 := by kernel_rfl
@[go_sem] theorem ty77_agg : isAggT Try.prog 77 = some false := by kernel_rfl
@[go_sem] theorem ty78_size : sizeT Try.prog 78 = some 3 := by kernel_rfl
@[go_sem] theorem ty78_agg : isAggT Try.prog 78 = some true := by kernel_rfl
@[go_sem] theorem ty78_known : knownT Try.prog 78 = true := by kernel_rfl
@[go_sem] theorem ty78_f0 : fldT Try.prog 78 0 = some (0, 75, 1) := by kernel_rfl
@[go_sem] theorem ty78_f1 : fldT Try.prog 78 1 = some (1, 76, 1) := by kernel_rfl
@[go_sem] theorem ty78_f2 : fldT Try.prog 78 2 = some (2, 77, 1) := by kernel_rfl
@[go_sem] theorem ty78_lay : layT Try.prog 78 = some (.str [(0, 1), (1, 1), (2, 1)]) := by kernel_rfl
@[go_sem] theorem ty78_bytes : bytesT Try.prog 78 = some 24 := by kernel_rfl
@[go_sem] theorem ty78_zero : zeroC Try.prog 78 = some [.val (.nilFunc), .val (.nilFunc), .val (.nilFunc)] := by kernel_rfl
@[go_sem] theorem ty78_alloc : allocC Try.prog 78 = some [.val (.nilFunc), .val (.nilFunc), .val (.nilFunc)] := by kernel_rfl
@[go_sem] theorem ty79_size : sizeT Try.prog 79 = some 3 := by kernel_rfl
@[go_sem] theorem ty79_agg : isAggT Try.prog 79 = some true := by kernel_rfl
@[go_sem] theorem ty79_known : knownT Try.prog 79 = true := by kernel_rfl
@[go_sem] theorem ty79_f0 : fldT Try.prog 79 0 = some (0, 75, 1) := by kernel_rfl
@[go_sem] theorem ty79_f1 : fldT Try.prog 79 1 = some (1, 76, 1) := by kernel_rfl
@[go_sem] theorem ty79_f2 : fldT Try.prog 79 2 = some (2, 77, 1) := by kernel_rfl
@[go_sem] theorem ty79_lay : layT Try.prog 79 = some (.str [(0, 1), (1, 1), (2, 1)]) := by kernel_rfl
@[go_sem] theorem ty79_bytes : bytesT Try.prog 79 = some 24 := by kernel_rfl
@[go_sem] theorem ty79_zero : zeroC Try.prog 79 = some [.val (.nilFunc), .val (.nilFunc), .val (.nilFunc)] := by kernel_rfl
@[go_sem] theorem ty79_alloc : allocC Try.prog 79 = some [.val (.nilFunc), .val (.nilFunc), .val (.nilFunc)] := by kernel_rfl
@[go_sem] theorem ty80_size : sizeT Try.prog 80 = some 18 := by kernel_rfl
@[go_sem] theorem ty80_agg : isAggT Try.prog 80 = some true := by kernel_rfl
@[go_sem] theorem ty80_known : knownT Try.prog 80 = true := by kernel_rfl
@[go_sem] theorem ty80_idx : idxT Try.prog 80 = some (some 6, 79, 3) := by kernel_rfl
@[go_sem] theorem ty80_lay : layT Try.prog 80 = some (.arr 3) := by kernel_rfl
@[go_sem] theorem ty80_bytes : bytesT Try.prog 80 = some 144 := by kernel_rfl
@[go_sem] theorem ty80_zero : zeroC Try.prog 80 = some [.val (.nilFunc), .val (.nilFunc), .val (.nilFunc), .val (.nilFunc), .val (.nilFunc), .val (.nilFunc), .val (.nilFunc), .val (.nilFunc), .val (.nilFunc), .val (.nilFunc), .val (.nilFunc), .val (.nilFunc), .val (.nilFunc), .val (.nilFunc), .val (.nilFunc), .val (.nilFunc), .val (.nilFunc), .val (.nilFunc)] := by kernel_rfl
@[go_sem] theorem ty80_alloc : allocC Try.prog 80 = some [.val (.nilFunc), .val (.nilFunc), .val (.nilFunc), .val (.nilFunc), .val (.nilFunc), .val (.nilFunc), .val (.nilFunc), .val (.nilFunc), .val (.nilFunc), .val (.nilFunc), .val (.nilFunc), .val (.nilFunc), .val (.nilFunc), .val (.nilFunc), .val (.nilFunc), .val (.nilFunc), .val (.nilFunc), .val (.nilFunc)] := by kernel_rfl
theorem ty80_und : ∃ q, Try.prog.underlying 80 = some (.array q.1 q.2) ∧ q = (6, 79) := ⟨(6, 79), by kernel_rfl, rfl⟩
@[go_sem] theorem ty81_fn : isFnT Try.prog 81 = true := by kernel_rfl
@[go_sem] theorem ty81_size : sizeT Try.prog 81 = some 1 := by kernel_rfl
@[go_sem] theorem ty81_agg : isAggT Try.prog 81 = some false := by kernel_rfl
@[go_sem] theorem ty82_size : sizeT Try.prog 82 = some 1 := by kernel_rfl
@[go_sem] theorem ty82_agg : isAggT Try.prog 82 = some false := by kernel_rfl
@[go_sem] theorem ty82_known : knownT Try.prog 82 = true := by kernel_rfl
@[go_sem] theorem ty82_slc : isSlcT Try.prog 82 = true := by kernel_rfl
@[go_sem] theorem ty82_idx : idxT Try.prog 82 = some (none, 44, 20) := by kernel_rfl
@[go_sem] theorem ty82_bytes : bytesT Try.prog 82 = some 24 := by kernel_rfl
@[go_sem] theorem ty82_zero : zeroC Try.prog 82 = some [.lst .full (some true) 1 []] := by kernel_rfl
@[go_sem] theorem ty82_alloc : allocC Try.prog 82 = some [.lst .full (some true) 1 []] := by kernel_rfl
@[go_sem] theorem ty84_fn : isFnT Try.prog 84 = true := by kernel_rfl
@[go_sem] theorem ty84_size : sizeT Try.prog 84 = some 1 := by kernel_rfl
@[go_sem] theorem ty84_agg : isAggT Try.prog 84 = some false := by kernel_rfl
@[go_sem] theorem ty85_fn : isFnT Try.prog 85 = true := by kernel_rfl
@[go_sem] theorem ty85_size : sizeT Try.prog 85 = some 1 := by kernel_rfl
@[go_sem] theorem ty85_agg : isAggT Try.prog 85 = some false := by kernel_rfl
@[go_sem] theorem ty86_fn : isFnT Try.prog 86 = true := by kernel_rfl
@[go_sem] theorem ty86_size : sizeT Try.prog 86 = some 1 := by kernel_rfl
@[go_sem] theorem ty86_agg : isAggT Try.prog 86 = some false := by kernel_rfl
@[go_sem] theorem ty87_fn : isFnT Try.prog 87 = true := by kernel_rfl
@[go_sem] theorem ty87_size : sizeT Try.prog 87 = some 1 := by kernel_rfl
@[go_sem] theorem ty87_agg : isAggT Try.prog 87 = some false := by kernel_rfl
@[go_sem] theorem ty88_fn : isFnT Try.prog 88 = true := by kernel_rfl
@[go_sem] theorem ty88_size : sizeT Try.prog 88 = some 1 := by kernel_rfl
@[go_sem] theorem ty88_agg : isAggT Try.prog 88 = some false := by kernel_rfl
@[go_sem] theorem ty89_fn : isFnT Try.prog 89 = true := by kernel_rfl
@[go_sem] theorem ty89_size : sizeT Try.prog 89 = some 1 := by kernel_rfl
@[go_sem] theorem ty89_agg : isAggT Try.prog 89 = some false := by kernel_rfl
@[go_sem] theorem ty91_fn : isFnT Try.prog 91 = true := by kernel_rfl
@[go_sem] theorem ty91_size : sizeT Try.prog 91 = some 1 := by kernel_rfl
@[go_sem] theorem ty91_agg : isAggT Try.prog 91 = some false := by kernel_rfl
@[go_sem] theorem ty92_fn : isFnT Try.prog 92 = true := by kernel_rfl
@[go_sem] theorem ty92_size : sizeT Try.prog 92 = some 1 := by kernel_rfl
@[go_sem] theorem ty92_agg : isAggT Try.prog 92 = some false := by kernel_rfl
@[go_sem] theorem ty93_fn : isFnT Try.prog 93 = true := by kernel_rfl
@[go_sem] theorem ty93_size : sizeT Try.prog 93 = some 1 := by kernel_rfl
@[go_sem] theorem ty93_agg : isAggT Try.prog 93 = some false := by kernel_rfl
@[go_sem] theorem ty94_fn : isFnT Try.prog 94 = true := by kernel_rfl
@[go_sem] theorem ty94_size : sizeT Try.prog 94 = some 1 := by kernel_rfl
@[go_sem] theorem ty94_agg : isAggT Try.prog 94 = some false := by kernel_rfl
@[go_sem] theorem ty95_size : sizeT Try.prog 95 = some 3 := by kernel_rfl
@[go_sem] theorem ty95_agg : isAggT Try.prog 95 = some true := by kernel_rfl
@[go_sem] theorem ty95_known : knownT Try.prog 95 = true := by kernel_rfl
@[go_sem] theorem ty95_f0 : fldT Try.prog 95 0 = some (0, 9, 1) := by kernel_rfl
@[go_sem] theorem ty95_f1 : fldT Try.prog 95 1 = some (1, 4, 1) := by kernel_rfl
@[go_sem] theorem ty95_f2 : fldT Try.prog 95 2 = some (2, 60, 1) := by kernel_rfl
@[go_sem] theorem ty95_lay : layT Try.prog 95 = some (.str [(0, 1), (1, 1), (2, 1)]) := by kernel_rfl
@[go_sem] theorem ty95_bytes : bytesT Try.prog 95 = some 32 := by kernel_rfl
@[go_sem] theorem ty95_zero : zeroC Try.prog 95 = some [.val (.string ⟨#[]⟩), .val (.bool false), .val (.nilFunc)] := by kernel_rfl
@[go_sem] theorem ty95_alloc : allocC Try.prog 95 = some [.val (.string ⟨#[]⟩), .val (.bool false), .val (.nilFunc)] := by kernel_rfl
@[go_sem] theorem ty96_size : sizeT Try.prog 96 = some 3 := by kernel_rfl
@[go_sem] theorem ty96_agg : isAggT Try.prog 96 = some true := by kernel_rfl
@[go_sem] theorem ty96_known : knownT Try.prog 96 = true := by kernel_rfl
@[go_sem] theorem ty96_f0 : fldT Try.prog 96 0 = some (0, 9, 1) := by kernel_rfl
@[go_sem] theorem ty96_f1 : fldT Try.prog 96 1 = some (1, 4, 1) := by kernel_rfl
@[go_sem] theorem ty96_f2 : fldT Try.prog 96 2 = some (2, 60, 1) := by kernel_rfl
@[go_sem] theorem ty96_lay : layT Try.prog 96 = some (.str [(0, 1), (1, 1), (2, 1)]) := by kernel_rfl
@[go_sem] theorem ty96_bytes : bytesT Try.prog 96 = some 32 := by kernel_rfl
@[go_sem] theorem ty96_zero : zeroC Try.prog 96 = some [.val (.string ⟨#[]⟩), .val (.bool false), .val (.nilFunc)] := by kernel_rfl
@[go_sem] theorem ty96_alloc : allocC Try.prog 96 = some [.val (.string ⟨#[]⟩), .val (.bool false), .val (.nilFunc)] := by kernel_rfl
@[go_sem] theorem ty97_size : sizeT Try.prog 97 = some 69 := by kernel_rfl
@[go_sem] theorem ty97_agg : isAggT Try.prog 97 = some true := by kernel_rfl
@[go_sem] theorem ty97_known : knownT Try.prog 97 = true := by kernel_rfl
@[go_sem] theorem ty97_idx : idxT Try.prog 97 = some (some 23, 96, 3) := by kernel_rfl
@[go_sem] theorem ty97_lay : layT Try.prog 97 = some (.arr 3) := by kernel_rfl
@[go_sem] theorem ty97_bytes : bytesT Try.prog 97 = some 736 := by kernel_rfl
@[go_sem] theorem ty97_zero : zeroC Try.prog 97 = some [.val (.string ⟨#[]⟩), .val (.bool false), .val (.nilFunc), .val (.string ⟨#[]⟩), .val (.bool false), .val (.nilFunc), .val (.string ⟨#[]⟩), .val (.bool false), .val (.nilFunc), .val (.string ⟨#[]⟩), .val (.bool false), .val (.nilFunc), .val (.string ⟨#[]⟩), .val (.bool false), .val (.nilFunc), .val (.string ⟨#[]⟩), .val (.bool false), .val (.nilFunc), .val (.string ⟨#[]⟩), .val (.bool false), .val (.nilFunc), .val (.string ⟨#[]⟩), .val (.bool false), .val (.nilFunc), .val (.string ⟨#[]⟩), .val (.bool false), .val (.nilFunc), .val (.string ⟨#[]⟩), .val (.bool false), .val (.nilFunc), .val (.string ⟨#[]⟩), .val (.bool false), .val (.nilFunc), .val (.string ⟨#[]⟩), .val (.bool false), .val (.nilFunc), .val (.string ⟨#[]⟩), .val (.bool false), .val (.nilFunc), .val (.string ⟨#[]⟩), .val (.bool false), .val (.nilFunc), .val (.string ⟨#[]⟩), .val (.bool false), .val (.nilFunc), .val (.string ⟨#[]⟩), .val (.bool false), .val (.nilFunc), .val (.string ⟨#[]⟩), .val (.bool false), .val (.nilFunc), .val (.string ⟨#[]⟩), .val (.bool false), .val (.nilFunc), .val (.string ⟨#[]⟩), .val (.bool false), .val (.nilFunc), .val (.string ⟨#[]⟩), .val (.bool false), .val (.nilFunc), .val (.string ⟨#[]⟩), .val (.bool false), .val (.nilFunc), .val (.string ⟨#[]⟩), .val (.bool false), .val (.nilFunc), .val (.string ⟨#[]⟩), .val (.bool false), .val (.nilFunc)] := by kernel_rfl
@[go_sem] theorem ty97_alloc : allocC Try.prog 97 = some [.val (.string ⟨#[]⟩), .val (.bool false), .val (.nilFunc), .val (.string ⟨#[]⟩), .val (.bool false), .val (.nilFunc), .val (.string ⟨#[]⟩), .val (.bool false), .val (.nilFunc), .val (.string ⟨#[]⟩), .val (.bool false), .val (.nilFunc), .val (.string ⟨#[]⟩), .val (.bool false), .val (.nilFunc), .val (.string ⟨#[]⟩), .val (.bool false), .val (.nilFunc), .val (.string ⟨#[]⟩), .val (.bool false), .val (.nilFunc), .val (.string ⟨#[]⟩), .val (.bool false), .val (.nilFunc), .val (.string ⟨#[]⟩), .val (.bool false), .val (.nilFunc), .val (.string ⟨#[]⟩), .val (.bool false), .val (.nilFunc), .val (.string ⟨#[]⟩), .val (.bool false), .val (.nilFunc), .val (.string ⟨#[]⟩), .val (.bool false), .val (.nilFunc), .val (.string ⟨#[]⟩), .val (.bool false), .val (.nilFunc), .val (.string ⟨#[]⟩), .val (.bool false), .val (.nilFunc), .val (.string ⟨#[]⟩), .val (.bool false), .val (.nilFunc), .val (.string ⟨#[]⟩), .val (.bool false), .val (.nilFunc), .val (.string ⟨#[]⟩), .val (.bool false), .val (.nilFunc), .val (.string ⟨#[]⟩), .val (.bool false), .val (.nilFunc), .val (.string ⟨#[]⟩), .val (.bool false), .val (.nilFunc), .val (.string ⟨#[]⟩), .val (.bool false), .val (.nilFunc), .val (.string ⟨#[]⟩), .val (.bool false), .val (.nilFunc), .val (.string ⟨#[]⟩), .val (.bool false), .val (.nilFunc), .val (.string ⟨#[]⟩), .val (.bool false), .val (.nilFunc)] := by kernel_rfl
theorem ty97_und : ∃ q, Try.prog.underlying 97 = some (.array q.1 q.2) ∧ q = (23, 96) := ⟨(23, 96), by kernel_rfl, rfl⟩
@[go_sem] theorem ty98_fn : isFnT Try.prog 98 = true := by kernel_rfl
@[go_sem] theorem ty98_size : sizeT Try.prog 98 = some 1 := by kernel_rfl
@[go_sem] theorem ty98_agg : isAggT Try.prog 98 = some false := by kernel_rfl
@[go_sem] theorem ty100_fn : isFnT Try.prog 100 = true := by kernel_rfl
@[go_sem] theorem ty100_size : sizeT Try.prog 100 = some 1 := by kernel_rfl
@[go_sem] theorem ty100_agg : isAggT Try.prog 100 = some false := by kernel_rfl
@[go_sem] theorem ty102_fn : isFnT Try.prog 102 = true := by kernel_rfl
@[go_sem] theorem ty102_size : sizeT Try.prog 102 = some 1 := by kernel_rfl
@[go_sem] theorem ty102_agg : isAggT Try.prog 102 = some false := by kernel_rfl
@[go_sem] theorem ty103_fn : isFnT Try.prog 103 = true := by kernel_rfl
@[go_sem] theorem ty103_size : sizeT Try.prog 103 = some 1 := by kernel_rfl
@[go_sem] theorem ty103_agg : isAggT Try.prog 103 = some false := by kernel_rfl
@[go_sem] theorem ty104_size : sizeT Try.prog 104 = some 1 := by kernel_rfl
@[go_sem] theorem ty104_agg : isAggT Try.prog 104 = some false := by kernel_rfl
@[go_sem] theorem ty104_known : knownT Try.prog 104 = true := by kernel_rfl
@[go_sem] theorem ty104_ptr : isPtrT Try.prog 104 = true := by kernel_rfl
@[go_sem] theorem ty104_bytes : bytesT Try.prog 104 = some 8 := by kernel_rfl
@[go_sem] theorem ty104_zero : zeroC Try.prog 104 = some [.val (.pointer none)] := by kernel_rfl
@[go_sem] theorem ty104_alloc : allocC Try.prog 104 = some [.val (.pointer none)] := by kernel_rfl
@[go_sem] theorem ty105_size : sizeT Try.prog 105 = some 1 := by kernel_rfl
@[go_sem] theorem ty105_agg : isAggT Try.prog 105 = some false := by kernel_rfl
@[go_sem] theorem ty105_known : knownT Try.prog 105 = true := by kernel_rfl
@[go_sem] theorem ty105_slc : isSlcT Try.prog 105 = true := by kernel_rfl
@[go_sem] theorem ty105_idx : idxT Try.prog 105 = some (none, 21, 1) := by kernel_rfl
@[go_sem] theorem ty105_bytes : bytesT Try.prog 105 = some 24 := by kernel_rfl
@[go_sem] theorem ty105_zero : zeroC Try.prog 105 = some [.lst .full (some true) 1 []] := by kernel_rfl
@[go_sem] theorem ty105_alloc : allocC Try.prog 105 = some [.lst .full (some true) 1 []] := by kernel_rfl
@[go_sem] theorem ty106_size : sizeT Try.prog 106 = some 26 := by kernel_rfl
@[go_sem] theorem ty106_agg : isAggT Try.prog 106 = some true := by kernel_rfl
@[go_sem] theorem ty106_known : knownT Try.prog 106 = true := by kernel_rfl
@[go_sem] theorem ty106_f0 : fldT Try.prog 106 0 = some (0, 44, 20) := by kernel_rfl
@[go_sem] theorem ty106_f1 : fldT Try.prog 106 1 = some (20, 40, 2) := by kernel_rfl
@[go_sem] theorem ty106_f2 : fldT Try.prog 106 2 = some (22, 105, 1) := by kernel_rfl
@[go_sem] theorem ty106_f3 : fldT Try.prog 106 3 = some (23, 3, 1) := by kernel_rfl
@[go_sem] theorem ty106_f4 : fldT Try.prog 106 4 = some (24, 3, 1) := by kernel_rfl
@[go_sem] theorem ty106_f5 : fldT Try.prog 106 5 = some (25, 4, 1) := by kernel_rfl
@[go_sem] theorem ty106_lay : layT Try.prog 106 = some (.str [(0, 20), (20, 2), (22, 1), (23, 1), (24, 1), (25, 1)]) := by kernel_rfl
@[go_sem] theorem ty106_bytes : bytesT Try.prog 106 = some 144 := by kernel_rfl
@[go_sem] theorem ty106_zero : zeroC Try.prog 106 = some [.val (.int .i64 0), .val (.int .i32 0), .val (.int .i32 0), .val (.int .i32 0), .val (.int .i32 0), .val (.int .i32 0), .val (.int .i32 0), .val (.int .i32 0), .val (.int .i32 0), .val (.int .i32 0), .val (.int .i32 0), .val (.int .i32 0), .val (.int .i32 0), .val (.int .i32 0), .val (.int .i32 0), .val (.int .i32 0), .val (.int .i32 0), .val (.int .u32 0), .val (.bool false), .val (.int .i64 0), .val (.int .u16 0), .val (.int .u16 0), .lst .full (some true) 1 [], .val (.int .i64 0), .val (.int .i64 0), .val (.bool false)] := by kernel_rfl
@[go_sem] theorem ty106_alloc : allocC Try.prog 106 = some [.val (.int .i64 0), .val (.int .i32 0), .val (.int .i32 0), .val (.int .i32 0), .val (.int .i32 0), .val (.int .i32 0), .val (.int .i32 0), .val (.int .i32 0), .val (.int .i32 0), .val (.int .i32 0), .val (.int .i32 0), .val (.int .i32 0), .val (.int .i32 0), .val (.int .i32 0), .val (.int .i32 0), .val (.int .i32 0), .val (.int .i32 0), .val (.int .u32 0), .val (.bool false), .val (.int .i64 0), .val (.int .u16 0), .val (.int .u16 0), .lst .full (some true) 1 [], .val (.int .i64 0), .val (.int .i64 0), .val (.bool false)] := by kernel_rfl
@[go_sem] theorem ty107_size : sizeT Try.prog 107 = some 26 := by kernel_rfl
@[go_sem] theorem ty107_agg : isAggT Try.prog 107 = some true := by kernel_rfl
@[go_sem] theorem ty107_known : knownT Try.prog 107 = true := by kernel_rfl
@[go_sem] theorem ty107_f0 : fldT Try.prog 107 0 = some (0, 44, 20) := by kernel_rfl
@[go_sem] theorem ty107_f1 : fldT Try.prog 107 1 = some (20, 40, 2) := by kernel_rfl
@[go_sem] theorem ty107_f2 : fldT Try.prog 107 2 = some (22, 105, 1) := by kernel_rfl
@[go_sem] theorem ty107_f3 : fldT Try.prog 107 3 = some (23, 3, 1) := by kernel_rfl
@[go_sem] theorem ty107_f4 : fldT Try.prog 107 4 = some (24, 3, 1) := by kernel_rfl
@[go_sem] theorem ty107_f5 : fldT Try.prog 107 5 = some (25, 4, 1) := by kernel_rfl
@[go_sem] theorem ty107_lay : layT Try.prog 107 = some (.str [(0, 20), (20, 2), (22, 1), (23, 1), (24, 1), (25, 1)]) := by kernel_rfl
@[go_sem] theorem ty107_bytes : bytesT Try.prog 107 = some 144 := by kernel_rfl
@[go_sem] theorem ty107_zero : zeroC Try.prog 107 = some [.val (.int .i64 0), .val (.int .i32 0), .val (.int .i32 0), .val (.int .i32 0), .val (.int .i32 0), .val (.int .i32 0), .val (.int .i32 0), .val (.int .i32 0), .val (.int .i32 0), .val (.int .i32 0), .val (.int .i32 0), .val (.int .i32 0), .val (.int .i32 0), .val (.int .i32 0), .val (.int .i32 0), .val (.int .i32 0), .val (.int .i32 0), .val (.int .u32 0), .val (.bool false), .val (.int .i64 0), .val (.int .u16 0), .val (.int .u16 0), .lst .full (some true) 1 [], .val (.int .i64 0), .val (.int .i64 0), .val (.bool false)] := by kernel_rfl
@[go_sem] theorem ty107_alloc : allocC Try.prog 107 = some [.val (.int .i64 0), .val (.int .i32 0), .val (.int .i32 0), .val (.int .i32 0), .val (.int .i32 0), .val (.int .i32 0), .val (.int .i32 0), .val (.int .i32 0), .val (.int .i32 0), .val (.int .i32 0), .val (.int .i32 0), .val (.int .i32 0), .val (.int .i32 0), .val (.int .i32 0), .val (.int .i32 0), .val (.int .i32 0), .val (.int .i32 0), .val (.int .u32 0), .val (.bool false), .val (.int .i64 0), .val (.int .u16 0), .val (.int .u16 0), .lst .full (some true) 1 [], .val (.int .i64 0), .val (.int .i64 0), .val (.bool false)] := by kernel_rfl
@[go_sem] theorem ty108_fn : isFnT Try.prog 108 = true := by kernel_rfl
@[go_sem] theorem ty108_size : sizeT Try.prog 108 = some 1 := by kernel_rfl
@[go_sem] theorem ty108_agg : isAggT Try.prog 108 = some false := by kernel_rfl
@[go_sem] theorem ty109_size : sizeT Try.prog 109 = some 1 := by kernel_rfl
@[go_sem] theorem ty109_agg : isAggT Try.prog 109 = some false := by kernel_rfl
@[go_sem] theorem ty109_known : knownT Try.prog 109 = true := by kernel_rfl
@[go_sem] theorem ty109_ptr : isPtrT Try.prog 109 = true := by kernel_rfl
@[go_sem] theorem ty109_bytes : bytesT Try.prog 109 = some 8 := by kernel_rfl
@[go_sem] theorem ty109_zero : zeroC Try.prog 109 = some [.val (.pointer none)] := by kernel_rfl
@[go_sem] theorem ty109_alloc : allocC Try.prog 109 = some [.val (.pointer none)] := by kernel_rfl
@[go_sem] theorem ty110_size : sizeT Try.prog 110 = some 26 := by kernel_rfl
@[go_sem] theorem ty110_agg : isAggT Try.prog 110 = some true := by kernel_rfl
@[go_sem] theorem ty110_known : knownT Try.prog 110 = true := by kernel_rfl
@[go_sem] theorem ty110_f0 : fldT Try.prog 110 0 = some (0, 44, 20) := by kernel_rfl
@[go_sem] theorem ty110_f1 : fldT Try.prog 110 1 = some (20, 40, 2) := by kernel_rfl
@[go_sem] theorem ty110_f2 : fldT Try.prog 110 2 = some (22, 105, 1) := by kernel_rfl
@[go_sem] theorem ty110_f3 : fldT Try.prog 110 3 = some (23, 3, 1) := by kernel_rfl
@[go_sem] theorem ty110_f4 : fldT Try.prog 110 4 = some (24, 4, 1) := by kernel_rfl
@[go_sem] theorem ty110_f5 : fldT Try.prog 110 5 = some (25, 4, 1) := by kernel_rfl
@[go_sem] theorem ty110_lay : layT Try.prog 110 = some (.str [(0, 20), (20, 2), (22, 1), (23, 1), (24, 1), (25, 1)]) := by kernel_rfl
@[go_sem] theorem ty110_bytes : bytesT Try.prog 110 = some 136 := by kernel_rfl
@[go_sem] theorem ty110_zero : zeroC Try.prog 110 = some [.val (.int .i64 0), .val (.int .i32 0), .val (.int .i32 0), .val (.int .i32 0), .val (.int .i32 0), .val (.int .i32 0), .val (.int .i32 0), .val (.int .i32 0), .val (.int .i32 0), .val (.int .i32 0), .val (.int .i32 0), .val (.int .i32 0), .val (.int .i32 0), .val (.int .i32 0), .val (.int .i32 0), .val (.int .i32 0), .val (.int .i32 0), .val (.int .u32 0), .val (.bool false), .val (.int .i64 0), .val (.int .u16 0), .val (.int .u16 0), .lst .full (some true) 1 [], .val (.int .i64 0), .val (.bool false), .val (.bool false)] := by kernel_rfl
@[go_sem] theorem ty110_alloc : allocC Try.prog 110 = some [.val (.int .i64 0), .val (.int .i32 0), .val (.int .i32 0), .val (.int .i32 0), .val (.int .i32 0), .val (.int .i32 0), .val (.int .i32 0), .val (.int .i32 0), .val (.int .i32 0), .val (.int .i32 0), .val (.int .i32 0), .val (.int .i32 0), .val (.int .i32 0), .val (.int .i32 0), .val (.int .i32 0), .val (.int .i32 0), .val (.int .i32 0), .val (.int .u32 0), .val (.bool false), .val (.int .i64 0), .val (.int .u16 0), .val (.int .u16 0), .lst .full (some true) 1 [], .val (.int .i64 0), .val (.bool false), .val (.bool false)] := by kernel_rfl
@[go_sem] theorem ty111_size : sizeT Try.prog 111 = some 26 := by kernel_rfl
@[go_sem] theorem ty111_agg : isAggT Try.prog 111 = some true := by kernel_rfl
@[go_sem] theorem ty111_known : knownT Try.prog 111 = true := by kernel_rfl
@[go_sem] theorem ty111_f0 : fldT Try.prog 111 0 = some (0, 44, 20) := by kernel_rfl
@[go_sem] theorem ty111_f1 : fldT Try.prog 111 1 = some (20, 40, 2) := by kernel_rfl
@[go_sem] theorem ty111_f2 : fldT Try.prog 111 2 = some (22, 105, 1) := by kernel_rfl
@[go_sem] theorem ty111_f3 : fldT Try.prog 111 3 = some (23, 3, 1) := by kernel_rfl
@[go_sem] theorem ty111_f4 : fldT Try.prog 111 4 = some (24, 4, 1) := by kernel_rfl
@[go_sem] theorem ty111_f5 : fldT Try.prog 111 5 = some (25, 4, 1) := by kernel_rfl
@[go_sem] theorem ty111_lay : layT Try.prog 111 = some (.str [(0, 20), (20, 2), (22, 1), (23, 1), (24, 1), (25, 1)]) := by kernel_rfl
@[go_sem] theorem ty111_bytes : bytesT Try.prog 111 = some 136 := by kernel_rfl
@[go_sem] theorem ty111_zero : zeroC Try.prog 111 = some [.val (.int .i64 0), .val (.int .i32 0), .val (.int .i32 0), .val (.int .i32 0), .val (.int .i32 0), .val (.int .i32 0), .val (.int .i32 0), .val (.int .i32 0), .val (.int .i32 0), .val (.int .i32 0), .val (.int .i32 0), .val (.int .i32 0), .val (.int .i32 0), .val (.int .i32 0), .val (.int .i32 0), .val (.int .i32 0), .val (.int .i32 0), .val (.int .u32 0), .val (.bool false), .val (.int .i64 0), .val (.int .u16 0), .val (.int .u16 0), .lst .full (some true) 1 [], .val (.int .i64 0), .val (.bool false), .val (.bool false)] := by kernel_rfl
@[go_sem] theorem ty111_alloc : allocC Try.prog 111 = some [.val (.int .i64 0), .val (.int .i32 0), .val (.int .i32 0), .val (.int .i32 0), .val (.int .i32 0), .val (.int .i32 0), .val (.int .i32 0), .val (.int .i32 0), .val (.int .i32 0), .val (.int .i32 0), .val (.int .i32 0), .val (.int .i32 0), .val (.int .i32 0), .val (.int .i32 0), .val (.int .i32 0), .val (.int .i32 0), .val (.int .i32 0), .val (.int .u32 0), .val (.bool false), .val (.int .i64 0), .val (.int .u16 0), .val (.int .u16 0), .lst .full (some true) 1 [], .val (.int .i64 0), .val (.bool false), .val (.bool false)] := by kernel_rfl
@[go_sem] theorem ty112_fn : isFnT Try.prog 112 = true := by kernel_rfl
@[go_sem] theorem ty112_size : sizeT Try.prog 112 = some 1 := by kernel_rfl
@[go_sem] theorem ty112_agg : isAggT Try.prog 112 = some false := by kernel_rfl
@[go_sem] theorem ty113_fn : isFnT Try.prog 113 = true := by kernel_rfl
@[go_sem] theorem ty113_size : sizeT Try.prog 113 = some 1 := by kernel_rfl
@[go_sem] theorem ty113_agg : isAggT Try.prog 113 = some false := by kernel_rfl
@[go_sem] theorem ty114_fn : isFnT Try.prog 114 = true := by kernel_rfl
@[go_sem] theorem ty114_size : sizeT Try.prog 114 = some 1 := by kernel_rfl
@[go_sem] theorem ty114_agg : isAggT Try.prog 114 = some false := by kernel_rfl
@[go_sem] theorem ty115_size : sizeT Try.prog 115 = some 1 := by kernel_rfl
@[go_sem] theorem ty115_agg : isAggT Try.prog 115 = some false := by kernel_rfl
@[go_sem] theorem ty115_known : knownT Try.prog 115 = true := by kernel_rfl
@[go_sem] theorem ty115_kind : kindT Try.prog 115 = some .u64 := by kernel_rfl
@[go_sem] theorem ty115_isint : isIntT Try.prog 115 = true := by kernel_rfl
@[go_sem] theorem ty115_bytes : bytesT Try.prog 115 = some 8 := by kernel_rfl
@[go_sem] theorem ty115_zero : zeroC Try.prog 115 = some [.val (.int .u64 0)] := by kernel_rfl
@[go_sem] theorem ty115_alloc : allocC Try.prog 115 = some [.val (.int .u64 0)] := by kernel_rfl
@[go_sem] theorem ty116_fn : isFnT Try.prog 116 = true := by kernel_rfl
@[go_sem] theorem ty116_size : sizeT Try.prog 116 = some 1 := by kernel_rfl
@[go_sem] theorem ty116_agg : isAggT Try.prog 116 = some false := by kernel_rfl
@[go_sem] theorem ty117_fn : isFnT Try.prog 117 = true := by kernel_rfl
@[go_sem] theorem ty117_size : sizeT Try.prog 117 = some 1 := by kernel_rfl
@[go_sem] theorem ty117_agg : isAggT Try.prog 117 = some false := by kernel_rfl
@[go_sem] theorem ty118_size : sizeT Try.prog 118 = some 23 := by kernel_rfl
@[go_sem] theorem ty118_agg : isAggT Try.prog 118 = some true := by kernel_rfl
@[go_sem] theorem ty118_known : knownT Try.prog 118 = true := by kernel_rfl
@[go_sem] theorem ty118_idx : idxT Try.prog 118 = some (some 23, 117, 1) := by kernel_rfl
@[go_sem] theorem ty118_lay : layT Try.prog 118 = some (.arr 1) := by kernel_rfl
@[go_sem] theorem ty118_bytes : bytesT Try.prog 118 = some 184 := by kernel_rfl
@[go_sem] theorem ty118_zero : zeroC Try.prog 118 = some [.val (.nilFunc), .val (.nilFunc), .val (.nilFunc), .val (.nilFunc), .val (.nilFunc), .val (.nilFunc), .val (.nilFunc), .val (.nilFunc), .val (.nilFunc), .val (.nilFunc), .val (.nilFunc), .val (.nilFunc), .val (.nilFunc), .val (.nilFunc), .val (.nilFunc), .val (.nilFunc), .val (.nilFunc), .val (.nilFunc), .val (.nilFunc), .val (.nilFunc), .val (.nilFunc), .val (.nilFunc), .val (.nilFunc)] := by kernel_rfl
@[go_sem] theorem ty118_alloc : allocC Try.prog 118 = some [.val (.nilFunc), .val (.nilFunc), .val (.nilFunc), .val (.nilFunc), .val (.nilFunc), .val (.nilFunc), .val (.nilFunc), .val (.nilFunc), .val (.nilFunc), .val (.nilFunc), .val (.nilFunc), .val (.nilFunc), .val (.nilFunc), .val (.nilFunc), .val (.nilFunc), .val (.nilFunc), .val (.nilFunc), .val (.nilFunc), .val (.nilFunc), .val (.nilFunc), .val (.nilFunc), .val (.nilFunc), .val (.nilFunc)] := by kernel_rfl
theorem ty118_und : ∃ q, Try.prog.underlying 118 = some (.array q.1 q.2) ∧ q = (23, 117) := ⟨(23, 117), by kernel_rfl, rfl⟩
@[go_sem] theorem ty119_fn : isFnT Try.prog 119 = true := by kernel_rfl
@[go_sem] theorem ty119_size : sizeT Try.prog 119 = some 1 := by kernel_rfl
@[go_sem] theorem ty119_agg : isAggT Try.prog 119 = some false := by kernel_rfl
@[go_sem] theorem ty120_fn : isFnT Try.prog 120 = true := by kernel_rfl
@[go_sem] theorem ty120_size : sizeT Try.prog 120 = some 1 := by kernel_rfl
@[go_sem] theorem ty120_agg : isAggT Try.prog 120 = some false := by kernel_rfl
@[go_sem] theorem ty121_fn : isFnT Try.prog 121 = true := by kernel_rfl
@[go_sem] theorem ty121_size : sizeT Try.prog 121 = some 1 := by kernel_rfl
@[go_sem] theorem ty121_agg : isAggT Try.prog 121 = some false := by kernel_rfl
@[go_sem] theorem ty122_fn : isFnT Try.prog 122 = true := by kernel_rfl
@[go_sem] theorem ty122_size : sizeT Try.prog 122 = some 1 := by kernel_rfl
@[go_sem] theorem ty122_agg : isAggT Try.prog 122 = some false := by kernel_rfl
@[go_sem] theorem ty123_fn : isFnT Try.prog 123 = true := by kernel_rfl
@[go_sem] theorem ty123_size : sizeT Try.prog 123 = some 1 := by kernel_rfl
@[go_sem] theorem ty123_agg : isAggT Try.prog 123 = some false := by kernel_rfl
@[go_sem] theorem ty124_fn : isFnT Try.prog 124 = true := by kernel_rfl
@[go_sem] theorem ty124_size : sizeT Try.prog 124 = some 1 := by kernel_rfl
@[go_sem] theorem ty124_agg : isAggT Try.prog 124 = some false := by kernel_rfl
@[go_sem] theorem ty125_fn : isFnT Try.prog 125 = true := by kernel_rfl
@[go_sem] theorem ty125_size : sizeT Try.prog 125 = some 1 := by kernel_rfl
@[go_sem] theorem ty125_agg : isAggT Try.prog 125 = some false := by kernel_rfl
@[go_sem] theorem ty126_size : sizeT Try.prog 126 = some 4 := by kernel_rfl
@[go_sem] theorem ty126_agg : isAggT Try.prog 126 = some true := by kernel_rfl
@[go_sem] theorem ty126_known : knownT Try.prog 126 = true := by kernel_rfl
@[go_sem] theorem ty126_f0 : fldT Try.prog 126 0 = some (0, 17, 1) := by kernel_rfl
@[go_sem] theorem ty126_f1 : fldT Try.prog 126 1 = some (1, 17, 1) := by kernel_rfl
@[go_sem] theorem ty126_f2 : fldT Try.prog 126 2 = some (2, 17, 1) := by kernel_rfl
@[go_sem] theorem ty126_f3 : fldT Try.prog 126 3 = some (3, 9, 1) := by kernel_rfl
@[go_sem] theorem ty126_lay : layT Try.prog 126 = some (.str [(0, 1), (1, 1), (2, 1), (3, 1)]) := by kernel_rfl
@[go_sem] theorem ty126_bytes : bytesT Try.prog 126 = some 40 := by kernel_rfl
@[go_sem] theorem ty126_zero : zeroC Try.prog 126 = some [.val (.pointer none), .val (.pointer none), .val (.pointer none), .val (.string ⟨#[]⟩)] := by kernel_rfl
@[go_sem] theorem ty126_alloc : allocC Try.prog 126 = some [.val (.pointer none), .val (.pointer none), .val (.pointer none), .val (.string ⟨#[]⟩)] := by kernel_rfl
@[go_sem] theorem ty128_size : sizeT Try.prog 128 = some 0 := by kernel_rfl
@[go_sem] theorem ty128_agg : isAggT Try.prog 128 = some true := by kernel_rfl
@[go_sem] theorem ty128_known : knownT Try.prog 128 = true := by kernel_rfl
@[go_sem] theorem ty128_idx : idxT Try.prog 128 = some (some 0, 16, 1) := by kernel_rfl
@[go_sem] theorem ty128_lay : layT Try.prog 128 = some (.arr 1) := by kernel_rfl
@[go_sem] theorem ty128_bytes : bytesT Try.prog 128 = some 0 := by kernel_rfl
@[go_sem] theorem ty128_zero : zeroC Try.prog 128 = some [] := by kernel_rfl
@[go_sem] theorem ty128_alloc : allocC Try.prog 128 = some [] := by kernel_rfl
theorem ty128_und : ∃ q, Try.prog.underlying 128 = some (.array q.1 q.2) ∧ q = (0, 16) := ⟨(0, 16), by kernel_rfl, rfl⟩
@[go_sem] theorem ty129_size : sizeT Try.prog 129 = some 0 := by kernel_rfl
@[go_sem] theorem ty129_agg : isAggT Try.prog 129 = some true := by kernel_rfl
@[go_sem] theorem ty129_known : knownT Try.prog 129 = true := by kernel_rfl
@[go_sem] theorem ty129_f0 : fldT Try.prog 129 0 = some (0, 128, 0) := by kernel_rfl
@[go_sem] theorem ty129_lay : layT Try.prog 129 = some (.str [(0, 0)]) := by kernel_rfl
@[go_sem] theorem ty129_bytes : bytesT Try.prog 129 = some 0 := by kernel_rfl
@[go_sem] theorem ty129_zero : zeroC Try.prog 129 = some [] := by kernel_rfl
@[go_sem] theorem ty129_alloc : allocC Try.prog 129 = some [] := by kernel_rfl
@[go_sem] theorem ty131_fn : isFnT Try.prog 131 = true := by kernel_rfl
@[go_sem] theorem ty131_size : sizeT Try.prog 131 = some 1 := by kernel_rfl
@[go_sem] theorem ty131_agg : isAggT Try.prog 131 = some false := by kernel_rfl
@[go_sem] theorem ty134_fn : isFnT Try.prog 134 = true := by kernel_rfl
@[go_sem] theorem ty134_size : sizeT Try.prog 134 = some 1 := by kernel_rfl
@[go_sem] theorem ty134_agg : isAggT Try.prog 134 = some false := by kernel_rfl
@[go_sem] theorem ty135_size : sizeT Try.prog 135 = some 1 := by kernel_rfl
@[go_sem] theorem ty135_agg : isAggT Try.prog 135 = some false := by kernel_rfl
@[go_sem] theorem ty135_known : knownT Try.prog 135 = true := by kernel_rfl
@[go_sem] theorem ty135_ptr : isPtrT Try.prog 135 = true := by kernel_rfl
@[go_sem] theorem ty135_bytes : bytesT Try.prog 135 = some 8 := by kernel_rfl
@[go_sem] theorem ty135_zero : zeroC Try.prog 135 = some [.val (.pointer none)] := by kernel_rfl
@[go_sem] theorem ty135_alloc : allocC Try.prog 135 = some [.val (.pointer none)] := by kernel_rfl
@[go_sem] theorem ty138_size : sizeT Try.prog 138 = some 11 := by kernel_rfl
@[go_sem] theorem ty138_agg : isAggT Try.prog 138 = some true := by kernel_rfl
@[go_sem] theorem ty138_known : knownT Try.prog 138 = true := by kernel_rfl
@[go_sem] theorem ty138_f0 : fldT Try.prog 138 0 = some (0, 12, 1) := by kernel_rfl
@[go_sem] theorem ty138_f1 : fldT Try.prog 138 1 = some (1, 12, 1) := by kernel_rfl
@[go_sem] theorem ty138_f2 : fldT Try.prog 138 2 = some (2, 42, 1) := by kernel_rfl
@[go_sem] theorem ty138_f3 : fldT Try.prog 138 3 = some (3, 132, 1) := by kernel_rfl
@[go_sem] theorem ty138_f4 : fldT Try.prog 138 4 = some (4, 5, 1) := by kernel_rfl
@[go_sem] theorem ty138_f5 : fldT Try.prog 138 5 = some (5, 5, 1) := by kernel_rfl
@[go_sem] theorem ty138_f6 : fldT Try.prog 138 6 = some (6, 133, 1) := by kernel_rfl
@[go_sem] theorem ty138_f7 : fldT Try.prog 138 7 = some (7, 134, 1) := by kernel_rfl
@[go_sem] theorem ty138_f8 : fldT Try.prog 138 8 = some (8, 135, 1) := by kernel_rfl
@[go_sem] theorem ty138_f9 : fldT Try.prog 138 9 = some (9, 136, 1) := by kernel_rfl
@[go_sem] theorem ty138_f10 : fldT Try.prog 138 10 = some (10, 137, 1) := by kernel_rfl
@[go_sem] theorem ty138_lay : layT Try.prog 138 = some (.str [(0, 1), (1, 1), (2, 1), (3, 1), (4, 1), (5, 1), (6, 1), (7, 1), (8, 1), (9, 1), (10, 1)]) := by kernel_rfl
@[go_sem] theorem ty138_bytes : bytesT Try.prog 138 = some 48 := by kernel_rfl
@[go_sem] theorem ty138_zero : zeroC Try.prog 138 = some [.val (.int .u64 0), .val (.int .u64 0), .val (.int .u32 0), .val (.int .u8 0), .val (.int .u8 0), .val (.int .u8 0), .val (.int .u8 0), .val (.nilFunc), .val (.pointer none), .val (.int .i32 0), .val (.int .i32 0)] := by kernel_rfl
@[go_sem] theorem ty138_alloc : allocC Try.prog 138 = some [.val (.int .u64 0), .val (.int .u64 0), .val (.int .u32 0), .val (.int .u8 0), .val (.int .u8 0), .val (.int .u8 0), .val (.int .u8 0), .val (.nilFunc), .val (.pointer none), .val (.int .i32 0), .val (.int .i32 0)] := by kernel_rfl
@[go_sem] theorem ty140_size : sizeT Try.prog 140 = some 1 := by kernel_rfl
@[go_sem] theorem ty140_agg : isAggT Try.prog 140 = some false := by kernel_rfl
@[go_sem] theorem ty140_known : knownT Try.prog 140 = true := by kernel_rfl
@[go_sem] theorem ty140_bytes : bytesT Try.prog 140 = some 8 := by kernel_rfl
@[go_sem] theorem ty140_zero : zeroC Try.prog 140 = some [.val (.pointer none)] := by kernel_rfl
@[go_sem] theorem ty140_alloc : allocC Try.prog 140 = some [.val (.pointer none)] := by kernel_rfl
end Go.Proofs.Ytamcjecgkfmjkaa

/- The logic: rows of instructions (two numbers each). -/
open Go Go.RowKit
namespace Go.Proofs.Ytamcjecgkfmjkaa
set_option linter.unusedSimpArgs false
set_option linter.unusedVariables false
def xd (x : Int × Int) : List D := [.val (.int .i64 x.1), .val (.int .i64 x.2)]
def ins (l : List (Int × Int)) : List D := (l.map xd).flatten
def gi (l : List (Int × Int)) (i : Nat) : Int × Int := l.getD i (0, 0)
@[go_sem] theorem xd_len {x : Int × Int} : (xd x).length = 2 := nr rfl
@[go_sem] theorem ins_nil : ins [] = [] := nr rfl
theorem ins_cons {x : Int × Int} {l : List (Int × Int)} : ins (x :: l) = xd x ++ ins l := by simp [ins]
@[go_sem] theorem ins_len {l : List (Int × Int)} : (ins l).length = l.length * 2 := by
  induction l with
  | nil => rfl
  | cons s l ih => rw [ins_cons, List.length_append, xd_len, ih, List.length_cons]; omega
theorem ins_drop (l : List (Int × Int)) (k : Nat) : (ins l).drop (k * 2) = ins (l.drop k) := by
  induction l generalizing k with
  | nil => simp [ins]
  | cons s l ih =>
    cases k with
    | zero => simp [ins]
    | succ k => rw [ins_cons, List.drop_succ_cons, List.drop_append, xd_len, List.drop_eq_nil_of_le (by rw [xd_len]; omega), show (k + 1) * 2 - 2 = k * 2 by omega, ih]; rfl
theorem ins_at {l : List (Int × Int)} {k : Nat} (h : k < l.length) : (ins l).drop (k * 2) = xd (gi l k) ++ ins (l.drop (k + 1)) := by
  rw [ins_drop, List.drop_eq_getElem_cons h, ins_cons]
  simp [gi, List.getD, h]
section
variable {P : Program} {V' : V → Prop} {K : C → Prop} {l : List (Int × Int)} {r : List D} {x y : Value} {o : Own} {nl : Option Bool} {k : IntKind} {a b : Int} {t : TypeId} {i j : Nat}
@[go_sem ↓ 1200] theorem e_IAi (h0 : 0 ≤ a) (h1 : a < l.length) : aIA (some (none, t, 2)) (.cell (.lst o nl 2 (ins l))) a V' = V' (.cell (.mem (.val (.int .i64 (gi l a.toNat).1) :: .val (.int .i64 (gi l a.toNat).2) :: ins (l.drop (a.toNat + 1))))) := by
  have h2 : a.toNat < l.length := by omega
  have e : (.val (.int .i64 (gi l a.toNat).1) :: .val (.int .i64 (gi l a.toNat).2) :: ins (l.drop (a.toNat + 1)) : List D) = xd (gi l a.toNat) ++ ins (l.drop (a.toNat + 1)) := rfl
  rw [e, ← ins_at h2]
  simp only [aIA, ins_len, h0, true_and]
  have : a * ((2 : Nat) : Int) < ((l.length * 2 : Nat) : Int) := by omega
  simp only [this, true_and]
@[go_sem ↓ 1200] theorem e_leni : aLen P t (.cell (.lst o nl 2 (ins l))) V' = (isSlcT P t = true ∧ V' (.int .i64 l.length)) := by
  simp only [aLen, ins_len, Nat.mul_div_cancel _ (show 0 < 2 by omega)]
@[go_sem ↓ 1200] theorem p_xd : aPt (some true) 2 ((D.val x :: D.val y :: r).map D.toC) 0 V' = V' (.w (.agg [.val x, .val y])) := by
  simp [aPt, D.toC]
@[go_sem] theorem t_xd {x y : C} {r : List C} : List.take 2 (List.drop 0 (x :: y :: r)) = [x, y] := nr rfl
end
end Go.Proofs.Ytamcjecgkfmjkaa

/- The logic: cells laid over rows that are joined of parts; cells of a state. -/
open Go Go.RowKit
namespace Go.Proofs.Ytamcjecgkfmjkaa
set_option linter.unusedSimpArgs false
set_option linter.unusedVariables false
def aFld (P : Program) (q : Option (Nat × TypeId × Nat)) (cs : List C) (K : V → Prop) : Prop :=
  match q with
  | some (off, ft, sz) => aPart P ft sz cs off K
  | none => False
@[go_sem ↓] theorem e_fldA {P : Program} {t : TypeId} {cs : List C} {i : Nat} {K : V → Prop} : aField P t (.w (.agg cs)) i K = aFld P (fldT P t i) cs K := by
  unfold aField aFld
  refine propext ⟨?_, ?_⟩
  · rintro ⟨off, ft, sz, h, hk⟩
    rw [h]; exact hk
  · intro h
    split at h
    · rename_i off ft sz hq
      exact ⟨off, ft, sz, hq, h⟩
    · cases h
@[congr] theorem cg_aFld {P : Program} {q q' : Option (Nat × TypeId × Nat)} {cs : List C} {K : V → Prop} (h0 : q = q') : aFld P q cs K = aFld P q' cs K := by subst h0; rfl
@[go_sem ↓] theorem e_fldS {P : Program} {off ft sz : Nat} {cs : List C} {K : V → Prop} : aFld P (some (off, ft, sz)) cs K = aPart P ft sz cs off K := nr rfl
theorem c_b {P : Program} {Q : AExit → St → Prop} {s : St} {b : Bool} {x y : Code} (h1 : b = true → awp P x Q s) (h2 : b = false → awp P y Q s) : aCondC P (V.bool b) x y Q s := by
  cases b
  · exact ⟨fun h => (by cases h), fun _ => h2 rfl⟩
  · exact ⟨fun _ => h1 rfl, fun h => (by cases h)⟩
theorem spl_appR {α : Type} {a b vs : List α} {o : Nat} (h : o + vs.length ≤ b.length) : spl (a ++ b) (a.length + o) vs = a ++ spl b o vs := by
  rw [spl_eq (by rw [List.length_append]; omega), spl_eq h, List.take_append, List.take_of_length_le (by omega), Nat.add_sub_cancel_left, show a.length + o + vs.length = a.length + (o + vs.length) by omega, List.drop_append, List.drop_eq_nil_of_le (by omega), Nat.add_sub_cancel_left]
  simp
theorem spl_appL {α : Type} {a b vs : List α} {o : Nat} (h : o + vs.length ≤ a.length) : spl (a ++ b) o vs = spl a o vs ++ b := by
  rw [spl_eq (by rw [List.length_append]; omega), spl_eq h, List.take_append_of_le_length (by omega), List.drop_append_of_le_length (by omega)]
  simp
theorem spl_all {x y : List C} (h : x.length = y.length) : spl x 0 y = y := by
  rw [spl_eq (by omega), List.take_zero, List.nil_append, List.drop_eq_nil_of_le (by omega), List.append_nil]
theorem stow_big {s : St} {i : Id} {off : Nat} {cs vs : List C} (h : 2 ≤ vs.length) : St.stow s i off cs vs = ⟨s.slots, hset s.heap i (spl cs off (vs.map (C.clean (fun _ => false) fun _ => true)))⟩ := by
  unfold St.stow
  split
  · simp at h
  · simp at h
  · rfl
/-! ### a state's cells, one by one -/
def Sta.wFrame (s : Sta) (x : Int) : Sta := ⟨x, s.cells, s.seed, s.over, s.win, s.len⟩
def Sta.wCells (s : Sta) (k : Nat) (x : Int) : Sta := ⟨s.frame, s.cells.set k x, s.seed, s.over, s.win, by rw [List.length_set, s.len]⟩
def Sta.wSeed (s : Sta) (x : UInt32) : Sta := ⟨s.frame, s.cells, x, s.over, s.win, s.len⟩
def Sta.wOver (s : Sta) (x : Bool) : Sta := ⟨s.frame, s.cells, s.seed, x, s.win, s.len⟩
def Sta.wWin (s : Sta) (x : Int) : Sta := ⟨s.frame, s.cells, s.seed, s.over, x, s.len⟩
theorem spl1 {l : List C} {k : Nat} {x : C} : spl l k [x] = l.set k x := rfl
theorem sdC_len {s : Sta} : ((sd s).map D.toC).length = 20 := by rw [List.length_map, sd_len]
section
variable {s : Sta}
theorem spl_frame {x : Int} : spl ((sd s).map D.toC) 0 [.val (.int .i64 x)] = (sd (s.wFrame x)).map D.toC := rfl
theorem spl_cells {k : Nat} {x : Int} (h : k < 16) : spl ((sd s).map D.toC) (k + 1) [.val (.int .i32 x)] = (sd (s.wCells k x)).map D.toC := by
  rw [spl1, show (C.val (.int .i32 x)) = D.toC (.val (.int .i32 x)) from rfl, ← List.map_set]
  congr 1
  show List.set (_ :: (c32 s.cells ++ _)) (k + 1) _ = _
  rw [List.set_cons_succ, List.set_append, if_pos (by rw [c32_len, s.len]; omega)]
  unfold sd Sta.wCells c32
  rw [List.map_set]
theorem spl_tail {k : Nat} {x : D} (h : 17 ≤ k) : spl ((sd s).map D.toC) k [x.toC] = ((.val (.int .i64 s.frame) :: (c32 s.cells ++ ([.val (.int .u32 (U32 s.seed)), .val (.bool s.over), .val (.int .i64 s.win)] : List D).set (k - 17) x))).map D.toC := by
  rw [spl1, ← List.map_set]
  congr 1
  obtain ⟨k, rfl⟩ := Nat.exists_eq_add_of_le h
  show List.set (_ :: (c32 s.cells ++ _)) (17 + k) _ = _
  rw [show 17 + k = (16 + k) + 1 by omega, List.set_cons_succ, List.set_append, if_neg (by rw [c32_len, s.len]; omega), c32_len, s.len]
  congr 3
theorem spl_seed {x : UInt32} : spl ((sd s).map D.toC) 17 [.val (.int .u32 (U32 x))] = (sd (s.wSeed x)).map D.toC := spl_tail (x := .val (.int .u32 (U32 x))) (Nat.le_refl _)
theorem spl_over {x : Bool} : spl ((sd s).map D.toC) 18 [.val (.bool x)] = (sd (s.wOver x)).map D.toC := spl_tail (x := .val (.bool x)) (by omega)
theorem spl_win {x : Int} : spl ((sd s).map D.toC) 19 [.val (.int .i64 x)] = (sd (s.wWin x)).map D.toC := spl_tail (x := .val (.int .i64 x)) (by omega)
theorem get_frame : ((sd s).map D.toC)[0]? = some (.val (.int .i64 s.frame)) := rfl
theorem get_cells {k : Nat} (h : k < 16) : ((sd s).map D.toC)[k + 1]? = some (.val (.int .i32 (s.cells.getD k 0))) := by
  rw [List.getElem?_map]
  show Option.map D.toC ((_ :: (c32 s.cells ++ _) : List D)[k + 1]?) = _
  rw [List.getElem?_cons_succ, List.getElem?_append_left (by rw [c32_len, s.len]; omega)]
  have : k < s.cells.length := by rw [s.len]; omega
  simp [c32, this, D.toC]
theorem get_seed : ((sd s).map D.toC)[17]? = some (.val (.int .u32 (U32 s.seed))) := by rw [List.getElem?_map, sd17]; rfl
theorem get_over : ((sd s).map D.toC)[18]? = some (.val (.bool s.over)) := by rw [List.getElem?_map, sd18]; rfl
theorem get_win : ((sd s).map D.toC)[19]? = some (.val (.int .i64 s.win)) := by rw [List.getElem?_map, sd19]; rfl
/-- all of them -/
theorem sub_cells : (((sd s).map D.toC).drop 1).take 16 = (c32 s.cells).map D.toC := t_sc
/-! ### what a state holds -/
@[go_sem] theorem wf_frame {x : Int} : (s.wFrame x).frame = x := nr rfl
@[go_sem] theorem wf_cells {x : Int} : (s.wFrame x).cells = s.cells := nr rfl
@[go_sem] theorem wf_seed {x : Int} : (s.wFrame x).seed = s.seed := nr rfl
@[go_sem] theorem wf_over {x : Int} : (s.wFrame x).over = s.over := nr rfl
@[go_sem] theorem wf_win {x : Int} : (s.wFrame x).win = s.win := nr rfl
@[go_sem] theorem wc_frame {k : Nat} {x : Int} : (s.wCells k x).frame = s.frame := nr rfl
@[go_sem] theorem wc_cells {k : Nat} {x : Int} : (s.wCells k x).cells = s.cells.set k x := nr rfl
@[go_sem] theorem wc_seed {k : Nat} {x : Int} : (s.wCells k x).seed = s.seed := nr rfl
@[go_sem] theorem wc_over {k : Nat} {x : Int} : (s.wCells k x).over = s.over := nr rfl
@[go_sem] theorem wc_win {k : Nat} {x : Int} : (s.wCells k x).win = s.win := nr rfl
@[go_sem] theorem ws_frame {x : UInt32} : (s.wSeed x).frame = s.frame := nr rfl
@[go_sem] theorem ws_cells {x : UInt32} : (s.wSeed x).cells = s.cells := nr rfl
@[go_sem] theorem ws_seed {x : UInt32} : (s.wSeed x).seed = x := nr rfl
@[go_sem] theorem ws_over {x : UInt32} : (s.wSeed x).over = s.over := nr rfl
@[go_sem] theorem ws_win {x : UInt32} : (s.wSeed x).win = s.win := nr rfl
@[go_sem] theorem wo_frame {x : Bool} : (s.wOver x).frame = s.frame := nr rfl
@[go_sem] theorem wo_cells {x : Bool} : (s.wOver x).cells = s.cells := nr rfl
@[go_sem] theorem wo_seed {x : Bool} : (s.wOver x).seed = s.seed := nr rfl
@[go_sem] theorem wo_over {x : Bool} : (s.wOver x).over = x := nr rfl
@[go_sem] theorem wo_win {x : Bool} : (s.wOver x).win = s.win := nr rfl
@[go_sem] theorem ww_frame {x : Int} : (s.wWin x).frame = s.frame := nr rfl
@[go_sem] theorem ww_cells {x : Int} : (s.wWin x).cells = s.cells := nr rfl
@[go_sem] theorem ww_seed {x : Int} : (s.wWin x).seed = s.seed := nr rfl
@[go_sem] theorem ww_over {x : Int} : (s.wWin x).over = s.over := nr rfl
@[go_sem] theorem ww_win {x : Int} : (s.wWin x).win = x := nr rfl
end
@[go_sem 1200] theorem t_lit3 {x0 x1 x2 : C} : List.take 3 (List.drop 0 [x0, x1, x2]) = [x0, x1, x2] := nr rfl
@[go_sem 1200] theorem t_lit4 {x0 x1 x2 x3 : C} : List.take 4 (List.drop 0 [x0, x1, x2, x3]) = [x0, x1, x2, x3] := nr rfl
@[go_sem 1200] theorem t_lit5 {x0 x1 x2 x3 x4 : C} : List.take 5 (List.drop 0 [x0, x1, x2, x3, x4]) = [x0, x1, x2, x3, x4] := nr rfl
@[go_sem 1200] theorem t_lit6 {x0 x1 x2 x3 x4 x5 : C} : List.take 6 (List.drop 0 [x0, x1, x2, x3, x4, x5]) = [x0, x1, x2, x3, x4, x5] := nr rfl
@[go_sem 1200] theorem t_lit8 {x0 x1 x2 x3 x4 x5 x6 x7 : C} : List.take 8 (List.drop 0 [x0, x1, x2, x3, x4, x5, x6, x7]) = [x0, x1, x2, x3, x4, x5, x6, x7] := nr rfl
@[go_sem 1200] theorem t_lit11 {x0 x1 x2 x3 x4 x5 x6 x7 x8 x9 x10 : C} : List.take 11 (List.drop 0 [x0, x1, x2, x3, x4, x5, x6, x7, x8, x9, x10]) = [x0, x1, x2, x3, x4, x5, x6, x7, x8, x9, x10] := nr rfl
end Go.Proofs.Ytamcjecgkfmjkaa

/- Chapter 18: the cells of a Contest (written by genbox.py) -/
open Go Go.RowKit
namespace Go.Proofs.Ytamcjecgkfmjkaa
set_option linter.unusedSimpArgs false
set_option linter.unusedVariables false
set_option maxRecDepth 20000
theorem leCs_app {a b c d : List C} (h1 : leCs a b) (h2 : leCs c d) : leCs (a ++ c) (b ++ d) := by
  induction a generalizing b with
  | nil => cases b with
    | nil => exact h2
    | cons y b => cases h1
  | cons x a ih => cases b with
    | nil => cases h1
    | cons y b => exact ⟨h1.1, ih h1.2⟩
def ctC (rc : C) (cap : Int) (fuel : Int) (p0 : Int) (p1 : Int) (seed : UInt32) (l0 : Int) (l1 : Int) (c0 : Int) (c1 : Int) (over : Bool) (winner : Int) (why : Int) (opn : Bool) (r0 : C) (r1 : C) (rp : C) (s : Sta) (re : C) : List C := [rc, .val (.int .i64 cap), .val (.int .i64 fuel), .val (.int .i64 p0), .val (.int .i64 p1), .val (.int .u32 (U32 seed)), .val (.int .i64 l0), .val (.int .i64 l1), .val (.int .i64 c0), .val (.int .i64 c1), .val (.bool over), .val (.int .i64 winner), .val (.int .i64 why), .val (.bool opn), r0, r1, rp] ++ ((sd s).map D.toC ++ [re])
section
variable {rc : C} {cap : Int} {fuel : Int} {p0 : Int} {p1 : Int} {seed : UInt32} {l0 : Int} {l1 : Int} {c0 : Int} {c1 : Int} {over : Bool} {winner : Int} {why : Int} {opn : Bool} {r0 : C} {r1 : C} {rp : C} {s : Sta} {re : C} {V' : V → Prop} {K : C → Prop} {ks : List Id} {m : Nat}
@[go_sem] theorem ct_l : (ctC rc cap fuel p0 p1 seed l0 l1 c0 c1 over winner why opn r0 r1 rp s re).length = 38 := by
  unfold ctC
  simp only [List.length_append, List.length_map, sd_len, List.length_cons, List.length_nil]
@[go_sem] theorem ct_k {bi : Id → Bool} {bt : Tag → Bool} : (ctC rc cap fuel p0 p1 seed l0 l1 c0 c1 over winner why opn r0 r1 rp s re).map (C.clean bi bt) = (ctC (C.clean bi bt rc) cap fuel p0 p1 seed l0 l1 c0 c1 over winner why opn (C.clean bi bt r0) (C.clean bi bt r1) (C.clean bi bt rp) s (C.clean bi bt re)) := by
  unfold ctC
  simp only [List.map_append, List.map_cons, List.map_nil, go_sem]
@[go_sem] theorem ct_r  : (ctC rc cap fuel p0 p1 seed l0 l1 c0 c1 over winner why opn r0 r1 rp s re).map (C.ren ks m) = (ctC (C.ren ks m rc) cap fuel p0 p1 seed l0 l1 c0 c1 over winner why opn (C.ren ks m r0) (C.ren ks m r1) (C.ren ks m rp) s (C.ren ks m re)) := by
  unfold ctC
  simp only [List.map_append, List.map_cons, List.map_nil, go_sem]
@[go_sem] theorem ct_t {ta tb : Tag} : (ctC rc cap fuel p0 p1 seed l0 l1 c0 c1 over winner why opn r0 r1 rp s re).map (C.retag ta tb) = (ctC (C.retag ta tb rc) cap fuel p0 p1 seed l0 l1 c0 c1 over winner why opn (C.retag ta tb r0) (C.retag ta tb r1) (C.retag ta tb rp) s (C.retag ta tb re)) := by
  unfold ctC
  simp only [List.map_append, List.map_cons, List.map_nil, go_sem]
@[go_sem] theorem ct_n : (ctC rc cap fuel p0 p1 seed l0 l1 c0 c1 over winner why opn r0 r1 rp s re).all known = (known rc && known r0 && known r1 && known rp && known re) := by
  unfold ctC
  simp only [List.all_append, List.all_cons, List.all_nil, go_sem, Bool.true_and, Bool.and_true, Bool.and_assoc]
@[go_sem ↓ 1300] theorem ct_m_rc : (∃ c, (ctC rc cap fuel p0 p1 seed l0 l1 c0 c1 over winner why opn r0 r1 rp s re)[0]? = some c ∧ K c) = K (rc) := ex_some (by
  unfold ctC
  first | rfl | (rw [List.getElem?_append_left (by simp)]; rfl))
@[go_sem ↓ 1300] theorem ct_m_cap : (∃ c, (ctC rc cap fuel p0 p1 seed l0 l1 c0 c1 over winner why opn r0 r1 rp s re)[1]? = some c ∧ K c) = K (.val (.int .i64 cap)) := ex_some (by
  unfold ctC
  first | rfl | (rw [List.getElem?_append_left (by simp)]; rfl))
@[go_sem ↓ 1300] theorem ct_m_fuel : (∃ c, (ctC rc cap fuel p0 p1 seed l0 l1 c0 c1 over winner why opn r0 r1 rp s re)[2]? = some c ∧ K c) = K (.val (.int .i64 fuel)) := ex_some (by
  unfold ctC
  first | rfl | (rw [List.getElem?_append_left (by simp)]; rfl))
@[go_sem ↓ 1300] theorem ct_m_p0 : (∃ c, (ctC rc cap fuel p0 p1 seed l0 l1 c0 c1 over winner why opn r0 r1 rp s re)[3]? = some c ∧ K c) = K (.val (.int .i64 p0)) := ex_some (by
  unfold ctC
  first | rfl | (rw [List.getElem?_append_left (by simp)]; rfl))
@[go_sem ↓ 1300] theorem ct_m_p1 : (∃ c, (ctC rc cap fuel p0 p1 seed l0 l1 c0 c1 over winner why opn r0 r1 rp s re)[4]? = some c ∧ K c) = K (.val (.int .i64 p1)) := ex_some (by
  unfold ctC
  first | rfl | (rw [List.getElem?_append_left (by simp)]; rfl))
@[go_sem ↓ 1300] theorem ct_m_seed : (∃ c, (ctC rc cap fuel p0 p1 seed l0 l1 c0 c1 over winner why opn r0 r1 rp s re)[5]? = some c ∧ K c) = K (.val (.int .u32 (U32 seed))) := ex_some (by
  unfold ctC
  first | rfl | (rw [List.getElem?_append_left (by simp)]; rfl))
@[go_sem ↓ 1300] theorem ct_m_l0 : (∃ c, (ctC rc cap fuel p0 p1 seed l0 l1 c0 c1 over winner why opn r0 r1 rp s re)[6]? = some c ∧ K c) = K (.val (.int .i64 l0)) := ex_some (by
  unfold ctC
  first | rfl | (rw [List.getElem?_append_left (by simp)]; rfl))
@[go_sem ↓ 1300] theorem ct_m_l1 : (∃ c, (ctC rc cap fuel p0 p1 seed l0 l1 c0 c1 over winner why opn r0 r1 rp s re)[7]? = some c ∧ K c) = K (.val (.int .i64 l1)) := ex_some (by
  unfold ctC
  first | rfl | (rw [List.getElem?_append_left (by simp)]; rfl))
@[go_sem ↓ 1300] theorem ct_m_c0 : (∃ c, (ctC rc cap fuel p0 p1 seed l0 l1 c0 c1 over winner why opn r0 r1 rp s re)[8]? = some c ∧ K c) = K (.val (.int .i64 c0)) := ex_some (by
  unfold ctC
  first | rfl | (rw [List.getElem?_append_left (by simp)]; rfl))
@[go_sem ↓ 1300] theorem ct_m_c1 : (∃ c, (ctC rc cap fuel p0 p1 seed l0 l1 c0 c1 over winner why opn r0 r1 rp s re)[9]? = some c ∧ K c) = K (.val (.int .i64 c1)) := ex_some (by
  unfold ctC
  first | rfl | (rw [List.getElem?_append_left (by simp)]; rfl))
@[go_sem ↓ 1300] theorem ct_m_over : (∃ c, (ctC rc cap fuel p0 p1 seed l0 l1 c0 c1 over winner why opn r0 r1 rp s re)[10]? = some c ∧ K c) = K (.val (.bool over)) := ex_some (by
  unfold ctC
  first | rfl | (rw [List.getElem?_append_left (by simp)]; rfl))
@[go_sem ↓ 1300] theorem ct_m_winner : (∃ c, (ctC rc cap fuel p0 p1 seed l0 l1 c0 c1 over winner why opn r0 r1 rp s re)[11]? = some c ∧ K c) = K (.val (.int .i64 winner)) := ex_some (by
  unfold ctC
  first | rfl | (rw [List.getElem?_append_left (by simp)]; rfl))
@[go_sem ↓ 1300] theorem ct_m_why : (∃ c, (ctC rc cap fuel p0 p1 seed l0 l1 c0 c1 over winner why opn r0 r1 rp s re)[12]? = some c ∧ K c) = K (.val (.int .i64 why)) := ex_some (by
  unfold ctC
  first | rfl | (rw [List.getElem?_append_left (by simp)]; rfl))
@[go_sem ↓ 1300] theorem ct_m_opn : (∃ c, (ctC rc cap fuel p0 p1 seed l0 l1 c0 c1 over winner why opn r0 r1 rp s re)[13]? = some c ∧ K c) = K (.val (.bool opn)) := ex_some (by
  unfold ctC
  first | rfl | (rw [List.getElem?_append_left (by simp)]; rfl))
@[go_sem ↓ 1300] theorem ct_m_r0 : (∃ c, (ctC rc cap fuel p0 p1 seed l0 l1 c0 c1 over winner why opn r0 r1 rp s re)[14]? = some c ∧ K c) = K (r0) := ex_some (by
  unfold ctC
  first | rfl | (rw [List.getElem?_append_left (by simp)]; rfl))
@[go_sem ↓ 1300] theorem ct_m_r1 : (∃ c, (ctC rc cap fuel p0 p1 seed l0 l1 c0 c1 over winner why opn r0 r1 rp s re)[15]? = some c ∧ K c) = K (r1) := ex_some (by
  unfold ctC
  first | rfl | (rw [List.getElem?_append_left (by simp)]; rfl))
@[go_sem ↓ 1300] theorem ct_m_rp : (∃ c, (ctC rc cap fuel p0 p1 seed l0 l1 c0 c1 over winner why opn r0 r1 rp s re)[16]? = some c ∧ K c) = K (rp) := ex_some (by
  unfold ctC
  first | rfl | (rw [List.getElem?_append_left (by simp)]; rfl))
theorem ct_gs_frame : (ctC rc cap fuel p0 p1 seed l0 l1 c0 c1 over winner why opn r0 r1 rp s re)[17]? = some (.val (.int .i64 s.frame)) := by
  unfold ctC
  rw [List.getElem?_append_right (by first | simp only [List.length_cons, List.length_nil, List.length_map, sd_len]; omega | simp [sd_len])]
  simp only [List.length_cons, List.length_nil, List.length_map, sd_len, Nat.reduceAdd, Nat.reduceSub]
  first | exact get_frame | (rw [List.getElem?_append_left (by rw [sdC_len]; omega)]; exact get_frame)
@[go_sem ↓ 1300] theorem ct_ms_frame : (∃ c, (ctC rc cap fuel p0 p1 seed l0 l1 c0 c1 over winner why opn r0 r1 rp s re)[17]? = some c ∧ K c) = K (.val (.int .i64 s.frame)) := ex_some ct_gs_frame
theorem ct_gs_seed : (ctC rc cap fuel p0 p1 seed l0 l1 c0 c1 over winner why opn r0 r1 rp s re)[34]? = some (.val (.int .u32 (U32 s.seed))) := by
  unfold ctC
  rw [List.getElem?_append_right (by first | simp only [List.length_cons, List.length_nil, List.length_map, sd_len]; omega | simp [sd_len])]
  simp only [List.length_cons, List.length_nil, List.length_map, sd_len, Nat.reduceAdd, Nat.reduceSub]
  first | exact get_seed | (rw [List.getElem?_append_left (by rw [sdC_len]; omega)]; exact get_seed)
@[go_sem ↓ 1300] theorem ct_ms_seed : (∃ c, (ctC rc cap fuel p0 p1 seed l0 l1 c0 c1 over winner why opn r0 r1 rp s re)[34]? = some c ∧ K c) = K (.val (.int .u32 (U32 s.seed))) := ex_some ct_gs_seed
theorem ct_gs_over : (ctC rc cap fuel p0 p1 seed l0 l1 c0 c1 over winner why opn r0 r1 rp s re)[35]? = some (.val (.bool s.over)) := by
  unfold ctC
  rw [List.getElem?_append_right (by first | simp only [List.length_cons, List.length_nil, List.length_map, sd_len]; omega | simp [sd_len])]
  simp only [List.length_cons, List.length_nil, List.length_map, sd_len, Nat.reduceAdd, Nat.reduceSub]
  first | exact get_over | (rw [List.getElem?_append_left (by rw [sdC_len]; omega)]; exact get_over)
@[go_sem ↓ 1300] theorem ct_ms_over : (∃ c, (ctC rc cap fuel p0 p1 seed l0 l1 c0 c1 over winner why opn r0 r1 rp s re)[35]? = some c ∧ K c) = K (.val (.bool s.over)) := ex_some ct_gs_over
theorem ct_gs_win : (ctC rc cap fuel p0 p1 seed l0 l1 c0 c1 over winner why opn r0 r1 rp s re)[36]? = some (.val (.int .i64 s.win)) := by
  unfold ctC
  rw [List.getElem?_append_right (by first | simp only [List.length_cons, List.length_nil, List.length_map, sd_len]; omega | simp [sd_len])]
  simp only [List.length_cons, List.length_nil, List.length_map, sd_len, Nat.reduceAdd, Nat.reduceSub]
  first | exact get_win | (rw [List.getElem?_append_left (by rw [sdC_len]; omega)]; exact get_win)
@[go_sem ↓ 1300] theorem ct_ms_win : (∃ c, (ctC rc cap fuel p0 p1 seed l0 l1 c0 c1 over winner why opn r0 r1 rp s re)[36]? = some c ∧ K c) = K (.val (.int .i64 s.win)) := ex_some ct_gs_win
@[go_sem 1300] theorem ct_as : ((ctC rc cap fuel p0 p1 seed l0 l1 c0 c1 over winner why opn r0 r1 rp s re).drop 17).take 20 = (sd s).map D.toC := by
  unfold ctC
  show List.take 20 ((sd s).map D.toC ++ _) = _
  rw [List.take_left' sdC_len]
@[go_sem ↓ 1300] theorem ct_ps : aPt (some true) 20 (ctC rc cap fuel p0 p1 seed l0 l1 c0 c1 over winner why opn r0 r1 rp s re) 17 V' = V' (.w (.agg ((sd s).map D.toC))) := by
  simp only [aPt, ct_l, ct_as, Nat.reduceAdd, Nat.reduceLeDiff, true_and]
@[go_sem ↓ 1300] theorem ct_m_re : (∃ c, (ctC rc cap fuel p0 p1 seed l0 l1 c0 c1 over winner why opn r0 r1 rp s re)[37]? = some c ∧ K c) = K (re) := ex_some (by
  unfold ctC
  rw [List.getElem?_append_right (by first | simp only [List.length_cons, List.length_nil, List.length_map, sd_len]; omega | simp [sd_len])]
  simp only [List.length_cons, List.length_nil, List.length_map, sd_len, Nat.reduceAdd, Nat.reduceSub]
  rw [List.getElem?_append_right (by first | simp only [List.length_cons, List.length_nil, List.length_map, sd_len]; omega | simp [sd_len])]
  simp only [List.length_cons, List.length_nil, List.length_map, sd_len, Nat.reduceAdd, Nat.reduceSub]
  first | rfl | (rw [List.getElem?_append_left (by simp)]; rfl))
@[go_sem 1300] theorem ct_d0_3 : ((ctC rc cap fuel p0 p1 seed l0 l1 c0 c1 over winner why opn r0 r1 rp s re).drop 0).take 3 = [rc, .val (.int .i64 cap), .val (.int .i64 fuel)] := by
    first
      | rfl
      | (unfold ctC
         rw [show (0 : Nat) = ((sd s).map D.toC).length + 0 from by rw [sdC_len], List.drop_append, List.drop_eq_nil_of_le (by omega), Nat.add_sub_cancel_left]
         rfl)
@[go_sem ↓ 1300] theorem ct_p0_3 : aPt (some true) 3 (ctC rc cap fuel p0 p1 seed l0 l1 c0 c1 over winner why opn r0 r1 rp s re) 0 V' = V' (.w (.agg [rc, .val (.int .i64 cap), .val (.int .i64 fuel)])) := by
  simp only [aPt, ct_l, ct_d0_3, Nat.reduceAdd, Nat.reduceLeDiff, true_and]
@[go_sem 1300] theorem ct_d3_11 : ((ctC rc cap fuel p0 p1 seed l0 l1 c0 c1 over winner why opn r0 r1 rp s re).drop 3).take 11 = [.val (.int .i64 p0), .val (.int .i64 p1), .val (.int .u32 (U32 seed)), .val (.int .i64 l0), .val (.int .i64 l1), .val (.int .i64 c0), .val (.int .i64 c1), .val (.bool over), .val (.int .i64 winner), .val (.int .i64 why), .val (.bool opn)] := by
    first
      | rfl
      | (unfold ctC
         rw [show (3 : Nat) = ((sd s).map D.toC).length + 0 from by rw [sdC_len], List.drop_append, List.drop_eq_nil_of_le (by omega), Nat.add_sub_cancel_left]
         rfl)
@[go_sem ↓ 1300] theorem ct_p3_11 : aPt (some true) 11 (ctC rc cap fuel p0 p1 seed l0 l1 c0 c1 over winner why opn r0 r1 rp s re) 3 V' = V' (.w (.agg [.val (.int .i64 p0), .val (.int .i64 p1), .val (.int .u32 (U32 seed)), .val (.int .i64 l0), .val (.int .i64 l1), .val (.int .i64 c0), .val (.int .i64 c1), .val (.bool over), .val (.int .i64 winner), .val (.int .i64 why), .val (.bool opn)])) := by
  simp only [aPt, ct_l, ct_d3_11, Nat.reduceAdd, Nat.reduceLeDiff, true_and]
@[go_sem 1300] theorem ct_d3_2 : ((ctC rc cap fuel p0 p1 seed l0 l1 c0 c1 over winner why opn r0 r1 rp s re).drop 3).take 2 = [.val (.int .i64 p0), .val (.int .i64 p1)] := by
    first
      | rfl
      | (unfold ctC
         rw [show (3 : Nat) = ((sd s).map D.toC).length + 0 from by rw [sdC_len], List.drop_append, List.drop_eq_nil_of_le (by omega), Nat.add_sub_cancel_left]
         rfl)
@[go_sem ↓ 1300] theorem ct_p3_2 : aPt (some true) 2 (ctC rc cap fuel p0 p1 seed l0 l1 c0 c1 over winner why opn r0 r1 rp s re) 3 V' = V' (.w (.agg [.val (.int .i64 p0), .val (.int .i64 p1)])) := by
  simp only [aPt, ct_l, ct_d3_2, Nat.reduceAdd, Nat.reduceLeDiff, true_and]
@[go_sem 1300] theorem ct_d6_2 : ((ctC rc cap fuel p0 p1 seed l0 l1 c0 c1 over winner why opn r0 r1 rp s re).drop 6).take 2 = [.val (.int .i64 l0), .val (.int .i64 l1)] := by
    first
      | rfl
      | (unfold ctC
         rw [show (6 : Nat) = ((sd s).map D.toC).length + 0 from by rw [sdC_len], List.drop_append, List.drop_eq_nil_of_le (by omega), Nat.add_sub_cancel_left]
         rfl)
@[go_sem ↓ 1300] theorem ct_p6_2 : aPt (some true) 2 (ctC rc cap fuel p0 p1 seed l0 l1 c0 c1 over winner why opn r0 r1 rp s re) 6 V' = V' (.w (.agg [.val (.int .i64 l0), .val (.int .i64 l1)])) := by
  simp only [aPt, ct_l, ct_d6_2, Nat.reduceAdd, Nat.reduceLeDiff, true_and]
@[go_sem 1300] theorem ct_d8_2 : ((ctC rc cap fuel p0 p1 seed l0 l1 c0 c1 over winner why opn r0 r1 rp s re).drop 8).take 2 = [.val (.int .i64 c0), .val (.int .i64 c1)] := by
    first
      | rfl
      | (unfold ctC
         rw [show (8 : Nat) = ((sd s).map D.toC).length + 0 from by rw [sdC_len], List.drop_append, List.drop_eq_nil_of_le (by omega), Nat.add_sub_cancel_left]
         rfl)
@[go_sem ↓ 1300] theorem ct_p8_2 : aPt (some true) 2 (ctC rc cap fuel p0 p1 seed l0 l1 c0 c1 over winner why opn r0 r1 rp s re) 8 V' = V' (.w (.agg [.val (.int .i64 c0), .val (.int .i64 c1)])) := by
  simp only [aPt, ct_l, ct_d8_2, Nat.reduceAdd, Nat.reduceLeDiff, true_and]
@[go_sem 1300] theorem ct_s_rc {x : C} : spl (ctC rc cap fuel p0 p1 seed l0 l1 c0 c1 over winner why opn r0 r1 rp s re) 0 [x] = (ctC (x) cap fuel p0 p1 seed l0 l1 c0 c1 over winner why opn r0 r1 rp s re) := rfl
@[go_sem 1300] theorem ct_u_rc {x : C} : (ctC rc cap fuel p0 p1 seed l0 l1 c0 c1 over winner why opn r0 r1 rp s re).set 0 (x) = (ctC (x) cap fuel p0 p1 seed l0 l1 c0 c1 over winner why opn r0 r1 rp s re) := show spl (ctC rc cap fuel p0 p1 seed l0 l1 c0 c1 over winner why opn r0 r1 rp s re) 0 [x] = _ from ct_s_rc
@[go_sem 1300] theorem ct_s_cap {x : Int} : spl (ctC rc cap fuel p0 p1 seed l0 l1 c0 c1 over winner why opn r0 r1 rp s re) 1 [.val (.int .i64 x)] = (ctC rc (x) fuel p0 p1 seed l0 l1 c0 c1 over winner why opn r0 r1 rp s re) := rfl
@[go_sem 1300] theorem ct_u_cap {x : Int} : (ctC rc cap fuel p0 p1 seed l0 l1 c0 c1 over winner why opn r0 r1 rp s re).set 1 (.val (.int .i64 x)) = (ctC rc (x) fuel p0 p1 seed l0 l1 c0 c1 over winner why opn r0 r1 rp s re) := show spl (ctC rc cap fuel p0 p1 seed l0 l1 c0 c1 over winner why opn r0 r1 rp s re) 1 [.val (.int .i64 x)] = _ from ct_s_cap
@[go_sem 1300] theorem ct_s_fuel {x : Int} : spl (ctC rc cap fuel p0 p1 seed l0 l1 c0 c1 over winner why opn r0 r1 rp s re) 2 [.val (.int .i64 x)] = (ctC rc cap (x) p0 p1 seed l0 l1 c0 c1 over winner why opn r0 r1 rp s re) := rfl
@[go_sem 1300] theorem ct_u_fuel {x : Int} : (ctC rc cap fuel p0 p1 seed l0 l1 c0 c1 over winner why opn r0 r1 rp s re).set 2 (.val (.int .i64 x)) = (ctC rc cap (x) p0 p1 seed l0 l1 c0 c1 over winner why opn r0 r1 rp s re) := show spl (ctC rc cap fuel p0 p1 seed l0 l1 c0 c1 over winner why opn r0 r1 rp s re) 2 [.val (.int .i64 x)] = _ from ct_s_fuel
@[go_sem 1300] theorem ct_s_p0 {x : Int} : spl (ctC rc cap fuel p0 p1 seed l0 l1 c0 c1 over winner why opn r0 r1 rp s re) 3 [.val (.int .i64 x)] = (ctC rc cap fuel (x) p1 seed l0 l1 c0 c1 over winner why opn r0 r1 rp s re) := rfl
@[go_sem 1300] theorem ct_u_p0 {x : Int} : (ctC rc cap fuel p0 p1 seed l0 l1 c0 c1 over winner why opn r0 r1 rp s re).set 3 (.val (.int .i64 x)) = (ctC rc cap fuel (x) p1 seed l0 l1 c0 c1 over winner why opn r0 r1 rp s re) := show spl (ctC rc cap fuel p0 p1 seed l0 l1 c0 c1 over winner why opn r0 r1 rp s re) 3 [.val (.int .i64 x)] = _ from ct_s_p0
@[go_sem 1300] theorem ct_s_p1 {x : Int} : spl (ctC rc cap fuel p0 p1 seed l0 l1 c0 c1 over winner why opn r0 r1 rp s re) 4 [.val (.int .i64 x)] = (ctC rc cap fuel p0 (x) seed l0 l1 c0 c1 over winner why opn r0 r1 rp s re) := rfl
@[go_sem 1300] theorem ct_u_p1 {x : Int} : (ctC rc cap fuel p0 p1 seed l0 l1 c0 c1 over winner why opn r0 r1 rp s re).set 4 (.val (.int .i64 x)) = (ctC rc cap fuel p0 (x) seed l0 l1 c0 c1 over winner why opn r0 r1 rp s re) := show spl (ctC rc cap fuel p0 p1 seed l0 l1 c0 c1 over winner why opn r0 r1 rp s re) 4 [.val (.int .i64 x)] = _ from ct_s_p1
@[go_sem 1300] theorem ct_s_seed {x : UInt32} : spl (ctC rc cap fuel p0 p1 seed l0 l1 c0 c1 over winner why opn r0 r1 rp s re) 5 [.val (.int .u32 (U32 x))] = (ctC rc cap fuel p0 p1 (x) l0 l1 c0 c1 over winner why opn r0 r1 rp s re) := rfl
@[go_sem 1300] theorem ct_u_seed {x : UInt32} : (ctC rc cap fuel p0 p1 seed l0 l1 c0 c1 over winner why opn r0 r1 rp s re).set 5 (.val (.int .u32 (U32 x))) = (ctC rc cap fuel p0 p1 (x) l0 l1 c0 c1 over winner why opn r0 r1 rp s re) := show spl (ctC rc cap fuel p0 p1 seed l0 l1 c0 c1 over winner why opn r0 r1 rp s re) 5 [.val (.int .u32 (U32 x))] = _ from ct_s_seed
@[go_sem 1300] theorem ct_s_l0 {x : Int} : spl (ctC rc cap fuel p0 p1 seed l0 l1 c0 c1 over winner why opn r0 r1 rp s re) 6 [.val (.int .i64 x)] = (ctC rc cap fuel p0 p1 seed (x) l1 c0 c1 over winner why opn r0 r1 rp s re) := rfl
@[go_sem 1300] theorem ct_u_l0 {x : Int} : (ctC rc cap fuel p0 p1 seed l0 l1 c0 c1 over winner why opn r0 r1 rp s re).set 6 (.val (.int .i64 x)) = (ctC rc cap fuel p0 p1 seed (x) l1 c0 c1 over winner why opn r0 r1 rp s re) := show spl (ctC rc cap fuel p0 p1 seed l0 l1 c0 c1 over winner why opn r0 r1 rp s re) 6 [.val (.int .i64 x)] = _ from ct_s_l0
@[go_sem 1300] theorem ct_s_l1 {x : Int} : spl (ctC rc cap fuel p0 p1 seed l0 l1 c0 c1 over winner why opn r0 r1 rp s re) 7 [.val (.int .i64 x)] = (ctC rc cap fuel p0 p1 seed l0 (x) c0 c1 over winner why opn r0 r1 rp s re) := rfl
@[go_sem 1300] theorem ct_u_l1 {x : Int} : (ctC rc cap fuel p0 p1 seed l0 l1 c0 c1 over winner why opn r0 r1 rp s re).set 7 (.val (.int .i64 x)) = (ctC rc cap fuel p0 p1 seed l0 (x) c0 c1 over winner why opn r0 r1 rp s re) := show spl (ctC rc cap fuel p0 p1 seed l0 l1 c0 c1 over winner why opn r0 r1 rp s re) 7 [.val (.int .i64 x)] = _ from ct_s_l1
@[go_sem 1300] theorem ct_s_c0 {x : Int} : spl (ctC rc cap fuel p0 p1 seed l0 l1 c0 c1 over winner why opn r0 r1 rp s re) 8 [.val (.int .i64 x)] = (ctC rc cap fuel p0 p1 seed l0 l1 (x) c1 over winner why opn r0 r1 rp s re) := rfl
@[go_sem 1300] theorem ct_u_c0 {x : Int} : (ctC rc cap fuel p0 p1 seed l0 l1 c0 c1 over winner why opn r0 r1 rp s re).set 8 (.val (.int .i64 x)) = (ctC rc cap fuel p0 p1 seed l0 l1 (x) c1 over winner why opn r0 r1 rp s re) := show spl (ctC rc cap fuel p0 p1 seed l0 l1 c0 c1 over winner why opn r0 r1 rp s re) 8 [.val (.int .i64 x)] = _ from ct_s_c0
@[go_sem 1300] theorem ct_s_c1 {x : Int} : spl (ctC rc cap fuel p0 p1 seed l0 l1 c0 c1 over winner why opn r0 r1 rp s re) 9 [.val (.int .i64 x)] = (ctC rc cap fuel p0 p1 seed l0 l1 c0 (x) over winner why opn r0 r1 rp s re) := rfl
@[go_sem 1300] theorem ct_u_c1 {x : Int} : (ctC rc cap fuel p0 p1 seed l0 l1 c0 c1 over winner why opn r0 r1 rp s re).set 9 (.val (.int .i64 x)) = (ctC rc cap fuel p0 p1 seed l0 l1 c0 (x) over winner why opn r0 r1 rp s re) := show spl (ctC rc cap fuel p0 p1 seed l0 l1 c0 c1 over winner why opn r0 r1 rp s re) 9 [.val (.int .i64 x)] = _ from ct_s_c1
@[go_sem 1300] theorem ct_s_over {x : Bool} : spl (ctC rc cap fuel p0 p1 seed l0 l1 c0 c1 over winner why opn r0 r1 rp s re) 10 [.val (.bool x)] = (ctC rc cap fuel p0 p1 seed l0 l1 c0 c1 (x) winner why opn r0 r1 rp s re) := rfl
@[go_sem 1300] theorem ct_u_over {x : Bool} : (ctC rc cap fuel p0 p1 seed l0 l1 c0 c1 over winner why opn r0 r1 rp s re).set 10 (.val (.bool x)) = (ctC rc cap fuel p0 p1 seed l0 l1 c0 c1 (x) winner why opn r0 r1 rp s re) := show spl (ctC rc cap fuel p0 p1 seed l0 l1 c0 c1 over winner why opn r0 r1 rp s re) 10 [.val (.bool x)] = _ from ct_s_over
@[go_sem 1300] theorem ct_s_winner {x : Int} : spl (ctC rc cap fuel p0 p1 seed l0 l1 c0 c1 over winner why opn r0 r1 rp s re) 11 [.val (.int .i64 x)] = (ctC rc cap fuel p0 p1 seed l0 l1 c0 c1 over (x) why opn r0 r1 rp s re) := rfl
@[go_sem 1300] theorem ct_u_winner {x : Int} : (ctC rc cap fuel p0 p1 seed l0 l1 c0 c1 over winner why opn r0 r1 rp s re).set 11 (.val (.int .i64 x)) = (ctC rc cap fuel p0 p1 seed l0 l1 c0 c1 over (x) why opn r0 r1 rp s re) := show spl (ctC rc cap fuel p0 p1 seed l0 l1 c0 c1 over winner why opn r0 r1 rp s re) 11 [.val (.int .i64 x)] = _ from ct_s_winner
@[go_sem 1300] theorem ct_s_why {x : Int} : spl (ctC rc cap fuel p0 p1 seed l0 l1 c0 c1 over winner why opn r0 r1 rp s re) 12 [.val (.int .i64 x)] = (ctC rc cap fuel p0 p1 seed l0 l1 c0 c1 over winner (x) opn r0 r1 rp s re) := rfl
@[go_sem 1300] theorem ct_u_why {x : Int} : (ctC rc cap fuel p0 p1 seed l0 l1 c0 c1 over winner why opn r0 r1 rp s re).set 12 (.val (.int .i64 x)) = (ctC rc cap fuel p0 p1 seed l0 l1 c0 c1 over winner (x) opn r0 r1 rp s re) := show spl (ctC rc cap fuel p0 p1 seed l0 l1 c0 c1 over winner why opn r0 r1 rp s re) 12 [.val (.int .i64 x)] = _ from ct_s_why
@[go_sem 1300] theorem ct_s_opn {x : Bool} : spl (ctC rc cap fuel p0 p1 seed l0 l1 c0 c1 over winner why opn r0 r1 rp s re) 13 [.val (.bool x)] = (ctC rc cap fuel p0 p1 seed l0 l1 c0 c1 over winner why (x) r0 r1 rp s re) := rfl
@[go_sem 1300] theorem ct_u_opn {x : Bool} : (ctC rc cap fuel p0 p1 seed l0 l1 c0 c1 over winner why opn r0 r1 rp s re).set 13 (.val (.bool x)) = (ctC rc cap fuel p0 p1 seed l0 l1 c0 c1 over winner why (x) r0 r1 rp s re) := show spl (ctC rc cap fuel p0 p1 seed l0 l1 c0 c1 over winner why opn r0 r1 rp s re) 13 [.val (.bool x)] = _ from ct_s_opn
@[go_sem 1300] theorem ct_s_r0 {x : C} : spl (ctC rc cap fuel p0 p1 seed l0 l1 c0 c1 over winner why opn r0 r1 rp s re) 14 [x] = (ctC rc cap fuel p0 p1 seed l0 l1 c0 c1 over winner why opn (x) r1 rp s re) := rfl
@[go_sem 1300] theorem ct_u_r0 {x : C} : (ctC rc cap fuel p0 p1 seed l0 l1 c0 c1 over winner why opn r0 r1 rp s re).set 14 (x) = (ctC rc cap fuel p0 p1 seed l0 l1 c0 c1 over winner why opn (x) r1 rp s re) := show spl (ctC rc cap fuel p0 p1 seed l0 l1 c0 c1 over winner why opn r0 r1 rp s re) 14 [x] = _ from ct_s_r0
@[go_sem 1300] theorem ct_s_r1 {x : C} : spl (ctC rc cap fuel p0 p1 seed l0 l1 c0 c1 over winner why opn r0 r1 rp s re) 15 [x] = (ctC rc cap fuel p0 p1 seed l0 l1 c0 c1 over winner why opn r0 (x) rp s re) := rfl
@[go_sem 1300] theorem ct_u_r1 {x : C} : (ctC rc cap fuel p0 p1 seed l0 l1 c0 c1 over winner why opn r0 r1 rp s re).set 15 (x) = (ctC rc cap fuel p0 p1 seed l0 l1 c0 c1 over winner why opn r0 (x) rp s re) := show spl (ctC rc cap fuel p0 p1 seed l0 l1 c0 c1 over winner why opn r0 r1 rp s re) 15 [x] = _ from ct_s_r1
@[go_sem 1300] theorem ct_s_rp {x : C} : spl (ctC rc cap fuel p0 p1 seed l0 l1 c0 c1 over winner why opn r0 r1 rp s re) 16 [x] = (ctC rc cap fuel p0 p1 seed l0 l1 c0 c1 over winner why opn r0 r1 (x) s re) := rfl
@[go_sem 1300] theorem ct_u_rp {x : C} : (ctC rc cap fuel p0 p1 seed l0 l1 c0 c1 over winner why opn r0 r1 rp s re).set 16 (x) = (ctC rc cap fuel p0 p1 seed l0 l1 c0 c1 over winner why opn r0 r1 (x) s re) := show spl (ctC rc cap fuel p0 p1 seed l0 l1 c0 c1 over winner why opn r0 r1 rp s re) 16 [x] = _ from ct_s_rp
@[go_sem 1300] theorem ct_ss_frame {x : Int} : spl (ctC rc cap fuel p0 p1 seed l0 l1 c0 c1 over winner why opn r0 r1 rp s re) 17 [.val (.int .i64 x)] = (ctC rc cap fuel p0 p1 seed l0 l1 c0 c1 over winner why opn r0 r1 rp (s.wFrame x) re) := by
  unfold ctC
  rw [show (17 : Nat) = ([rc, .val (.int .i64 cap), .val (.int .i64 fuel), .val (.int .i64 p0), .val (.int .i64 p1), .val (.int .u32 (U32 seed)), .val (.int .i64 l0), .val (.int .i64 l1), .val (.int .i64 c0), .val (.int .i64 c1), .val (.bool over), .val (.int .i64 winner), .val (.int .i64 why), .val (.bool opn), r0, r1, rp] : List C).length + 0 from rfl, spl_appR (by simp only [List.length_append, List.length_cons, List.length_nil, sdC_len]; omega)]
  rw [spl_appL (by simp only [List.length_cons, List.length_nil, sdC_len]; omega), spl_frame]
@[go_sem 1300] theorem ct_us_frame {x : Int} : (ctC rc cap fuel p0 p1 seed l0 l1 c0 c1 over winner why opn r0 r1 rp s re).set 17 (.val (.int .i64 x)) = (ctC rc cap fuel p0 p1 seed l0 l1 c0 c1 over winner why opn r0 r1 rp (s.wFrame x) re) := show spl (ctC rc cap fuel p0 p1 seed l0 l1 c0 c1 over winner why opn r0 r1 rp s re) 17 [.val (.int .i64 x)] = _ from ct_ss_frame
@[go_sem 1300] theorem ct_ss_seed {x : UInt32} : spl (ctC rc cap fuel p0 p1 seed l0 l1 c0 c1 over winner why opn r0 r1 rp s re) 34 [.val (.int .u32 (U32 x))] = (ctC rc cap fuel p0 p1 seed l0 l1 c0 c1 over winner why opn r0 r1 rp (s.wSeed x) re) := by
  unfold ctC
  rw [show (34 : Nat) = ([rc, .val (.int .i64 cap), .val (.int .i64 fuel), .val (.int .i64 p0), .val (.int .i64 p1), .val (.int .u32 (U32 seed)), .val (.int .i64 l0), .val (.int .i64 l1), .val (.int .i64 c0), .val (.int .i64 c1), .val (.bool over), .val (.int .i64 winner), .val (.int .i64 why), .val (.bool opn), r0, r1, rp] : List C).length + 17 from rfl, spl_appR (by simp only [List.length_append, List.length_cons, List.length_nil, sdC_len]; omega)]
  rw [spl_appL (by simp only [List.length_cons, List.length_nil, sdC_len]; omega), spl_seed]
@[go_sem 1300] theorem ct_us_seed {x : UInt32} : (ctC rc cap fuel p0 p1 seed l0 l1 c0 c1 over winner why opn r0 r1 rp s re).set 34 (.val (.int .u32 (U32 x))) = (ctC rc cap fuel p0 p1 seed l0 l1 c0 c1 over winner why opn r0 r1 rp (s.wSeed x) re) := show spl (ctC rc cap fuel p0 p1 seed l0 l1 c0 c1 over winner why opn r0 r1 rp s re) 34 [.val (.int .u32 (U32 x))] = _ from ct_ss_seed
@[go_sem 1300] theorem ct_ss_over {x : Bool} : spl (ctC rc cap fuel p0 p1 seed l0 l1 c0 c1 over winner why opn r0 r1 rp s re) 35 [.val (.bool x)] = (ctC rc cap fuel p0 p1 seed l0 l1 c0 c1 over winner why opn r0 r1 rp (s.wOver x) re) := by
  unfold ctC
  rw [show (35 : Nat) = ([rc, .val (.int .i64 cap), .val (.int .i64 fuel), .val (.int .i64 p0), .val (.int .i64 p1), .val (.int .u32 (U32 seed)), .val (.int .i64 l0), .val (.int .i64 l1), .val (.int .i64 c0), .val (.int .i64 c1), .val (.bool over), .val (.int .i64 winner), .val (.int .i64 why), .val (.bool opn), r0, r1, rp] : List C).length + 18 from rfl, spl_appR (by simp only [List.length_append, List.length_cons, List.length_nil, sdC_len]; omega)]
  rw [spl_appL (by simp only [List.length_cons, List.length_nil, sdC_len]; omega), spl_over]
@[go_sem 1300] theorem ct_us_over {x : Bool} : (ctC rc cap fuel p0 p1 seed l0 l1 c0 c1 over winner why opn r0 r1 rp s re).set 35 (.val (.bool x)) = (ctC rc cap fuel p0 p1 seed l0 l1 c0 c1 over winner why opn r0 r1 rp (s.wOver x) re) := show spl (ctC rc cap fuel p0 p1 seed l0 l1 c0 c1 over winner why opn r0 r1 rp s re) 35 [.val (.bool x)] = _ from ct_ss_over
@[go_sem 1300] theorem ct_ss_win {x : Int} : spl (ctC rc cap fuel p0 p1 seed l0 l1 c0 c1 over winner why opn r0 r1 rp s re) 36 [.val (.int .i64 x)] = (ctC rc cap fuel p0 p1 seed l0 l1 c0 c1 over winner why opn r0 r1 rp (s.wWin x) re) := by
  unfold ctC
  rw [show (36 : Nat) = ([rc, .val (.int .i64 cap), .val (.int .i64 fuel), .val (.int .i64 p0), .val (.int .i64 p1), .val (.int .u32 (U32 seed)), .val (.int .i64 l0), .val (.int .i64 l1), .val (.int .i64 c0), .val (.int .i64 c1), .val (.bool over), .val (.int .i64 winner), .val (.int .i64 why), .val (.bool opn), r0, r1, rp] : List C).length + 19 from rfl, spl_appR (by simp only [List.length_append, List.length_cons, List.length_nil, sdC_len]; omega)]
  rw [spl_appL (by simp only [List.length_cons, List.length_nil, sdC_len]; omega), spl_win]
@[go_sem 1300] theorem ct_us_win {x : Int} : (ctC rc cap fuel p0 p1 seed l0 l1 c0 c1 over winner why opn r0 r1 rp s re).set 36 (.val (.int .i64 x)) = (ctC rc cap fuel p0 p1 seed l0 l1 c0 c1 over winner why opn r0 r1 rp (s.wWin x) re) := show spl (ctC rc cap fuel p0 p1 seed l0 l1 c0 c1 over winner why opn r0 r1 rp s re) 36 [.val (.int .i64 x)] = _ from ct_ss_win
@[go_sem 1300] theorem ct_ss {x : Sta} : spl (ctC rc cap fuel p0 p1 seed l0 l1 c0 c1 over winner why opn r0 r1 rp s re) 17 ((sd x).map D.toC) = (ctC rc cap fuel p0 p1 seed l0 l1 c0 c1 over winner why opn r0 r1 rp (x) re) := by
  unfold ctC
  rw [show (17 : Nat) = ([rc, .val (.int .i64 cap), .val (.int .i64 fuel), .val (.int .i64 p0), .val (.int .i64 p1), .val (.int .u32 (U32 seed)), .val (.int .i64 l0), .val (.int .i64 l1), .val (.int .i64 c0), .val (.int .i64 c1), .val (.bool over), .val (.int .i64 winner), .val (.int .i64 why), .val (.bool opn), r0, r1, rp] : List C).length + 0 from rfl, spl_appR (by simp only [List.length_append, List.length_cons, List.length_nil, sdC_len]; omega)]
  rw [spl_appL (by simp only [sdC_len]; omega), spl_all (by simp only [sdC_len])]
@[go_sem 1300] theorem ct_s_re {x : C} : spl (ctC rc cap fuel p0 p1 seed l0 l1 c0 c1 over winner why opn r0 r1 rp s re) 37 [x] = (ctC rc cap fuel p0 p1 seed l0 l1 c0 c1 over winner why opn r0 r1 rp s (x)) := by
  unfold ctC
  rw [show (37 : Nat) = ([rc, .val (.int .i64 cap), .val (.int .i64 fuel), .val (.int .i64 p0), .val (.int .i64 p1), .val (.int .u32 (U32 seed)), .val (.int .i64 l0), .val (.int .i64 l1), .val (.int .i64 c0), .val (.int .i64 c1), .val (.bool over), .val (.int .i64 winner), .val (.int .i64 why), .val (.bool opn), r0, r1, rp] : List C).length + 20 from by first | rfl | rw [sdC_len], spl_appR (by simp only [List.length_append, List.length_cons, List.length_nil, sdC_len]; omega)]
  rw [show (20 : Nat) = ((sd s).map D.toC).length + 0 from by first | rfl | rw [sdC_len], spl_appR (by simp only [List.length_append, List.length_cons, List.length_nil, sdC_len]; omega)]
  rfl
@[go_sem 1300] theorem ct_u_re {x : C} : (ctC rc cap fuel p0 p1 seed l0 l1 c0 c1 over winner why opn r0 r1 rp s re).set 37 (x) = (ctC rc cap fuel p0 p1 seed l0 l1 c0 c1 over winner why opn r0 r1 rp s (x)) := show spl (ctC rc cap fuel p0 p1 seed l0 l1 c0 c1 over winner why opn r0 r1 rp s re) 37 [x] = _ from ct_s_re
@[go_sem 1300] theorem ct_w3_11 {y0 : Int} {y1 : Int} {y2 : UInt32} {y3 : Int} {y4 : Int} {y5 : Int} {y6 : Int} {y7 : Bool} {y8 : Int} {y9 : Int} {y10 : Bool} : spl (ctC rc cap fuel p0 p1 seed l0 l1 c0 c1 over winner why opn r0 r1 rp s re) 3 [.val (.int .i64 y0), .val (.int .i64 y1), .val (.int .u32 (U32 y2)), .val (.int .i64 y3), .val (.int .i64 y4), .val (.int .i64 y5), .val (.int .i64 y6), .val (.bool y7), .val (.int .i64 y8), .val (.int .i64 y9), .val (.bool y10)] = (ctC rc cap fuel y0 y1 y2 y3 y4 y5 y6 y7 y8 y9 y10 r0 r1 rp s re) := by
  first
    | rfl
    | (unfold ctC
       rw [show (3 : Nat) = ((sd s).map D.toC).length + 0 from by rw [sdC_len], spl_appR (by simp only [List.length_cons, List.length_nil]; omega)]
       rfl)
@[go_sem 1300] theorem ct_w3_2 {y0 : Int} {y1 : Int} : spl (ctC rc cap fuel p0 p1 seed l0 l1 c0 c1 over winner why opn r0 r1 rp s re) 3 [.val (.int .i64 y0), .val (.int .i64 y1)] = (ctC rc cap fuel y0 y1 seed l0 l1 c0 c1 over winner why opn r0 r1 rp s re) := by
  first
    | rfl
    | (unfold ctC
       rw [show (3 : Nat) = ((sd s).map D.toC).length + 0 from by rw [sdC_len], spl_appR (by simp only [List.length_cons, List.length_nil]; omega)]
       rfl)
@[go_sem 1300] theorem ct_w6_2 {y0 : Int} {y1 : Int} : spl (ctC rc cap fuel p0 p1 seed l0 l1 c0 c1 over winner why opn r0 r1 rp s re) 6 [.val (.int .i64 y0), .val (.int .i64 y1)] = (ctC rc cap fuel p0 p1 seed y0 y1 c0 c1 over winner why opn r0 r1 rp s re) := by
  first
    | rfl
    | (unfold ctC
       rw [show (6 : Nat) = ((sd s).map D.toC).length + 0 from by rw [sdC_len], spl_appR (by simp only [List.length_cons, List.length_nil]; omega)]
       rfl)
@[go_sem 1300] theorem ct_w8_2 {y0 : Int} {y1 : Int} : spl (ctC rc cap fuel p0 p1 seed l0 l1 c0 c1 over winner why opn r0 r1 rp s re) 8 [.val (.int .i64 y0), .val (.int .i64 y1)] = (ctC rc cap fuel p0 p1 seed l0 l1 y0 y1 over winner why opn r0 r1 rp s re) := by
  first
    | rfl
    | (unfold ctC
       rw [show (8 : Nat) = ((sd s).map D.toC).length + 0 from by rw [sdC_len], spl_appR (by simp only [List.length_cons, List.length_nil]; omega)]
       rfl)
@[go_sem ↓] theorem ct_w {l : List V} {hp : Heap} {i : Id} {off : Nat} {cs : List C} : St.stow ⟨l, hp⟩ i off cs (ctC rc cap fuel p0 p1 seed l0 l1 c0 c1 over winner why opn r0 r1 rp s re) = ⟨l, hset hp i (spl cs off (ctC (C.clean (fun _ => false) (fun _ => true) rc) cap fuel p0 p1 seed l0 l1 c0 c1 over winner why opn (C.clean (fun _ => false) (fun _ => true) r0) (C.clean (fun _ => false) (fun _ => true) r1) (C.clean (fun _ => false) (fun _ => true) rp) s (C.clean (fun _ => false) (fun _ => true) re)))⟩ := by
  rw [stow_big (by rw [ct_l]; omega), ct_k]
@[go_sem ↓ 1300] theorem ct_p : aPt (some true) 38 (ctC rc cap fuel p0 p1 seed l0 l1 c0 c1 over winner why opn r0 r1 rp s re) 0 V' = V' (.w (.agg (ctC rc cap fuel p0 p1 seed l0 l1 c0 c1 over winner why opn r0 r1 rp s re))) := by
  have e : ((ctC rc cap fuel p0 p1 seed l0 l1 c0 c1 over winner why opn r0 r1 rp s re).drop 0).take 38 = (ctC rc cap fuel p0 p1 seed l0 l1 c0 c1 over winner why opn r0 r1 rp s re) := by rw [List.drop_zero, List.take_of_length_le (by rw [ct_l]; omega)]
  simp only [aPt, ct_l, e, Nat.reduceAdd, Nat.reduceLeDiff, true_and]
theorem ct_le {rc' : C} {cap' : Int} {fuel' : Int} {p0' : Int} {p1' : Int} {seed' : UInt32} {l0' : Int} {l1' : Int} {c0' : Int} {c1' : Int} {over' : Bool} {winner' : Int} {why' : Int} {opn' : Bool} {r0' : C} {r1' : C} {rp' : C} {s' : Sta} {re' : C} (h : leC rc rc' ∧ cap = cap' ∧ fuel = fuel' ∧ p0 = p0' ∧ p1 = p1' ∧ seed = seed' ∧ l0 = l0' ∧ l1 = l1' ∧ c0 = c0' ∧ c1 = c1' ∧ over = over' ∧ winner = winner' ∧ why = why' ∧ opn = opn' ∧ leC r0 r0' ∧ leC r1 r1' ∧ leC rp rp' ∧ s = s' ∧ leC re re') : leCs (ctC rc cap fuel p0 p1 seed l0 l1 c0 c1 over winner why opn r0 r1 rp s re) (ctC rc' cap' fuel' p0' p1' seed' l0' l1' c0' c1' over' winner' why' opn' r0' r1' rp' s' re') := by
  obtain ⟨h0, h1, h2, h3, h4, h5, h6, h7, h8, h9, h10, h11, h12, h13, h14, h15, h16, h17, h18⟩ := h
  subst h1
  subst h2
  subst h3
  subst h4
  subst h5
  subst h6
  subst h7
  subst h8
  subst h9
  subst h10
  subst h11
  subst h12
  subst h13
  subst h17
  unfold ctC
  try simp only [List.cons_append, List.nil_append, List.append_assoc]
  exact ⟨h0, ⟨leC_refl _, ⟨leC_refl _, ⟨leC_refl _, ⟨leC_refl _, ⟨leC_refl _, ⟨leC_refl _, ⟨leC_refl _, ⟨leC_refl _, ⟨leC_refl _, ⟨leC_refl _, ⟨leC_refl _, ⟨leC_refl _, ⟨leC_refl _, ⟨h14, ⟨h15, ⟨h16, (leCs_app (leCs_refl _) ⟨h18, trivial⟩)⟩⟩⟩⟩⟩⟩⟩⟩⟩⟩⟩⟩⟩⟩⟩⟩⟩
@[go_sem ↓ 1300] theorem ct_ler : leCs (ctC rc cap fuel p0 p1 seed l0 l1 c0 c1 over winner why opn r0 r1 rp s re) (ctC rc cap fuel p0 p1 seed l0 l1 c0 c1 over winner why opn r0 r1 rp s re) = True := eq_true (leCs_refl _)
end
end Go.Proofs.Ytamcjecgkfmjkaa
