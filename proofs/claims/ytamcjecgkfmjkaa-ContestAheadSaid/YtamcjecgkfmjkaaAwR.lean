/- The logic: lists of rows of bytes, lists of numbers. -/
import Derived.Test.YtamcjecgkfmjkaaAwI
open Go Go.RowKit
namespace Go.Proofs.Ytamcjecgkfmjkaa
set_option linter.unusedSimpArgs false

def ls {α : Type} (f : α → D) (xs : List α) : List D := xs.map f
def fB (bs : List UInt8) : D := .lst none 1 (byt bs)
def fI (n : Int) : D := .val (.int .i64 n)
abbrev W.rws (xs : List (List UInt8)) : W := .c (.lst .no none 1 (ls fB xs))
abbrev W.nums (xs : List Int) : W := .c (.lst .no none 1 (ls fI xs))
section
variable {α : Type} {f : α → D} {xs ys : List α}
@[go_sem] theorem ls_nil : ls f [] = [] := nr rfl
@[go_sem] theorem ls_len : (ls f xs).length = xs.length := by simp [ls]
@[go_sem] theorem ls_app : ls f xs ++ ls f ys = ls f (xs ++ ys) := by simp [ls]
@[go_sem] theorem ls_take {n : Nat} : (ls f xs).take n = ls f (xs.take n) := by simp [ls]
@[go_sem] theorem ls_drop {n : Nat} : (ls f xs).drop n = ls f (xs.drop n) := by simp [ls]
theorem ls_get {i : Nat} {d : α} (h : i < xs.length) {V' : C → Prop} : (∃ c, ((ls f (xs.drop i)).map D.toC)[0]? = some c ∧ V' c) = V' (f (xs.getD i d)).toC := by
  rw [List.drop_eq_getElem_cons h]
  simp [ls, h]
@[go_sem] theorem ls_app1B {l : List (List UInt8)} {b : List UInt8} : ls fB l ++ [D.lst none 1 (byt b)] = ls fB (l ++ [b]) := by simp [ls, fB]
@[go_sem] theorem ls_app1I {l : List Int} {n : Int} : ls fI l ++ [D.val (.int .i64 n)] = ls fI (l ++ [n]) := by simp [ls, fI]
@[go_sem ↓ 1200] theorem e_lsB {l : List (List UInt8)} {i : Nat} {V' : C → Prop} (h : i < l.length) : (∃ c, ((ls fB (l.drop i)).map D.toC)[0]? = some c ∧ V' c) = V' (.lst .no none 1 (byt (l.getD i []))) := ls_get h
@[go_sem ↓ 1200] theorem e_lsB2 {l : List (List UInt8)} {i : Nat} {V' : C → Prop} (h : i < l.length) : (∃ c, (((ls fB l).drop i).map D.toC)[0]? = some c ∧ V' c) = V' (.lst .no none 1 (byt (l.getD i []))) := by rw [ls_drop]; exact ls_get h
@[go_sem ↓ 1200] theorem e_lsI {l : List Int} {i : Nat} {V' : C → Prop} (h : i < l.length) : (∃ c, ((ls fI (l.drop i)).map D.toC)[0]? = some c ∧ V' c) = V' (.val (.int .i64 (l.getD i 0))) := ls_get h
@[go_sem ↓ 1200] theorem e_lsI2 {l : List Int} {i : Nat} {V' : C → Prop} (h : i < l.length) : (∃ c, (((ls fI l).drop i).map D.toC)[0]? = some c ∧ V' c) = V' (.val (.int .i64 (l.getD i 0))) := by rw [ls_drop]; exact ls_get h
variable {P : Program} {V' : V → Prop} {o : Own} {nl : Option Bool} {k : IntKind} {a b : Int} {t : TypeId}
@[go_sem ↓ 1200] theorem e_IA1l {i : Int} (h0 : 0 ≤ i) (h1 : i < xs.length) : aIA (some (none, t, 1)) (.cell (.lst o nl 1 (ls f xs))) i V' = V' (.cell (.mem ((ls f xs).drop i.toNat))) := by
  simp [aIA, h0, h1, ls_len]
@[go_sem ↓] theorem e_slHl (h0 : 0 ≤ b) (h1 : b ≤ xs.length) : aSlice P t (.cell (.lst o nl 1 (ls f xs))) none (some (V.int k b)) V' = (slB (idxT P t) ∧ V' (.cell (.lst .no nl 1 (ls f (xs.take b.toNat))))) := by
  rw [slB_eq]
  refine propext ⟨fun ⟨e, he, l, h, hl, hh, _, _, _, hk⟩ => ⟨⟨e, he⟩, ?_⟩, fun ⟨⟨e, he⟩, hk⟩ => ⟨e, he, 0, b, rfl, rfl, by omega, h0, by simp [ls]; omega, ?_⟩⟩
  · cases hl; cases hh; simpa [ls_take] using hk
  · simpa [ls_take] using hk
@[go_sem ↓] theorem e_slLl (h0 : 0 ≤ a) (h1 : a ≤ xs.length) : aSlice P t (.cell (.lst o nl 1 (ls f xs))) (some (V.int k a)) none V' = (slB (idxT P t) ∧ V' (.cell (.lst (cutO o) nl 1 (ls f (xs.drop a.toNat))))) := by
  rw [slB_eq]
  cases o <;> (refine propext ⟨fun ⟨e, he, l, h, hl, hh, _, _, _, hk⟩ => ⟨⟨e, he⟩, ?_⟩, fun ⟨⟨e, he⟩, hk⟩ => ⟨e, he, a, xs.length, rfl, by simp [bnd, ls], by omega, h1, by simp [ls], ?_⟩⟩) <;> first | (cases hl; cases hh; simpa [ls_len, ls_take, ls_drop, cutO] using hk) | (simpa [ls_len, ls_take, ls_drop, cutO] using hk)
@[go_sem ↓] theorem e_slNl : aSlice P t (.cell (.lst o nl 1 (ls f xs))) none none V' = (slB (idxT P t) ∧ V' (.cell (.lst (cutO o) nl 1 (ls f xs)))) := by
  rw [slB_eq]
  cases o <;> (refine propext ⟨fun ⟨e, he, l, h, hl, hh, _, _, _, hk⟩ => ⟨⟨e, he⟩, ?_⟩, fun ⟨⟨e, he⟩, hk⟩ => ⟨e, he, 0, xs.length, rfl, by simp [bnd, ls], by omega, by omega, by simp [ls], ?_⟩⟩) <;> first | (cases hl; cases hh; simpa [ls_len, ls_take, ls_drop, cutO] using hk) | (simpa [ls_len, ls_take, ls_drop, cutO] using hk)
@[go_sem ↓] theorem e_slLHl {k' : IntKind} (h0 : 0 ≤ a) (h1 : a ≤ b) (h2 : b ≤ xs.length) : aSlice P t (.cell (.lst o nl 1 (ls f xs))) (some (V.int k a)) (some (V.int k' b)) V' = (slB (idxT P t) ∧ V' (.cell (.lst .no nl 1 (ls f ((xs.take b.toNat).drop a.toNat))))) := by
  rw [slB_eq]
  refine propext ⟨fun ⟨e, he, l, h, hl, hh, _, _, _, hk⟩ => ⟨⟨e, he⟩, ?_⟩, fun ⟨⟨e, he⟩, hk⟩ => ⟨e, he, a, b, rfl, rfl, h0, h1, by simp [ls]; omega, ?_⟩⟩
  · cases hl; cases hh; simpa [ls] using hk
  · simpa [ls] using hk
end
theorem leH_nil (h : Heap) : leH [] h := fun i cs hi => by cases hi
theorem leH_hd (i : Id) (cs : List C) (h : Heap) : leH [(i, cs)] ((i, cs) :: h) := fun j ds hj => by
  simp only [hget] at hj
  split at hj
  · rename_i e; cases hj; subst e; exact ⟨cs, by simp [hget], leCs_refl cs⟩
  · cases hj
@[go_sem ↓] theorem w_D {l : List V} {h : Heap} {i : Id} {off : Nat} {cs : List C} {xs : List D} : St.stow ⟨l, h⟩ i off cs (xs.map D.toC) = ⟨l, hset h i (spl cs off (xs.map D.toC))⟩ := by
  have e : (xs.map D.toC).map (C.clean (fun _ => false) fun _ => true) = xs.map D.toC := k_D
  unfold St.stow
  split
  · rename_i τ nl sz ys hq
    cases xs with
    | nil => simp at hq
    | cons x xs => cases x <;> simp [D.toC] at hq
  · rw [e]
/-! ### arrays of bytes -/
theorem a_eqByt {a b : List UInt8} {n : Nat} {J : Bool → Prop} (ha : a.length = n) (hb : b.length = n) (h : J (decide (a = b))) : aEqA (some (List.replicate n (some .u8))) ((byt a).map D.toC) ((byt b).map D.toC) J := by
  have key : ∀ (l : List UInt8) (n : Nat), l.length = n → All2 okK (List.replicate n (some .u8)) (l.map fun b => Value.int .u8 b.toNat) := by
    intro l
    induction l with
    | nil => intro n h; subst h; exact .nil
    | cons x l ih => intro n h; subst h; exact .cons ⟨_, rfl⟩ (ih _ rfl)
  have e : ∀ l : List UInt8, (byt l).map D.toC = (l.map fun b => Value.int .u8 (b.toNat : Int)).map C.val := by intro l; simp [byt, D.toC]
  refine ⟨_, _, _, rfl, e a, e b, key a n ha, key b n hb, fun c hc => ?_⟩
  have : c = decide (a = b) := by
    rw [Bool.eq_iff_iff, hc, decide_eq_true_iff]
    constructor
    · intro h
      refine byt_inj ?_
      have := congrArg (List.map D.val) h
      rw [List.map_map, List.map_map] at this
      exact this
    · rintro rfl; rfl
  rw [this]; exact h
/-! ### bytes in a box -/
section
variable {bs l : List UInt8} {c n k : Nat} {bi : Id → Bool} {bt : Tag → Bool} {ks : List Id} {d sz : Nat} {ta tb : Tag} {i : Id} {ds : List D}
/-- a box of c bytes, of which the first are known -/
def bx (bs : List UInt8) (c : Nat) : List C := (byt bs).map D.toC ++ List.replicate (c - bs.length) .undef
@[go_sem] theorem bx_len (h : bs.length ≤ c) : (bx bs c).length = c := by simp [bx, byt]; omega
/-- noughts -/
def zb (n : Nat) : List UInt8 := List.replicate n 0
@[go_sem] theorem zb_len {n : Nat} : (zb n).length = n := by simp [zb]
theorem bx_map {f : C → C} (h1 : ∀ d : D, f d.toC = d.toC) (h2 : f .undef = .undef) : (bx bs c).map f = bx bs c := by
  unfold bx
  rw [List.map_append, List.map_replicate, h2, List.map_map]
  congr 1
  exact List.map_congr_left fun d _ => h1 d
@[go_sem] theorem bx_clean : (bx bs c).map (C.clean bi bt) = bx bs c := bx_map (fun d => by cases d <;> rfl) rfl
@[go_sem] theorem bx_ren : (bx bs c).map (C.ren ks d) = bx bs c := bx_map (fun d => by cases d <;> rfl) rfl
@[go_sem] theorem bx_retag : (bx bs c).map (C.retag ta tb) = bx bs c := bx_map (fun d => by cases d <;> rfl) rfl
@[go_sem] theorem bx_frz : (bx bs c).map (C.frz i sz ds) = bx bs c := bx_map (fun d => by cases d <;> rfl) rfl
@[go_sem ↓ 1200] theorem bx_get {V' : C → Prop} (h : k < bs.length) : (∃ x, (bx bs c)[k]? = some x ∧ V' x) = V' (.val (.int .u8 (U8 (bs.getD k 0)))) := by
  have : (bx bs c)[k]? = some (.val (.int .u8 (U8 (bs.getD k 0)))) := by
    unfold bx
    rw [List.getElem?_append_left (by simp [byt]; exact h)]
    simp [byt, h, D.toC, U8]
  rw [this]; simp
theorem spl_set {α : Type} (l : List α) (k : Nat) (v : α) : spl l k [v] = l.set k v := rfl
@[go_sem ↓ 1200] theorem bx_set {v : UInt8} (h : k < bs.length) : spl (bx bs c) k [.val (.int .u8 (U8 v))] = bx (bs.set k v) c := by
  rw [spl_set]
  unfold bx
  rw [List.set_append_left _ _ (by simp [byt]; exact h), List.length_set]
  congr 1
  simp [byt, U8, D.toC]
@[go_sem ↓ 1100] theorem bx_setL {z : Int} (h : k < bs.length) (h0 : 0 ≤ z) (h1 : z < 256) : spl (bx bs c) k [.val (.int .u8 z)] = bx (bs.set k (UInt8.ofNat z.toNat)) c := by
  rw [← bx_set h]
  congr 5
  unfold U8
  rw [UInt8.toNat_ofNat']
  omega
@[go_sem ↓ 1200] theorem bx_app (h0 : n = bs.length) (h : bs.length + l.length ≤ c) : spl (bx bs c) n ((byt l).map D.toC) = bx (bs ++ l) c := by
  subst h0
  have hl : (bx bs c).length = c := bx_len (by omega)
  rw [spl_eq (by rw [hl]; simp [byt]; omega)]
  unfold bx
  rw [List.take_left' (by simp [byt]), List.drop_append, List.drop_eq_nil_of_le (by simp [byt])]
  simp only [List.nil_append, List.drop_replicate, List.length_map, byt_len, Nat.add_sub_cancel_left, List.length_append, ← byt_app, List.map_append, Nat.sub_sub]
@[go_sem ↓] theorem bx_mk : (byt bs).map D.toC ++ List.replicate (c - bs.length) .undef = bx bs c := nr rfl
@[go_sem ↓] theorem bx_mk2 : (byt (bs ++ l)).map D.toC ++ List.replicate (c - (bs.length + l.length)) .undef = bx (bs ++ l) c := by
  unfold bx; rw [List.length_append]
@[go_sem ↓ 1200] theorem bx_grow {c' : Nat} (h0 : n = bs.length) : (bx bs c).take n ++ (byt l).map D.toC ++ List.replicate (c' - (n + l.length)) .undef = bx (bs ++ l) c' := by
  subst h0
  unfold bx
  rw [List.take_left' (by simp [byt]), List.length_append, ← List.map_append, byt_app]
theorem lit8 {z : Int} (h0 : 0 ≤ z) (h1 : z < 256) : Value.int .u8 z = .int .u8 (U8 (UInt8.ofNat z.toNat)) := by
  unfold U8
  rw [UInt8.toNat_ofNat']
  congr 1
  omega
@[go_sem] theorem bx_pushL {z : Int} (hn : n = bs.length) (h : bs.length + 1 ≤ c) (h0 : 0 ≤ z) (h1 : z < 256) : (bx bs c).set n (.val (.int .u8 z)) = bx (bs ++ [UInt8.ofNat z.toNat]) c := by
  have := bx_app (bs := bs) (l := [UInt8.ofNat z.toNat]) (n := n) (c := c) hn (by simpa using h)
  rw [← this, lit8 h0 h1]; rfl
@[go_sem] theorem bx_setL' {z : Int} (h : n < bs.length) (h0 : 0 ≤ z) (h1 : z < 256) : (bx bs c).set n (.val (.int .u8 z)) = bx (bs.set n (UInt8.ofNat z.toNat)) c := bx_setL h h0 h1
@[go_sem 1100] theorem bx_set' {v : UInt8} (h : n < bs.length) : (bx bs c).set n (.val (.int .u8 (U8 v))) = bx (bs.set n v) c := bx_set h
@[go_sem] theorem bx_growL {c' : Nat} {z : Int} (hn : n = bs.length) (h0 : 0 ≤ z) (h1 : z < 256) : (bx bs c).take n ++ [.val (.int .u8 z)] ++ List.replicate (c' - (n + 1)) .undef = bx (bs ++ [UInt8.ofNat z.toNat]) c' := by
  have := bx_grow (bs := bs) (c := c) (l := [UInt8.ofNat z.toNat]) (n := n) (c' := c') hn
  rw [← this, lit8 h0 h1]; rfl
@[go_sem] theorem bx_oneL {z : Int} (h0 : 0 ≤ z) (h1 : z < 256) : C.val (.int .u8 z) :: List.replicate (c - 1) .undef = bx [UInt8.ofNat z.toNat] c := by
  rw [lit8 h0 h1]; rfl
@[go_sem ↓ 1200] theorem bx_over (h0 : bs.length = c) (h1 : l.length = c) : spl (bx bs c) 0 ((byt l).map D.toC) = bx l c := by
  have hl : (bx bs c).length = c := bx_len (by omega)
  rw [spl_eq (by rw [hl]; simp [byt]; omega)]
  unfold bx
  simp only [List.take_zero, List.nil_append, Nat.zero_add]
  rw [List.drop_eq_nil_of_le (by simp [byt]; omega), h1]
  simp
theorem frz_bx {s : St} (h : hget s.heap i = some (bx bs c)) : frzOK s i (byt bs) := frz_at h
@[go_sem ↓ 1200] theorem f_Rb (h0 : n = bs.length) (h1 : n ≤ c) (h2 : c ≤ maxLen) : frzR 1 (byt bs) 0 n c = .lst .no (some false) 1 (byt bs) := by
  subst h0
  rw [f_R h1 h2 (by rw [byt_len]; omega), List.drop_zero, ← byt_len bs, List.take_length]
end

/-! ### bytes of a box as a string -/
section
variable {P : Program} {K : V → St → Prop} {s : St} {t t' : TypeId} {bs : List UInt8} {c n : Nat} {i : Id}
theorem bx_cells {off : Nat} (h : off + n ≤ bs.length) : ((bx bs c).drop off).take n = ((bs.drop off).take n).map (fun b => C.val (.int .u8 b.toNat)) := by
  unfold bx
  rw [List.drop_append_of_le_length (by simp [byt]; omega), List.take_append_of_le_length (by simp [byt]; omega), ← List.map_drop, ← List.map_take]
  simp [byt, D.toC]
  rfl
@[go_sem ↓] theorem e_cvR {off n cp : Nat} : aConvS P t t' (.cell (.row i off n cp)) s K = (isSlcT P t = true ∧ cvB P t (idxT P t) ∧ isStrT P t' = true ∧ ∃ cs, hget s.heap i = some cs ∧ ∃ bs : List UInt8, off + n ≤ cs.length ∧ (cs.drop off).take n = bs.map (fun b => C.val (.int .u8 b.toNat)) ∧ K (.val (.string (strB bs))) s) := by
  show aConvR P t t' i off n s K = _
  unfold aConvR
  rw [cvB_eq]
  exact propext ⟨fun ⟨h1, h2, h4, h5⟩ => ⟨h1, ⟨h1, h2⟩, h4, h5⟩, fun ⟨h1, ⟨_, h2⟩, h4, h5⟩ => ⟨h1, h2, h4, h5⟩⟩
theorem bx_ex {off : Nat} {J : List UInt8 → Prop} (h : off + n ≤ bs.length) : (∃ l : List UInt8, ((bx bs c).drop off).take n = l.map (fun b => C.val (.int .u8 b.toNat)) ∧ J l) = J ((bs.drop off).take n) := by
  rw [bx_cells h]
  refine propext ⟨fun ⟨l, h1, h2⟩ => ?_, fun h => ⟨_, rfl, h⟩⟩
  have : (bs.drop off).take n = l := by
    have e : ∀ a b : List UInt8, a.map (fun b => C.val (.int .u8 (b.toNat : Int))) = b.map (fun b => C.val (.int .u8 b.toNat)) → a = b := by
      intro a
      induction a with
      | nil => intro b h; cases b with
        | nil => rfl
        | cons _ _ => simp at h
      | cons x a ih => intro b h; cases b with
        | nil => simp at h
        | cons y b =>
          simp only [List.map_cons, List.cons.injEq, C.val.injEq, Value.int.injEq, true_and] at h
          rw [ih b h.2, UInt8.toNat_inj.1 (by omega : x.toNat = y.toNat)]
    exact e _ _ h1
  rw [this]; exact h2
end
/-! ### bits of an int -/
def andi (a b : Int) : Int := IntKind.i64.wrap (BitVec.ofInt IntKind.i64.bits a &&& BitVec.ofInt IntKind.i64.bits b).toNat
@[go_sem ↓ 1150] theorem e_andi {a b : Int} {V' : V → Prop} : aInt .and .i64 a .i64 b V' = V' (.int .i64 (andi a b)) := by rw [e_and]; rfl
theorem andi_mask {a b : Int} (h0 : 0 ≤ b) (h1 : b ≤ 9223372036854775807) : 0 ≤ andi a b ∧ andi a b ≤ b := by
  have e : (BitVec.ofInt IntKind.i64.bits b).toNat = b.toNat := by
    show (BitVec.ofInt 64 b).toNat = _
    rw [BitVec.toNat_ofInt]
    omega
  have h2 : (BitVec.ofInt IntKind.i64.bits a &&& BitVec.ofInt IntKind.i64.bits b).toNat ≤ b.toNat := by
    rw [BitVec.toNat_and, e]; exact Nat.and_le_right
  unfold andi
  rw [wrap_i64 (by omega) (by omega)]
  omega
theorem tmod_nat {a : Int} {n : Nat} (h0 : 0 ≤ a) (hn : 0 < n) : ∃ j : Nat, j < n ∧ a.tmod (n : Int) = j := by
  obtain ⟨m, rfl⟩ := Int.eq_ofNat_of_zero_le h0
  exact ⟨m % n, Nat.mod_lt _ hn, by simp [Int.tmod]⟩
end Go.Proofs.Ytamcjecgkfmjkaa
