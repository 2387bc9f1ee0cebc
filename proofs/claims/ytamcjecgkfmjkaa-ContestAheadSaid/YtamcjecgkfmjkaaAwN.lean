/- The logic: rules for memory and calls. -/
import Derived.Test.YtamcjecgkfmjkaaAwE
open Go Go.RowKit
namespace Go.Proofs.Ytamcjecgkfmjkaa
set_option linter.unusedSimpArgs false

abbrev W.byt (bs : List UInt8) : W := .c (.lst .no none 1 (Go.Proofs.Ytamcjecgkfmjkaa.byt bs))
abbrev C.byt (bs : List UInt8) : C := .lst .no none 1 (Go.Proofs.Ytamcjecgkfmjkaa.byt bs)
abbrev V.byt (bs : List UInt8) : V := .w (.byt bs)
abbrev V.own (p : List Nat) (bs : List UInt8) : V := .w (.c (.lst (.tag (.slot p)) none 1 (Go.Proofs.Ytamcjecgkfmjkaa.byt bs)))
abbrev W.int (k : IntKind) (n : Int) : W := .c (.val (.int k n))
abbrev W.ptr (i : Id) (o : Nat) : W := .c (.ptr i o)

theorem byt_app (a b : List UInt8) : byt a ++ byt b = byt (a ++ b) := by simp [byt]
theorem byt_nil : ([] : List D) = byt [] := rfl
theorem byt_take (a : List UInt8) (n : Nat) : (byt a).take n = byt (a.take n) := by simp [byt]
theorem byt_drop (a : List UInt8) (n : Nat) : (byt a).drop n = byt (a.drop n) := by simp [byt]
@[go_sem ↓] theorem e_byt2 {bs : List UInt8} {i : Nat} {V' : C → Prop} (h : i < bs.length) : (∃ c, ((byt (bs.drop i)).map D.toC)[0]? = some c ∧ V' c) = V' (.val (.int .u8 (bs.getD i 0).toNat)) := by
  rw [← byt_drop]; exact e_byt h
theorem byt_inj {a b : List UInt8} (h : byt a = byt b) : a = b := by
  induction a generalizing b with
  | nil => cases b with
    | nil => rfl
    | cons y b => simp [byt] at h
  | cons x a ih => cases b with
    | nil => simp [byt] at h
    | cons y b =>
      simp only [byt, List.map_cons, List.cons.injEq, D.val.injEq, Value.int.injEq, true_and] at h
      have e : x = y := UInt8.toNat_inj.1 (by omega)
      rw [ih h.2, e]

/-! ### cleaning -/
attribute [go_sem] List.map_cons List.map_nil List.any_cons List.any_nil Id.loc.injEq Id.arg.injEq Tag.slot.injEq Tag.cell.injEq Tag.made.injEq Tag.bslot.injEq Tag.bcell.injEq List.cons.injEq eq_self_iff_true and_self List.length_cons List.length_nil List.nil_append List.cons_append exists_eq' exists_eq Prod.mk.injEq List.getElem?_cons_zero List.getElem?_cons_succ Option.getD_some
section
variable {bi : Id → Bool} {bt : Tag → Bool} {l : List V} {h : Heap} {d : Nat} {s : St}
@[go_sem ↓] theorem e_clean : St.clean bi bt ⟨l, h⟩ = ⟨l.map (V.clean bi bt), hclean bi bt h⟩ := nr rfl
@[go_sem] theorem k_V {c : C} : V.clean bi bt (.w (.c c)) = .w (.c (C.clean bi bt c)) := nr rfl
@[go_sem] theorem k_Va {cs : List C} : V.clean bi bt (.w (.agg cs)) = .w (.agg (cs.map (C.clean bi bt))) := nr rfl
@[go_sem] theorem k_Vt {xs : List W} : V.clean bi bt (.tup xs) = .tup (xs.map (W.clean bi bt)) := nr rfl
@[go_sem] theorem k_W {c : C} : W.clean bi bt (.c c) = .c (C.clean bi bt c) := nr rfl
@[go_sem] theorem k_Wa {cs : List C} : W.clean bi bt (.agg cs) = .agg (cs.map (C.clean bi bt)) := nr rfl
@[go_sem] theorem k_u : C.clean bi bt .undef = .undef := nr rfl
@[go_sem] theorem k_v {x : Value} : C.clean bi bt (.val x) = .val x := nr rfl
@[go_sem] theorem k_m {x : List D} : C.clean bi bt (.mem x) = .mem x := nr rfl
@[go_sem] theorem k_l0 {nl : Option Bool} {sz : Nat} {xs : List D} : C.clean bi bt (.lst .no nl sz xs) = .lst .no nl sz xs := nr rfl
@[go_sem] theorem k_l1 {nl : Option Bool} {sz : Nat} {xs : List D} : C.clean bi bt (.lst .full nl sz xs) = .lst .full nl sz xs := nr rfl
@[go_sem] theorem k_l2 {nl : Option Bool} {sz : Nat} {xs : List D} {t : Tag} : C.clean bi bt (.lst (.tag t) nl sz xs) = if bt t = true then .lst .no nl sz xs else .lst (.tag t) nl sz xs := nr rfl
@[go_sem] theorem k_p {i : Id} {o : Nat} : C.clean bi bt (.ptr i o) = if bi i = true then .undef else .ptr i o := nr rfl
@[go_sem] theorem k_r {i : Id} {o n c : Nat} : C.clean bi bt (.row i o n c) = if bi i = true then .undef else .row i o n c := nr rfl
@[go_sem] theorem k_f {f : Fn} {x y : List (Id × Nat)} : C.clean bi bt (.fn f x y) = if (x.any (fun p => bi p.1) || y.any (fun p => bi p.1)) = true then .undef else .fn f x y := nr rfl
@[go_sem] theorem k_D {xs : List D} : (xs.map D.toC).map (C.clean bi bt) = xs.map D.toC := by
  rw [List.map_map]
  exact List.map_congr_left fun d _ => by cases d <;> rfl
@[go_sem] theorem k_ri1 {x : Nat} {p : List Nat} : rootI d (.loc (x :: p)) = (x == d) := nr rfl
@[go_sem] theorem k_ri2 {k : Nat} : rootI d (.arg k) = false := nr rfl
@[go_sem] theorem k_rt1 {x : Nat} {p : List Nat} : rootT d (.slot (x :: p)) = (x == d) := nr rfl
@[go_sem] theorem k_rt4 {q : TypeId} {x : Nat} {p : List Nat} : rootT d (.bslot q (x :: p)) = (x == d) := nr rfl
@[go_sem] theorem k_rt5 {q : TypeId} {i : Id} {o : Nat} : rootT d (.bcell q i o) = rootI d i := nr rfl
@[go_sem] theorem k_rt3 {x : Nat} {p : List Nat} : rootT d (.made (x :: p)) = (x == d) := nr rfl
@[go_sem] theorem k_rt2 {i : Id} {o : Nat} : rootT d (.cell i o) = rootI d i := nr rfl
@[go_sem] theorem k_kt1 {t τ : Tag} : killT (.tag τ) d t = (rootT d t || decide (t = τ)) := nr rfl
@[go_sem] theorem k_kt2 {t : Tag} : killT .full d t = rootT d t := by simp [killT]
@[go_sem] theorem k_bt1 {ks : List Id} {p : List Nat} : bornT ks d (.slot p) = rootT d (.slot p) := by simp [bornT]
@[go_sem] theorem k_bt4 {q : TypeId} {ks : List Id} {p : List Nat} : bornT ks d (.bslot q p) = rootT d (.bslot q p) := by simp [bornT]
@[go_sem] theorem k_bt5 {q : TypeId} {ks : List Id} {i : Id} {o : Nat} : bornT ks d (.bcell q i o) = (rootI d i || ks.contains i) := nr rfl
@[go_sem] theorem k_bt3 {ks : List Id} {p : List Nat} : bornT ks d (.made p) = rootT d (.made p) := by simp [bornT]
@[go_sem] theorem k_bt2 {ks : List Id} {i : Id} {o : Nat} : bornT ks d (.cell i o) = (rootI d i || ks.contains i) := nr rfl
@[go_sem] theorem k_teq {t τ : Tag} : (t == τ) = decide (t = τ) := nr rfl
@[go_sem] theorem k_ieq {t τ : Id} : (t == τ) = decide (t = τ) := nr rfl
attribute [go_sem] decide_true decide_false and_false false_and Bool.or_true Bool.or_false
@[go_sem] theorem k_h0 : hclean bi bt [] = [] := nr rfl
@[go_sem] theorem k_h {j : Id} {cs : List C} : hclean bi bt ((j, cs) :: h) = if bi j = true then hclean bi bt h else (j, cs.map (C.clean bi bt)) :: hclean bi bt h := nr rfl
@[go_sem] theorem k_g {j i : Id} {cs : List C} : hget ((j, cs) :: h) i = if j = i then some cs else hget h i := nr rfl
@[go_sem] theorem k_s {j i : Id} {cs ds : List C} : hset ((j, cs) :: h) i ds = if j = i then (i, ds) :: h else (j, cs) :: hset h i ds := nr rfl
attribute [go_sem] spl List.set_cons_zero List.set_cons_succ

/-! ### stores -/
variable {P : Program} {K : V → St → Prop} {i : Id} {off : Nat} {cs : List C}
@[go_sem ↓] theorem w_val {x : Value} : St.stow ⟨l, h⟩ i off cs [.val x] = ⟨l, hset h i (spl cs off [.val x])⟩ := nr rfl
@[go_sem ↓] theorem w_ptr {j : Id} {o : Nat} : St.stow ⟨l, h⟩ i off cs [.ptr j o] = ⟨l, hset h i (spl cs off [.ptr j o])⟩ := nr rfl
@[go_sem ↓] theorem w_mem {x : List D} : St.stow ⟨l, h⟩ i off cs [.mem x] = ⟨l, hset h i (spl cs off [.mem x])⟩ := nr rfl
@[go_sem ↓] theorem w_row {j : Id} {o n c : Nat} : St.stow ⟨l, h⟩ i off cs [.row j o n c] = ⟨l, hset h i (spl cs off [.row j o n c])⟩ := nr rfl
@[go_sem ↓] theorem w_l0 {nl : Option Bool} {sz : Nat} {xs : List D} : St.stow ⟨l, h⟩ i off cs [.lst .no nl sz xs] = ⟨l, hset h i (spl cs off [.lst .no nl sz xs])⟩ := nr rfl
@[go_sem ↓] theorem w_l1 {nl : Option Bool} {sz : Nat} {xs : List D} : St.stow ⟨l, h⟩ i off cs [.lst .full nl sz xs] = ⟨l, hset h i (spl cs off [.lst .full nl sz xs])⟩ := nr rfl
@[go_sem ↓] theorem w_l2a {nl : Option Bool} {sz : Nat} {xs : List D} {p : List Nat} : St.stow ⟨l, h⟩ i off cs [.lst (.tag (.slot p)) nl sz xs] =
    ⟨l.map (V.clean (fun _ => false) fun t => t == .slot p || t == Tag.cell i off), hset (hclean (fun _ => false) (fun t => t == .slot p || t == Tag.cell i off) h) i (spl (cs.map (C.clean (fun _ => false) fun t => t == .slot p || t == Tag.cell i off)) off [.lst (.tag (.cell i off)) nl sz xs])⟩ := nr rfl
@[go_sem ↓] theorem w_l2b {nl : Option Bool} {sz : Nat} {xs : List D} {j : Id} {o : Nat} : St.stow ⟨l, h⟩ i off cs [.lst (.tag (.cell j o)) nl sz xs] =
    ⟨l.map (V.clean (fun _ => false) fun t => t == .cell j o || t == Tag.cell i off), hset (hclean (fun _ => false) (fun t => t == .cell j o || t == Tag.cell i off) h) i (spl (cs.map (C.clean (fun _ => false) fun t => t == .cell j o || t == Tag.cell i off)) off [.lst (.tag (.cell i off)) nl sz xs])⟩ := nr rfl
@[go_sem ↓] theorem w_l2c {nl : Option Bool} {sz : Nat} {xs : List D} {p : List Nat} : St.stow ⟨l, h⟩ i off cs [.lst (.tag (.made p)) nl sz xs] =
    ⟨l.map (V.clean (fun _ => false) fun t => t == .made p || t == Tag.cell i off), hset (hclean (fun _ => false) (fun t => t == .made p || t == Tag.cell i off) h) i (spl (cs.map (C.clean (fun _ => false) fun t => t == .made p || t == Tag.cell i off)) off [.lst (.tag (.cell i off)) nl sz xs])⟩ := nr rfl
@[go_sem ↓] theorem w_l2d {nl : Option Bool} {sz : Nat} {xs : List D} {q : TypeId} {p : List Nat} : St.stow ⟨l, h⟩ i off cs [.lst (.tag (.bslot q p)) nl sz xs] =
    ⟨l.map (V.clean (fun _ => false) fun t => t == .bslot q p || t == Tag.bcell q i off), hset (hclean (fun _ => false) (fun t => t == .bslot q p || t == Tag.bcell q i off) h) i (spl (cs.map (C.clean (fun _ => false) fun t => t == .bslot q p || t == Tag.bcell q i off)) off [.lst (.tag (.bcell q i off)) nl sz xs])⟩ := nr rfl
@[go_sem ↓] theorem w_l2e {nl : Option Bool} {sz : Nat} {xs : List D} {q : TypeId} {j : Id} {o : Nat} : St.stow ⟨l, h⟩ i off cs [.lst (.tag (.bcell q j o)) nl sz xs] =
    ⟨l.map (V.clean (fun _ => false) fun t => t == .bcell q j o || t == Tag.bcell q i off), hset (hclean (fun _ => false) (fun t => t == .bcell q j o || t == Tag.bcell q i off) h) i (spl (cs.map (C.clean (fun _ => false) fun t => t == .bcell q j o || t == Tag.bcell q i off)) off [.lst (.tag (.bcell q i off)) nl sz xs])⟩ := nr rfl
@[go_sem ↓] theorem w_two {a b : C} {vs : List C} : St.stow ⟨l, h⟩ i off cs (a :: b :: vs) = ⟨l, hset h i (spl cs off ((a :: b :: vs).map (C.clean (fun _ => false) fun _ => true)))⟩ := by
  unfold St.stow
  split
  · rename_i e; simp at e
  · rfl
@[go_sem ↓] theorem o_val {x : Value} : cellsOf (.w (.c (.val x))) = some [.val x] := nr rfl
@[go_sem ↓] theorem o_ptr {j : Id} {o : Nat} : cellsOf (.w (.c (.ptr j o))) = some [.ptr j o] := nr rfl
@[go_sem ↓] theorem o_mem {x : List D} : cellsOf (.w (.c (.mem x))) = some [.mem x] := nr rfl
@[go_sem ↓] theorem o_row {j : Id} {o n c : Nat} : cellsOf (.w (.c (.row j o n c))) = some [.row j o n c] := nr rfl
@[go_sem ↓] theorem o_lst {o : Own} {nl : Option Bool} {sz : Nat} {xs : List D} : cellsOf (.w (.c (.lst o nl sz xs))) = some [.lst o nl sz xs] := nr rfl
@[go_sem ↓] theorem o_fn {f : Fn} {x y : List (Id × Nat)} : cellsOf (.w (.c (.fn f x y))) = some [.fn f x y] := nr rfl
@[go_sem ↓] theorem o_agg : cellsOf (.w (.agg cs)) = some cs := nr rfl
@[go_sem] theorem n_val {x : Value} : known (.val x) = true := nr rfl
@[go_sem] theorem n_ptr {j : Id} {o : Nat} : known (.ptr j o) = true := nr rfl
@[go_sem] theorem n_mem {x : List D} : known (.mem x) = true := nr rfl
@[go_sem] theorem n_row {j : Id} {o n c : Nat} : known (.row j o n c) = true := nr rfl
@[go_sem] theorem n_lst {o : Own} {nl : Option Bool} {sz : Nat} {xs : List D} : known (.lst o nl sz xs) = true := nr rfl
@[go_sem] theorem n_fn {f : Fn} {x y : List (Id × Nat)} : known (.fn f x y) = true := nr rfl
@[go_sem] theorem n_D {xs : List D} : (xs.map D.toC).all known = true := by
  rw [List.all_eq_true]; intro c hc; obtain ⟨d, _, rfl⟩ := List.mem_map.1 hc; cases d <;> rfl
attribute [go_sem] List.all_cons List.all_nil Bool.and_self Bool.and_true Bool.true_and
@[go_sem ↓] theorem e_sto {t : TypeId} {v : V} : aStore P t (.cell (.ptr i off)) v s K = ∃ cs, hget s.heap i = some cs ∧ ∃ vs, cellsOf v = some vs ∧ sizeT P t = some vs.length ∧ off + vs.length ≤ cs.length ∧ vs.all known = true ∧ K V.undef (s.stow i off cs vs) := by
  unfold aStore
  exact propext ⟨fun ⟨a, b, h1, h2, h3⟩ => ⟨a, h1, b, h2, h3⟩, fun ⟨a, h1, b, h2, h3⟩ => ⟨a, b, h1, h2, h3⟩⟩
@[go_sem ↓] theorem e_newA : aNewA d cs ⟨l, h⟩ K = K (.cell (.ptr (.loc [d]) 0)) ⟨l.map (V.clean (rootI d) (rootT d)), (.loc [d], cs) :: hclean (rootI d) (rootT d) h⟩ := nr rfl
@[go_sem] theorem k_rt0 : rootT d (.slot []) = false := nr rfl
@[go_sem] theorem k_t {t : TypeId} : C.clean bi bt (.typ t) = if bt (.slot []) = true then .undef else .typ t := nr rfl
@[go_sem] theorem k_i : C.clean bi bt .ifc = .ifc := nr rfl
@[go_sem] theorem n_ifc : known .ifc = true := nr rfl
@[go_sem ↓] theorem o_ifc : cellsOf (.w (.c .ifc)) = some [.ifc] := nr rfl
@[go_sem ↓] theorem w_ifc : St.stow ⟨l, h⟩ i off cs [.ifc] = ⟨l, hset h i (spl cs off [.ifc])⟩ := nr rfl
@[go_sem ↓] theorem e_new : aNew d cs ⟨l, h⟩ K = K (.cell (.ptr (.loc [d]) 0)) ⟨l.map (V.clean (rootI d) (rootT d)), (.loc [d], cs.map (C.clean (rootI d) fun _ => true)) :: hclean (rootI d) (rootT d) h⟩ := nr rfl

/-! ### rows that grow -/
theorem src_no {sz : Nat} {x : V} {J : List D → Prop} (h : aSrc sz x s J) (hj : ∀ ys, ¬ J ys) : False := by
  unfold aSrc at h
  split at h
  · exact hj _ h.2
  · obtain ⟨_, ds, _, _, _, h⟩ := h; exact hj _ h
  · exact h
def nlA (nl : Option Bool) : Option Bool := if nl = some false then some false else none
@[go_sem] theorem nlA_f : nlA (some false) = some false := nr rfl
@[go_sem] theorem nlA_t : nlA (some true) = none := nr rfl
@[go_sem] theorem nlA_n : nlA none = none := nr rfl
def aAp2 (z : Option (List C)) (b : Option Nat) (o : Own) (nl : Option Bool) (sz' : Nat) (xs : List D) (sz : Nat) (x : V) (d : Nat) (s : St) (K : V → St → Prop) : Prop :=
  match z, b with
  | some z, some b => 0 < sz ∧ z.length = sz ∧ 0 < b ∧ (sz' = sz ∨ xs = [] ∧ ∀ τ, o ≠ .tag τ) ∧ o ≠ .no ∧ aSrc sz x s fun ys =>
    (xs.length + ys.length) / sz * b ≤ 140737488355328 ∧ K (.cell (.lst (.tag (.slot [d])) (nlA nl) sz (xs ++ ys))) (s.clean (fun _ => false) (killT o d))
  | _, _ => False
def aAp (P : Program) (q : Option (Option Nat × TypeId × Nat)) (o : Own) (nl : Option Bool) (sz' : Nat) (xs : List D) (x : V) (d : Nat) (s : St) (K : V → St → Prop) : Prop :=
  match q with
  | some (none, e, sz) => aAp2 (zeroC P e) (bytesT P e) o nl sz' xs sz x d s K
  | _ => False
@[congr] theorem cg_aAp {q q' : Option (Option Nat × TypeId × Nat)} {o : Own} {nl : Option Bool} {sz' : Nat} {xs : List D} {x : V} (h0 : q = q') : aAp P q o nl sz' xs x d s K = aAp P q' o nl sz' xs x d s K := by subst h0; rfl
@[congr] theorem cg_aAp2 {q q' : Option (List C)} {b b' : Option Nat} {o : Own} {nl : Option Bool} {sz' sz : Nat} {xs : List D} {x : V} (h0 : q = q') (h1 : b = b') : aAp2 q b o nl sz' xs sz x d s K = aAp2 q' b' o nl sz' xs sz x d s K := by subst h0; subst h1; rfl
@[go_sem ↓] theorem e_apd {t : TypeId} {o : Own} {nl : Option Bool} {sz' : Nat} {xs : List D} {x : V} : aAppend P t (.cell (.lst o nl sz' xs)) x d s K = aAp P (idxT P t) o nl sz' xs x d s K := by
  unfold aAppend aAp aAp2
  refine propext ⟨fun ⟨e, sz, z, b, h1, h2, h3, h4, h5, h6⟩ => ?_, fun h => ?_⟩
  · rw [h1]; simp only [h3, h5]; exact ⟨h2, h4, h6⟩
  · split at h
    · rename_i e sz hq
      split at h
      · rename_i z b hz hb
        exact ⟨e, sz, z, b, hq, h.1, hz, h.2.1, hb, h.2.2⟩
      · exact h.elim
    · exact h.elim
@[go_sem ↓] theorem e_aX1a {t : TypeId} {p : List Nat} {nl : Option Bool} {sz' : Nat} {xs : List D} {x : V} : aAppX P t (.cell (.lst (.tag (.slot p)) nl sz' xs)) x d s K = aAppend P t (.cell (.lst (.tag (.slot p)) nl sz' xs)) x d s K := by
  refine propext ⟨fun h => ?_, .inl⟩
  rcases h with h | h | ⟨_, _, _, _, _, _, _, _, _, _, _, h⟩
  · exact h
  · exact h.elim
  · exact (src_no h fun _ hh => by rcases hh.1 with ⟨hh, _⟩ | ⟨_, hh, h2⟩ <;> cases hh; cases h2).elim
@[go_sem ↓] theorem e_aX1b {t : TypeId} {j : Id} {q : Nat} {nl : Option Bool} {sz' : Nat} {xs : List D} {x : V} : aAppX P t (.cell (.lst (.tag (.cell j q)) nl sz' xs)) x d s K = aAppend P t (.cell (.lst (.tag (.cell j q)) nl sz' xs)) x d s K := by
  refine propext ⟨fun h => ?_, .inl⟩
  rcases h with h | h | ⟨_, _, _, _, _, _, _, _, _, _, _, h⟩
  · exact h
  · exact h.elim
  · exact (src_no h fun _ hh => by rcases hh.1 with ⟨hh, _⟩ | ⟨_, hh, h2⟩ <;> cases hh; cases h2).elim
@[go_sem ↓] theorem e_aX1c {t : TypeId} {p : List Nat} {nl : Option Bool} {sz' : Nat} {xs : List D} {x : V} : aAppX P t (.cell (.lst (.tag (.made p)) nl sz' xs)) x d s K = aAppend P t (.cell (.lst (.tag (.made p)) nl sz' xs)) x d s K := by
  refine propext ⟨fun h => ?_, .inl⟩
  rcases h with h | h | ⟨_, _, _, _, _, _, _, _, _, _, _, h⟩
  · exact h
  · exact h.elim
  · exact (src_no h fun _ hh => by rcases hh.1 with ⟨hh, _⟩ | ⟨_, hh, h2⟩ <;> cases hh; cases h2).elim
@[go_sem ↓] theorem e_aX2 {t : TypeId} {j : Id} {o n c : Nat} {x : V} : aAppX P t (.cell (.row j o n c)) x d s K = aAppendB P t (.cell (.row j o n c)) x d s K := by simp [aAppX, aAppend, aAppendS]
theorem a_apA {t : TypeId} {sv x : V} (h : aAppend P t sv x d s K) : aAppX P t sv x d s K := .inl h
theorem a_apB {t : TypeId} {sv x : V} (h : aAppendB P t sv x d s K) : aAppX P t sv x d s K := .inr (.inl h)
theorem a_apS {t : TypeId} {sv x : V} (h : aAppendS P t sv x d s K) : aAppX P t sv x d s K := .inr (.inr h)
theorem a_apN {t t' e : TypeId} {z : C} {b : Nat} {o : Own} {nl : Option Bool} {xs : List D} {k : IntKind} {n : Int} {x : D} (ht : isIntT P t' = true) (hq : idxT P t = some (none, e, 1)) (hz : zeroC P e = some [z]) (hx : z.toD = some x) (hb : bytesT P e = some b) (hb0 : 0 < b) (ho : o ≠ .no) (hn : 0 ≤ n) (h1 : n * b ≤ 140737488355328) (h2 : (xs.length + n.toNat) * b ≤ 140737488355328)
    (h : K (.cell (.lst (.tag (.slot [d])) (nlA nl) 1 (xs ++ List.replicate n.toNat x))) (s.clean (fun _ => false) (killT o d))) : aAppN P t t' (.cell (.lst o nl 1 xs)) (V.int k n) d s K := by
  have e1 : (List.replicate n.toNat [x]).flatten = List.replicate n.toNat x := by
    induction n.toNat with
    | zero => rfl
    | succ m ih => simp [List.replicate_succ, ih]
  refine ⟨ht, e, 1, [z], b, [x], hq, by omega, hz, rfl, by simp [allD, hx], hb, hb0, .inl rfl, ho, hn, h1, by simpa using h2, ?_⟩
  rw [e1]
  exact h
/-- .. and its rules: onto a full row -/
def aApB2 (z : Option (List C)) (b : Option Nat) (nl : Option Bool) (sz' : Nat) (xs : List D) (sz : Nat) (x : V) (d : Nat) (s : St) (K : V → St → Prop) : Prop :=
  match z, b with
  | some z, some b => 0 < sz ∧ z.length = sz ∧ 0 < b ∧ (sz' = sz ∨ xs = []) ∧ aSrc sz x s fun ys =>
    (xs.length + ys.length) / sz * b ≤ 140737488355328 ∧
    (ys = [] → K (.cell (.lst .full nl sz xs)) s) ∧
    (ys ≠ [] → ∀ c', (xs.length + ys.length) / sz ≤ c' → c' ≤ maxLen → aNew d ((xs ++ ys).map D.toC ++ List.replicate (c' * sz - (xs.length + ys.length)) .undef) s fun _ s' => K (.cell (.row (.loc [d]) 0 ((xs.length + ys.length) / sz) c')) s')
  | _, _ => False
def aApR2 (z : Option (List C)) (b : Option Nat) (i : Id) (off n c sz : Nat) (x : V) (d : Nat) (s : St) (K : V → St → Prop) : Prop :=
  match z, b with
  | some z, some b => 0 < sz ∧ z.length = sz ∧ 0 < b ∧ off = 0 ∧ n ≤ c ∧ c ≤ maxLen ∧ ∃ cs, hget s.heap i = some cs ∧ c * sz ≤ cs.length ∧ aSrc sz x s fun ys =>
    (n + ys.length / sz) * b ≤ 140737488355328 ∧
    (n + ys.length / sz ≤ c → K (.cell (.row i 0 (n + ys.length / sz) c)) ⟨s.slots, hset s.heap i (spl cs (n * sz) (ys.map D.toC))⟩) ∧
    (c < n + ys.length / sz → ∀ c', n + ys.length / sz ≤ c' → c' ≤ maxLen → aNew d (cs.take (n * sz) ++ ys.map D.toC ++ List.replicate (c' * sz - (n * sz + ys.length)) .undef) s fun _ s' => K (.cell (.row (.loc [d]) 0 (n + ys.length / sz) c')) s')
  | _, _ => False
def aApB (P : Program) (q : Option (Option Nat × TypeId × Nat)) (sv x : V) (d : Nat) (s : St) (K : V → St → Prop) : Prop :=
  match q, sv with
  | some (none, e, sz), .w (.c (.lst _ nl sz' xs)) => aApB2 (zeroC P e) (bytesT P e) nl sz' xs sz x d s K
  | some (none, e, sz), .w (.c (.row i off n c)) => aApR2 (zeroC P e) (bytesT P e) i off n c sz x d s K
  | _, _ => False
@[congr] theorem cg_aApB {q q' : Option (Option Nat × TypeId × Nat)} {sv x : V} (h0 : q = q') : aApB P q sv x d s K = aApB P q' sv x d s K := by subst h0; rfl
@[congr] theorem cg_aApB2 {q q' : Option (List C)} {b b' : Option Nat} {nl : Option Bool} {sz' sz : Nat} {xs : List D} {x : V} (h0 : q = q') (h1 : b = b') : aApB2 q b nl sz' xs sz x d s K = aApB2 q' b' nl sz' xs sz x d s K := by subst h0; subst h1; rfl
@[congr] theorem cg_aApR2 {q q' : Option (List C)} {b b' : Option Nat} {j : Id} {o n c sz : Nat} {x : V} (h0 : q = q') (h1 : b = b') : aApR2 q b j o n c sz x d s K = aApR2 q' b' j o n c sz x d s K := by subst h0; subst h1; rfl
@[go_sem ↓] theorem e_apB1 {t : TypeId} {nl : Option Bool} {sz' : Nat} {xs : List D} {x : V} : aAppendB P t (.cell (.lst .full nl sz' xs)) x d s K = aApB P (idxT P t) (.cell (.lst .full nl sz' xs)) x d s K := by
  unfold aAppendB aApB aApB2
  refine propext ⟨fun ⟨e, sz, z, b, h1, h2, h3, h4, h5, h6⟩ => ?_, fun h => ?_⟩
  · rw [h1]; simp only [h3, h5]; exact ⟨h2, h4, h6⟩
  · cases hq : idxT P t with
    | none => rw [hq] at h; exact h.elim
    | some q =>
      obtain ⟨l, e, sz⟩ := q
      rw [hq] at h
      cases l with
      | some _ => exact h.elim
      | none =>
        cases hz : zeroC P e <;> cases hb : bytesT P e <;> simp only [hz, hb] at h
        exact ⟨e, sz, _, _, rfl, h.1, hz, h.2.1, hb, h.2.2⟩
@[go_sem ↓] theorem e_apB2 {t : TypeId} {j : Id} {o n c : Nat} {x : V} : aAppendB P t (.cell (.row j o n c)) x d s K = aApB P (idxT P t) (.cell (.row j o n c)) x d s K := by
  unfold aAppendB aApB aApR2
  refine propext ⟨fun ⟨e, sz, z, b, cs, h1, h2, h3, h4, h5, h6, h7, h8, h9, h10⟩ => ?_, fun h => ?_⟩
  · rw [h1]; simp only [h3, h5]; exact ⟨h2, h4, h6, h7, h8, h9, cs, h10⟩
  · cases hq : idxT P t with
    | none => rw [hq] at h; exact h.elim
    | some q =>
      obtain ⟨l, e, sz⟩ := q
      rw [hq] at h
      cases l with
      | some _ => exact h.elim
      | none =>
        cases hz : zeroC P e <;> cases hb : bytesT P e <;> simp only [hz, hb] at h
        obtain ⟨h2, h4, h6, h7, h8, h9, cs, h10⟩ := h
        exact ⟨e, sz, _, _, cs, rfl, h2, hz, h4, hb, h6, h7, h8, h9, h10⟩
@[go_sem ↓] theorem e_apBq1 {o : Own} {nl : Option Bool} {sz' sz e : Nat} {xs : List D} {x : V} : aApB P (some (none, e, sz)) (.cell (.lst o nl sz' xs)) x d s K = aApB2 (zeroC P e) (bytesT P e) nl sz' xs sz x d s K := nr rfl
@[go_sem ↓] theorem e_apBq2 {j : Id} {o n c sz e : Nat} {x : V} : aApB P (some (none, e, sz)) (.cell (.row j o n c)) x d s K = aApR2 (zeroC P e) (bytesT P e) j o n c sz x d s K := nr rfl
@[go_sem ↓] theorem e_apBz {z : C} {b : Nat} {nl : Option Bool} {xs : List D} {x : V} : aApB2 (some [z]) (some (b + 1)) nl 1 xs 1 x d s K = aSrc 1 x s fun ys =>
    (xs.length + ys.length) * (b + 1) ≤ 140737488355328 ∧
    (ys = [] → K (.cell (.lst .full nl 1 xs)) s) ∧
    (ys ≠ [] → ∀ c', xs.length + ys.length ≤ c' → c' ≤ maxLen → aNew d ((xs ++ ys).map D.toC ++ List.replicate (c' - (xs.length + ys.length)) .undef) s fun _ s' => K (.cell (.row (.loc [d]) 0 (xs.length + ys.length) c')) s') := by
  simp [aApB2]
@[go_sem ↓] theorem e_apRz {z : C} {b : Nat} {j : Id} {o n c : Nat} {x : V} : aApR2 (some [z]) (some (b + 1)) j o n c 1 x d s K = (o = 0 ∧ n ≤ c ∧ c ≤ maxLen ∧ ∃ cs, hget s.heap j = some cs ∧ c ≤ cs.length ∧ aSrc 1 x s fun ys =>
    (n + ys.length) * (b + 1) ≤ 140737488355328 ∧
    (n + ys.length ≤ c → K (.cell (.row j 0 (n + ys.length) c)) ⟨s.slots, hset s.heap j (spl cs n (ys.map D.toC))⟩) ∧
    (c < n + ys.length → ∀ c', n + ys.length ≤ c' → c' ≤ maxLen → aNew d (cs.take n ++ ys.map D.toC ++ List.replicate (c' - (n + ys.length)) .undef) s fun _ s' => K (.cell (.row (.loc [d]) 0 (n + ys.length) c')) s')) := by
  simp [aApR2]
@[go_sem ↓] theorem e_ap1 {o : Own} {nl : Option Bool} {sz' sz e : Nat} {xs : List D} {x : V} : aAp P (some (none, e, sz)) o nl sz' xs x d s K = aAp2 (zeroC P e) (bytesT P e) o nl sz' xs sz x d s K := nr rfl
@[go_sem ↓] theorem e_ap2 {z : C} {b : Nat} {o : Own} {nl : Option Bool} {xs : List D} {x : V} : aAp2 (some [z]) (some (b + 1)) o nl 1 xs 1 x d s K = (o ≠ .no ∧ aSrc 1 x s fun ys =>
    (xs.length + ys.length) * (b + 1) ≤ 140737488355328 ∧ K (.cell (.lst (.tag (.slot [d])) (nlA nl) 1 (xs ++ ys))) (s.clean (fun _ => false) (killT o d))) := by
  simp [aAp2]
@[go_sem ↓] theorem e_srcB {o : Own} {nl : Option Bool} {ys : List D} {J : List D → Prop} : aSrc 1 (.cell (.lst o nl 1 ys)) s J = J ys := by simp [aSrc]
@[go_sem] theorem e_own1 : (Own.full = .no) = False := by simp
@[go_sem] theorem e_own2 {t : Tag} : (Own.tag t = .no) = False := by simp
attribute [go_sem] not_false_eq_true ne_eq
attribute [go_sem] byt_app byt_len byt_take byt_drop
def aBs2 (z : Option (List C)) (len : Nat) (parts : List (Nat × V)) (sz d : Nat) (s : St) (K : V → St → Prop) : Prop :=
  match z with
  | some z => 0 < sz ∧ len * sz ≤ 16777216 ∧ z.length = sz ∧ ∃ cs, aFill (fun i => some (i * sz, sz)) (List.replicate len z).flatten parts = some cs ∧ ∃ ds, allD cs = some ds ∧
    K (.cell (.lst (ownB len d) (some false) sz ds)) (s.clean (fun _ => false) (rootT d))
  | none => False
def aBs (P : Program) (q : Option (Option Nat × TypeId × Nat)) (len : Nat) (parts : List (Nat × V)) (d : Nat) (s : St) (K : V → St → Prop) : Prop :=
  match q with
  | some (none, e, sz) => aBs2 (zeroC P e) len parts sz d s K
  | _ => False
@[congr] theorem cg_aBs {q q' : Option (Option Nat × TypeId × Nat)} {len : Nat} {parts : List (Nat × V)} (h0 : q = q') : aBs P q len parts d s K = aBs P q' len parts d s K := by subst h0; rfl
@[congr] theorem cg_aBs2 {q q' : Option (List C)} {len sz : Nat} {parts : List (Nat × V)} (h0 : q = q') : aBs2 q len parts sz d s K = aBs2 q' len parts sz d s K := by subst h0; rfl
@[go_sem ↓] theorem e_bsd {t : TypeId} {len : Nat} {parts : List (Nat × V)} : aBuildSlice P t len parts d s K = aBs P (idxT P t) len parts d s K := by
  unfold aBuildSlice aBs aBs2
  refine propext ⟨fun ⟨e, sz, z, cs, ds, h1, h2, h3, h4, h5, h6, h7, h8⟩ => ?_, fun h => ?_⟩
  · rw [h1]; simp only [h4]; exact ⟨h2, h3, h5, cs, h6, ds, h7, h8⟩
  · split at h
    · rename_i e sz hq
      split at h
      · rename_i z hz
        obtain ⟨h2, h3, h5, cs, h6, ds, h7, h8⟩ := h
        exact ⟨e, sz, z, cs, ds, hq, h2, h3, hz, h5, h6, h7, h8⟩
      · exact h.elim
    · exact h.elim
@[go_sem ↓] theorem e_bs1 {len sz e : Nat} {parts : List (Nat × V)} : aBs P (some (none, e, sz)) len parts d s K = aBs2 (zeroC P e) len parts sz d s K := nr rfl
@[go_sem ↓] theorem e_bs2 {z : List C} {len sz : Nat} {parts : List (Nat × V)} : aBs2 (some z) len parts sz d s K = (0 < sz ∧ len * sz ≤ 16777216 ∧ z.length = sz ∧ ∃ cs, aFill (fun i => some (i * sz, sz)) (List.replicate len z).flatten parts = some cs ∧ ∃ ds, allD cs = some ds ∧
    K (.cell (.lst (ownB len d) (some false) sz ds)) (s.clean (fun _ => false) (rootT d))) := rfl
@[go_sem ↓] theorem ownB0 : ownB 0 d = .full := nr rfl
@[go_sem ↓] theorem ownB1 {n : Nat} : ownB (n + 1) d = .tag (.made [d]) := nr rfl
attribute [go_sem] List.flatten_cons List.flatten_nil List.replicate_succ List.replicate_zero List.append_nil
@[go_sem] theorem e_fill0 {pl : Nat → Option (Nat × Nat)} : aFill pl cs [] = some cs := nr rfl
def aFl (q : Option (Nat × Nat)) (vs : Option (List C)) (pl : Nat → Option (Nat × Nat)) (cs : List C) (rest : List (Nat × V)) : Option (List C) :=
  match q, vs with
  | some (off, size), some vs => if vs.length ≠ size ∨ off + vs.length > cs.length then none else aFill pl (spl cs off vs) rest
  | _, _ => none
@[go_sem] theorem e_fill {pl : Nat → Option (Nat × Nat)} {i : Nat} {v : V} {rest : List (Nat × V)} : aFill pl cs ((i, v) :: rest) = aFl (pl i) (cellsOf v) pl cs rest := nr rfl
@[go_sem] theorem e_fl {pl : Nat → Option (Nat × Nat)} {off size : Nat} {vs : List C} {rest : List (Nat × V)} : aFl (some (off, size)) (some vs) pl cs rest = if vs.length ≠ size ∨ off + vs.length > cs.length then none else aFill pl (spl cs off vs) rest := nr rfl
def cD (d : Option D) (l : Option (List D)) : Option (List D) :=
  match d, l with
  | some d, some l => some (d :: l)
  | _, _ => none
@[go_sem] theorem e_aD0 : allD [] = some [] := nr rfl
@[go_sem] theorem e_aD {c : C} {cs : List C} : allD (c :: cs) = cD c.toD (allD cs) := by
  simp only [allD, cD]; cases c.toD <;> cases allD cs <;> rfl
@[go_sem] theorem e_cD {x : D} {ds : List D} : cD (some x) (some ds) = some (x :: ds) := nr rfl
@[go_sem] theorem e_tD1 {x : Value} : C.toD (.val x) = some (.val x) := nr rfl
@[go_sem] theorem e_tD2 {o : Own} {nl : Option Bool} {sz : Nat} {xs : List D} : C.toD (.lst o nl sz xs) = some (.lst nl sz xs) := nr rfl
attribute [go_sem] gt_iff_lt not_true_eq_false or_self or_false false_or

/-! ### parts of rows -/
def cutO : Own → Own
  | .full => .full
  | _ => .no
@[go_sem] theorem cut_f : cutO .full = .full := nr rfl
@[go_sem] theorem cut_n : cutO .no = .no := nr rfl
@[go_sem] theorem cut_t {t : Tag} : cutO (.tag t) = .no := nr rfl
variable {V' : V → Prop} {o : Own} {nl : Option Bool} {bs : List UInt8} {k : IntKind} {a b : Int} {t : TypeId}
def slB (q : Option (Option Nat × TypeId × Nat)) : Prop := match q with
  | some (none, _, 1) => True
  | _ => False
@[go_sem] theorem slB1 {e : Nat} : slB (some (none, e, 1)) = True := nr rfl
theorem slB_eq {q : Option (Option Nat × TypeId × Nat)} : slB q = ∃ e, q = some (none, e, 1) := by
  unfold slB
  split
  · exact (eq_true ⟨_, rfl⟩).symm
  · rename_i h; exact (eq_false fun ⟨e, he⟩ => h e he).symm
@[go_sem ↓] theorem e_slH (h0 : 0 ≤ b) (h1 : b ≤ bs.length) : aSlice P t (.cell (.lst o nl 1 (byt bs))) none (some (V.int k b)) V' = (slB (idxT P t) ∧ V' (.cell (.lst .no nl 1 (byt (bs.take b.toNat))))) := by
  rw [slB_eq]
  refine propext ⟨fun ⟨e, he, l, h, hl, hh, _, _, _, hk⟩ => ⟨⟨e, he⟩, ?_⟩, fun ⟨⟨e, he⟩, hk⟩ => ⟨e, he, 0, b, rfl, rfl, by omega, h0, by simp [byt]; omega, ?_⟩⟩
  · cases hl; cases hh; simpa [byt_take] using hk
  · simpa [byt_take] using hk
@[go_sem ↓] theorem e_slL (h0 : 0 ≤ a) (h1 : a ≤ bs.length) : aSlice P t (.cell (.lst o nl 1 (byt bs))) (some (V.int k a)) none V' = (slB (idxT P t) ∧ V' (.cell (.lst (cutO o) nl 1 (byt (bs.drop a.toNat))))) := by
  rw [slB_eq]
  cases o <;> (refine propext ⟨fun ⟨e, he, l, h, hl, hh, _, _, _, hk⟩ => ⟨⟨e, he⟩, ?_⟩, fun ⟨⟨e, he⟩, hk⟩ => ⟨e, he, a, bs.length, rfl, by simp [bnd, byt], by omega, h1, by simp [byt], ?_⟩⟩) <;> first | (cases hl; cases hh; simpa [byt_len, byt_take, byt_drop, cutO] using hk) | (simpa [byt_len, byt_take, byt_drop, cutO] using hk)
@[go_sem ↓] theorem e_slN : aSlice P t (.cell (.lst o nl 1 (byt bs))) none none V' = (slB (idxT P t) ∧ V' (.cell (.lst (cutO o) nl 1 (byt bs)))) := by
  rw [slB_eq]
  cases o <;> (refine propext ⟨fun ⟨e, he, l, h, hl, hh, _, _, _, hk⟩ => ⟨⟨e, he⟩, ?_⟩, fun ⟨⟨e, he⟩, hk⟩ => ⟨e, he, 0, bs.length, rfl, by simp [bnd, byt], by omega, by omega, by simp [byt], ?_⟩⟩) <;> first | (cases hl; cases hh; simpa [byt_len, byt_take, byt_drop, cutO] using hk) | (simpa [byt_len, byt_take, byt_drop, cutO] using hk)
@[go_sem ↓] theorem e_slLH {k' : IntKind} (h0 : 0 ≤ a) (h1 : a ≤ b) (h2 : b ≤ bs.length) : aSlice P t (.cell (.lst o nl 1 (byt bs))) (some (V.int k a)) (some (V.int k' b)) V' = (slB (idxT P t) ∧ V' (.cell (.lst .no nl 1 (byt ((bs.take b.toNat).drop a.toNat))))) := by
  rw [slB_eq]
  refine propext ⟨fun ⟨e, he, l, h, hl, hh, _, _, _, hk⟩ => ⟨⟨e, he⟩, ?_⟩, fun ⟨⟨e, he⟩, hk⟩ => ⟨e, he, a, b, rfl, rfl, h0, h1, by simp [byt]; omega, ?_⟩⟩
  · cases hl; cases hh; simpa [byt] using hk
  · simpa [byt] using hk
attribute [go_sem] Option.map_some Option.map_none
@[go_sem ↓] theorem e_nilL1 {sz : Nat} {xs ys : List D} {o' : Own} {b : Bool} {sz' : Nat} : aBin P .eql t (.cell (.lst o (some b) sz xs)) (.cell (.lst o' (some true) sz' ys)) V' = (isSlcT P t = true ∧ V' (.bool b)) := nr rfl
@[go_sem ↓] theorem e_nilL2 {sz : Nat} {xs ys : List D} {o' : Own} {b : Bool} {sz' : Nat} : aBin P .neq t (.cell (.lst o (some b) sz xs)) (.cell (.lst o' (some true) sz' ys)) V' = (isSlcT P t = true ∧ V' (.bool !b)) := nr rfl
@[go_sem ↓] theorem e_nilL3 {sz : Nat} {xs ys : List D} {o' : Own} {sz' : Nat} : aBin P .eql t (.cell (.lst o none sz xs)) (.cell (.lst o' (some true) sz' ys)) V' = (isSlcT P t = true ∧ (xs = [] → V' (.bool true)) ∧ V' (.bool false)) := nr rfl
@[go_sem ↓] theorem e_nilL4 {sz : Nat} {xs ys : List D} {o' : Own} {sz' : Nat} : aBin P .neq t (.cell (.lst o none sz xs)) (.cell (.lst o' (some true) sz' ys)) V' = (isSlcT P t = true ∧ (xs = [] → V' (.bool false)) ∧ V' (.bool true)) := nr rfl
@[go_sem ↓] theorem e_nilp0 : aBin P .neq t (V.val (.pointer none)) (V.val (.pointer none)) V' = (isPtrT P t = true ∧ V' (.bool false)) := nr rfl
@[go_sem ↓] theorem e_nilq0 : aBin P .eql t (V.val (.pointer none)) (V.val (.pointer none)) V' = (isPtrT P t = true ∧ V' (.bool true)) := nr rfl

/-! ### structs and arrays -/
inductive Lay where
  | arr (n : Nat)
  | str (l : List (Nat × Nat))
def Lay.at : Lay → Nat → Option (Nat × Nat)
  | .arr n, i => some (i * n, n)
  | .str l, i => l[i]?
def layT (P : Program) (t : TypeId) : Option Lay := match P.underlying t with
  | some (.array _ e) => (sizeT P e).map .arr
  | some (.struct fs) => (fs.toList.mapM (fun f => (P.info? f.type).map fun i => (f.offset, i.size))).map .str
  | _ => none
def aBld (z : Option (List C)) (q : Option Lay) (parts : List (Nat × V)) (K : V → Prop) : Prop :=
  match z, q with
  | some z, some q => ∃ cs, aFill q.at z parts = some cs ∧ K (.w (.agg cs))
  | _, _ => False
@[congr] theorem cg_aBld {z z' : Option (List C)} {q q' : Option Lay} {parts : List (Nat × V)} (h0 : z = z') (h1 : q = q') : aBld z q parts V' = aBld z' q' parts V' := by subst h0; subst h1; rfl
theorem e_bld0 {parts : List (Nat × V)} (h : aBld (zeroC P t) (layT P t) parts V') : aBuild P t parts V' := by
  unfold aBld at h
  split at h
  · rename_i z q hz hq
    obtain ⟨cs, h1, h2⟩ := h
    unfold layT at hq
    refine ⟨z, q.at, cs, hz, ?_, h1, h2⟩
    split at hq
    · rename_i n e hu
      simp only [Option.map_eq_some_iff] at hq
      obtain ⟨n, hn, rfl⟩ := hq
      rw [hu]
      exact ⟨n, hn, rfl⟩
    · rename_i fs hu
      simp only [Option.map_eq_some_iff] at hq
      obtain ⟨l, hl, rfl⟩ := hq
      rw [hu]
      exact ⟨l, hl, rfl⟩
    · cases hq
  · exact h.elim
@[go_sem ↓] theorem e_bld {parts : List (Nat × V)} : aBuild P t parts V' = aBld (zeroC P t) (layT P t) parts V' := by
  refine propext ⟨fun ⟨z, pl, cs, hz, hpl, hf, h⟩ => ?_, e_bld0⟩
  unfold aBld layT
  rw [hz]
  split at hpl
  · rename_i n e hu
    obtain ⟨n, hn, rfl⟩ := hpl
    rw [hu]
    simp only [hn]
    exact ⟨cs, hf, h⟩
  · rename_i fs hu
    obtain ⟨l, hl, rfl⟩ := hpl
    rw [hu]
    simp only [hl]
    exact ⟨cs, hf, h⟩
  · exact hpl.elim
@[go_sem ↓] theorem e_bld1 {z : List C} {q : Lay} {parts : List (Nat × V)} : aBld (some z) (some q) parts V' = ∃ cs, aFill q.at z parts = some cs ∧ V' (.w (.agg cs)) := nr rfl
@[go_sem] theorem lay_a {n i : Nat} : (Lay.arr n).at i = some (i * n, n) := nr rfl
@[go_sem] theorem lay_s {m : List (Nat × Nat)} {i : Nat} : (Lay.str m).at i = m[i]? := nr rfl
@[go_sem ↓] theorem x_tup {xs : List W} {i : Nat} : aExtract (.tup xs) i V' = ∃ x, xs[i]? = some x ∧ V' (.w x) := by
  unfold aExtract; rfl

/-! ### rows of bytes and strings -/
def cvB (P : Program) (t : TypeId) (q : Option (Option Nat × TypeId × Nat)) : Prop := isSlcT P t = true ∧ match q with
  | some (none, e, 1) => kindT P e = some .u8
  | _ => False
theorem cvB_eq {t : TypeId} : cvB P t (idxT P t) = (isSlcT P t = true ∧ ∃ e, idxT P t = some (none, e, 1) ∧ kindT P e = some .u8) := by
  unfold cvB
  refine propext ⟨fun ⟨h0, h⟩ => ⟨h0, ?_⟩, fun ⟨h0, e, h1, h2⟩ => ⟨h0, ?_⟩⟩
  · split at h
    · rename_i e he; exact ⟨e, he, h⟩
    · exact h.elim
  · rw [h1]; exact h2
@[go_sem] theorem cvB1 {e : TypeId} : cvB P t (some (none, e, 1)) = (isSlcT P t = true ∧ kindT P e = some .u8) := nr rfl
@[go_sem ↓] theorem e_cvSame {p : List Nat} {xs : List D} : aConvS P t t (.cell (.lst (.tag (.made p)) nl 1 xs)) s K = (cvB P t (idxT P t) ∧ K (.cell (.lst .no nl 1 xs)) (s.clean (fun _ => false) (fun u => u == .made p))) := by
  rw [cvB_eq]
  simp only [aConvS, aConvL]
  refine propext ⟨fun ⟨h0, e, h1, h2, _, h⟩ => ⟨⟨h0, e, h1, h2⟩, ?_⟩, fun ⟨⟨h0, e, h1, h2⟩, h⟩ => ⟨h0, e, h1, h2, trivial, .inr ⟨trivial, p, rfl, h⟩⟩⟩
  rcases h with ⟨h3, _⟩ | ⟨_, p', hp, h⟩
  · exfalso
    unfold isStrT at h3; unfold isSlcT at h0
    split at h3 <;> rename_i hu
    · rw [hu] at h0; cases h0
    · cases h3
  · cases hp; exact h
theorem byt_map_inj {bs cs : List UInt8} (h : byt bs = cs.map (fun b => .val (.int .u8 b.toNat))) : bs = cs := byt_inj h
theorem e_cvStr {t' : TypeId} (ho : ∀ p, o ≠ .tag (.made p)) : aConvS P t t' (.cell (.lst o nl 1 (byt bs))) s K = (cvB P t (idxT P t) ∧ isStrT P t' = true ∧ K (.val (.string (strB bs))) s) := by
  rw [cvB_eq]
  simp only [aConvS, aConvL]
  refine propext ⟨fun ⟨h0, e, h1, h2, _, h⟩ => ⟨⟨h0, e, h1, h2⟩, ?_⟩, fun ⟨⟨h0, e, h1, h2⟩, h3, h⟩ => ⟨h0, e, h1, h2, trivial, .inl ⟨h3, bs, rfl, h⟩⟩⟩
  rcases h with ⟨h3, cs, hc, h⟩ | ⟨_, p, e, _⟩
  · rw [byt_map_inj hc]; exact ⟨h3, h⟩
  · exact absurd e (ho p)
@[go_sem ↓] theorem e_cvS0 {t' : TypeId} : aConvS P t t' (.cell (.lst .no nl 1 (byt bs))) s K = (cvB P t (idxT P t) ∧ isStrT P t' = true ∧ K (.val (.string (strB bs))) s) := e_cvStr (by simp)
@[go_sem ↓] theorem e_cvS1 {t' : TypeId} : aConvS P t t' (.cell (.lst .full nl 1 (byt bs))) s K = (cvB P t (idxT P t) ∧ isStrT P t' = true ∧ K (.val (.string (strB bs))) s) := e_cvStr (by simp)
@[go_sem ↓] theorem e_cvS2 {t' : TypeId} {p : List Nat} : aConvS P t t' (.cell (.lst (.tag (.slot p)) nl 1 (byt bs))) s K = (cvB P t (idxT P t) ∧ isStrT P t' = true ∧ K (.val (.string (strB bs))) s) := e_cvStr (by simp)
@[go_sem ↓] theorem e_cvS3 {t' : TypeId} {q : Nat} : aConvS P t t' (.cell (.lst (.tag (.cell i q)) nl 1 (byt bs))) s K = (cvB P t (idxT P t) ∧ isStrT P t' = true ∧ K (.val (.string (strB bs))) s) := e_cvStr (by simp)
theorem strB_toList (bs : List UInt8) : (strB bs).toList = bs := by
  rw [ByteArray.toList_eq]; rfl
@[go_sem ↓] theorem e_strEq {cs : List UInt8} : aStr .eql (strB bs) (strB cs) V' = V' (.bool (decide (bs = cs))) := by
  have : ((strB bs).toList == (strB cs).toList) = decide (bs = cs) := by rw [strB_toList, strB_toList, Bool.eq_iff_iff]; simp
  simp only [aStr, this]
@[go_sem ↓] theorem e_bstr {op : BinOp} {x y : ByteArray} : aBin P op t (V.val (.string x)) (V.val (.string y)) V' = aStr op x y V' := nr rfl

/-! ### calls -/
def leB (ks : List Id) (d : Nat) : Heap → Heap → Prop
  | [], _ => True
  | (.arg k, cs) :: l, h => (∃ j, ks[k]? = some j ∧ ∃ ds, hget h j = some ds ∧ leCs (cs.map (C.ren ks d)) ds) ∧ leB ks d l h
  | _, _ => False
theorem leB_get {ks : List Id} {d : Nat} {l h : Heap} (H : leB ks d l h) : ∀ i cs, hget l i = some cs → ∃ k j ds, i = .arg k ∧ ks[k]? = some j ∧ hget h j = some ds ∧ leCs (cs.map (C.ren ks d)) ds := by
  induction l with
  | nil => intro i cs h; cases h
  | cons p l ih =>
    obtain ⟨j, ds⟩ := p
    cases j with
    | loc _ => exact H.elim
    | arg k =>
      intro i cs hi
      simp only [hget] at hi
      split at hi
      · rename_i e
        cases hi
        obtain ⟨j, h1, ds, h2, h3⟩ := H.1
        exact ⟨k, j, ds, e.symm, h1, h2, h3⟩
      · exact ih H.2 i cs hi
theorem a_call {f : FuncId} {args : List V} {args' : List W} {hl : Heap} {R : V → Heap → Prop} (ks : List Id) (H : Holds P f args' hl R) (hk : okKs ks d) (ha : leA ks d args' args) (hb : leB ks d hl s.heap) (hR : ∀ v h', R v h' → K (v.ren ks d) (s.back ks d h')) : aCallF P f args d s K :=
  .inl ⟨[], ks, args', hl, R, H, hk, by have e : V.retags [] = id := rfl; rw [e, List.map_id]; exact ha, leB_get hb, hR⟩
theorem a_callR {f : FuncId} {args : List V} {args' : List W} {hl : Heap} {R : V → Heap → Prop} (rt : List (Tag × Tag)) (ks : List Id) (H : Holds P f args' hl R) (hk : okKs ks d) (ha : leA ks d args' (args.map (V.retags rt))) (hb : leB ks d hl (s.retags rt).heap) (hR : ∀ v h', R v h' → K (v.ren ks d) ((s.retags rt).back ks d h')) : aCallF P f args d s K :=
  .inl ⟨rt, ks, args', hl, R, H, hk, ha, leB_get hb, hR⟩
/-- .. of a box that is written no more -/
theorem a_callF {f : FuncId} {args : List V} {args' : List W} {hl : Heap} {R : V → Heap → Prop} (i : Id) (sz : Nat) (xs : List D) (ks : List Id) (H : Holds P f args' hl R) (hk : okKs ks d) (hf : frzOK s i xs) (ha : leA ks d args' (args.map (V.frz i sz xs))) (hb : leB ks d hl (s.frz i sz xs).heap) (hR : ∀ v h', R v h' → K (v.ren ks d) ((s.frz i sz xs).back ks d h')) : aCallF P f args d s K :=
  .inr ⟨i, sz, xs, hf, [], ks, args', hl, R, H, hk, by have e : V.retags [] = id := rfl; rw [e, List.map_id]; exact ha, leB_get hb, hR⟩
theorem ok0 : okKs [] d := ⟨by simp, fun i hi => by cases hi⟩
theorem ok1 {i : Id} (h : rootI d i = false) : okKs [i] d := ⟨by simp, fun j hj => by simp at hj; subst hj; exact h⟩
theorem ok2 {i j : Id} (hij : i ≠ j) (h : rootI d i = false) (h' : rootI d j = false) : okKs [i, j] d := ⟨by simp [hij], fun j hj => by simp at hj; rcases hj with rfl | rfl <;> assumption⟩
variable {ks : List Id}
@[go_sem] theorem r_B0 : leB ks d [] h = True := nr rfl
@[go_sem] theorem r_B {k : Nat} {l' : Heap} : leB ks d ((.arg k, cs) :: l') h = ((∃ j, ks[k]? = some j ∧ ∃ ds, hget h j = some ds ∧ leCs (cs.map (C.ren ks d)) ds) ∧ leB ks d l' h) := nr rfl
@[go_sem] theorem r_A0 : leA ks d [] [] = True := nr rfl
@[go_sem] theorem r_A {x y : W} {l' : List W} {m : List V} : leA ks d (x :: l') (.w y :: m) = (leW (x.ren ks d) y ∧ leA ks d l' m) := nr rfl
@[go_sem] theorem r_V {x : W} : V.ren ks d (.w x) = .w (x.ren ks d) := nr rfl
@[go_sem] theorem r_Vt {xs : List W} : V.ren ks d (.tup xs) = .tup (xs.map (W.ren ks d)) := nr rfl
@[go_sem] theorem r_W {x : C} : W.ren ks d (.c x) = .c (x.ren ks d) := nr rfl
@[go_sem] theorem r_Wa : W.ren ks d (.agg cs) = .agg (cs.map (C.ren ks d)) := nr rfl
@[go_sem] theorem r_u : C.ren ks d .undef = .undef := nr rfl
@[go_sem] theorem r_v {x : Value} : C.ren ks d (.val x) = .val x := nr rfl
@[go_sem] theorem r_t {t : TypeId} : C.ren ks d (.typ t) = .typ t := nr rfl
@[go_sem] theorem r_i : C.ren ks d .ifc = .ifc := nr rfl
@[go_sem] theorem r_m {x : List D} : C.ren ks d (.mem x) = .mem x := nr rfl
@[go_sem] theorem r_l0 {sz : Nat} {xs : List D} : C.ren ks d (.lst .no nl sz xs) = .lst .no nl sz xs := nr rfl
@[go_sem] theorem r_l1 {sz : Nat} {xs : List D} : C.ren ks d (.lst .full nl sz xs) = .lst .full nl sz xs := nr rfl
@[go_sem] theorem r_l2 {sz : Nat} {xs : List D} {t : Tag} : C.ren ks d (.lst (.tag t) nl sz xs) = .lst (.tag (renT ks d t)) nl sz xs := nr rfl
@[go_sem] theorem r_p {o : Nat} : C.ren ks d (.ptr i o) = .ptr (renI ks d i) o := nr rfl
@[go_sem] theorem r_r {o n c : Nat} : C.ren ks d (.row i o n c) = .row (renI ks d i) o n c := nr rfl
@[go_sem] theorem r_f {f : Fn} {x y : List (Id × Nat)} : C.ren ks d (.fn f x y) = .fn f (x.map fun p => (renI ks d p.1, p.2)) (y.map fun p => (renI ks d p.1, p.2)) := nr rfl
@[go_sem] theorem r_D {xs : List D} : (xs.map D.toC).map (C.ren ks d) = xs.map D.toC := by
  rw [List.map_map]
  exact List.map_congr_left fun d _ => by cases d <;> rfl
@[go_sem] theorem r_Ia {k : Nat} : renI ks d (.arg k) = (ks[k]?).getD (.loc (d :: 1 :: [k])) := nr rfl
@[go_sem] theorem r_Il {p : List Nat} : renI ks d (.loc p) = .loc (d :: 0 :: p) := nr rfl
@[go_sem] theorem r_Ts {p : List Nat} : renT ks d (.slot p) = .slot (d :: 0 :: p) := nr rfl
@[go_sem] theorem r_Tb {q : TypeId} {p : List Nat} : renT ks d (.bslot q p) = .bslot q (d :: 0 :: p) := nr rfl
@[go_sem] theorem r_Tbc {q : TypeId} {o : Nat} : renT ks d (.bcell q i o) = .bcell q (renI ks d i) o := nr rfl
@[go_sem] theorem r_Tm {p : List Nat} : renT ks d (.made p) = .made (d :: 0 :: p) := nr rfl
@[go_sem] theorem r_Tc {o : Nat} : renT ks d (.cell i o) = .cell (renI ks d i) o := nr rfl
@[go_sem ↓] theorem e_back {h' : Heap} : St.back ⟨l, h⟩ ks d h' = ⟨l.map (V.clean (rootI d) (bornT ks d)), hren ks d h' ++ hkeep ks (hclean (rootI d) (bornT ks d) h)⟩ := nr rfl
@[go_sem] theorem r_h0 : hren ks d [] = [] := nr rfl
@[go_sem] theorem r_h {h' : Heap} : hren ks d ((i, cs) :: h') = (renI ks d i, cs.map (C.ren ks d)) :: hren ks d h' := nr rfl
@[go_sem] theorem r_k0 : hkeep ks [] = [] := nr rfl
@[go_sem] theorem r_k {h' : Heap} : hkeep ks ((i, cs) :: h') = if ks.contains i = true then hkeep ks h' else (i, cs) :: hkeep ks h' := nr rfl
@[go_sem ↓] theorem e_cl {f : Nat} {x y : List (Id × Nat)} {args : List V} : aCall P (.cell (.fn (.func f) x y)) args d s K = aCallF P f (x.map pvV ++ args ++ y.map pvV) d s K := nr rfl
@[go_sem] theorem e_pvV {p : Id × Nat} : pvV p = .cell (.ptr p.1 p.2) := nr rfl
attribute [go_sem] Option.getD_none List.append_nil

@[go_sem] theorem e_toW {x : W} : V.toW (.w x) = x := nr rfl
@[go_sem ↓] theorem t_0 : St.retags [] s = s := nr rfl
@[go_sem ↓] theorem t_1 {p : Tag × Tag} {m : List (Tag × Tag)} : St.retags (p :: m) ⟨l, h⟩ = St.retags m ⟨l.map (V.retag p.1 p.2), hretag p.1 p.2 h⟩ := nr rfl
@[go_sem ↓] theorem t_2 {v : V} : V.retags [] v = v := nr rfl
@[go_sem ↓] theorem t_3 {p : Tag × Tag} {m : List (Tag × Tag)} {v : V} : V.retags (p :: m) v = V.retags m (v.retag p.1 p.2) := nr rfl
variable {ta tb : Tag}
@[go_sem] theorem t_V {c : C} : V.retag ta tb (.w (.c c)) = .w (.c (C.retag ta tb c)) := nr rfl
@[go_sem] theorem t_Va : V.retag ta tb (.w (.agg cs)) = .w (.agg (cs.map (C.retag ta tb))) := nr rfl
@[go_sem] theorem t_Vt {xs : List W} : V.retag ta tb (.tup xs) = .tup (xs.map (W.retag ta tb)) := nr rfl
@[go_sem] theorem t_W {c : C} : W.retag ta tb (.c c) = .c (C.retag ta tb c) := nr rfl
@[go_sem] theorem t_Wa : W.retag ta tb (.agg cs) = .agg (cs.map (C.retag ta tb)) := nr rfl
@[go_sem] theorem t_u : C.retag ta tb .undef = .undef := nr rfl
@[go_sem] theorem t_v {x : Value} : C.retag ta tb (.val x) = .val x := nr rfl
@[go_sem] theorem t_t {t : TypeId} : C.retag ta tb (.typ t) = .typ t := nr rfl
@[go_sem] theorem t_i : C.retag ta tb .ifc = .ifc := nr rfl
@[go_sem] theorem t_m {x : List D} : C.retag ta tb (.mem x) = .mem x := nr rfl
@[go_sem] theorem t_p {o : Nat} : C.retag ta tb (.ptr i o) = .ptr i o := nr rfl
@[go_sem] theorem t_r {o n c : Nat} : C.retag ta tb (.row i o n c) = .row i o n c := nr rfl
@[go_sem] theorem t_f {f : Fn} {x y : List (Id × Nat)} : C.retag ta tb (.fn f x y) = .fn f x y := nr rfl
@[go_sem] theorem t_l0 {sz : Nat} {xs : List D} : C.retag ta tb (.lst .no nl sz xs) = .lst .no nl sz xs := nr rfl
@[go_sem] theorem t_l1 {sz : Nat} {xs : List D} : C.retag ta tb (.lst .full nl sz xs) = .lst .full nl sz xs := nr rfl
@[go_sem] theorem t_l2 {sz : Nat} {xs : List D} {t : Tag} : C.retag ta tb (.lst (.tag t) nl sz xs) = .lst (if t = ta then (if (tb.lax = true ∨ ta.lax = false) ∧ tb.ty = none then .tag tb else .no) else if t = tb then .no else .tag t) nl sz xs := nr rfl
@[go_sem] theorem x_s {p : List Nat} : Tag.lax (.slot p) = true := nr rfl
@[go_sem] theorem x_c {o : Nat} : Tag.lax (.cell i o) = true := nr rfl
@[go_sem] theorem x_b {q : TypeId} {p : List Nat} : Tag.lax (.bslot q p) = false := nr rfl
@[go_sem] theorem x_bc {q : TypeId} {o : Nat} : Tag.lax (.bcell q i o) = false := nr rfl
@[go_sem] theorem y_s {p : List Nat} : Tag.ty (.slot p) = none := nr rfl
@[go_sem] theorem y_c {o : Nat} : Tag.ty (.cell i o) = none := nr rfl
@[go_sem] theorem y_m {p : List Nat} : Tag.ty (.made p) = none := nr rfl
@[go_sem] theorem y_b {q : TypeId} {p : List Nat} : Tag.ty (.bslot q p) = some q := nr rfl
@[go_sem] theorem y_bc {q : TypeId} {o : Nat} : Tag.ty (.bcell q i o) = some q := nr rfl
@[go_sem] theorem x_m {p : List Nat} : Tag.lax (.made p) = false := nr rfl
@[go_sem] theorem t_D {x : D} : C.retag ta tb (D.toC x) = D.toC x := by cases x <;> rfl
@[go_sem] theorem t_Ds {xs : List D} : (xs.map D.toC).map (C.retag ta tb) = xs.map D.toC := by
  rw [List.map_map]
  exact List.map_congr_left fun d _ => by cases d <;> rfl
@[go_sem] theorem t_h0 : hretag ta tb [] = [] := nr rfl
@[go_sem] theorem t_h : hretag ta tb ((i, cs) :: h) = (i, cs.map (C.retag ta tb)) :: hretag ta tb h := nr rfl
@[go_sem] theorem d_C1 {x : Value} : D.toC (.val x) = .val x := nr rfl
@[go_sem] theorem d_C2 {nl : Option Bool} {sz : Nat} {xs : List D} : D.toC (.lst nl sz xs) = .lst .no nl sz xs := nr rfl
@[go_sem] theorem d_ren {x : D} : C.ren ks d (D.toC x) = D.toC x := by cases x <;> rfl
@[go_sem] theorem d_cln {x : D} {bi : Id → Bool} {bt : Tag → Bool} : C.clean bi bt (D.toC x) = D.toC x := by cases x <;> rfl
@[go_sem] theorem d_nil : byt [] = [] := nr rfl
def aMf (p q : Option (List (Id × Nat))) (f : Fn) (K : V → Prop) : Prop :=
  match p, q with
  | some a, some b => K (.cell (.fn f a b))
  | _, _ => False
@[congr] theorem cg_aMf {p p' q q' : Option (List (Id × Nat))} {f : Fn} (h0 : p = p') (h1 : q = q') : aMf p q f V' = aMf p' q' f V' := by subst h0; subst h1; rfl
@[go_sem ↓] theorem e_mkf {f : Fn} {x y : List V} : aMakeFunc f x y V' = aMf (ptrs x) (ptrs y) f V' := by
  unfold aMakeFunc aMf
  cases ptrs x <;> cases ptrs y <;> simp
@[go_sem ↓] theorem e_mkf1 {f : Fn} {x y : List (Id × Nat)} : aMf (some x) (some y) f V' = V' (.cell (.fn f x y)) := nr rfl
@[go_sem ↓] theorem ptrs0 : ptrs [] = some [] := nr rfl
@[go_sem ↓] theorem ptrs1 {i : Id} {o : Nat} : ptrs [.cell (.ptr i o)] = some [(i, o)] := nr rfl
@[go_sem ↓] theorem ptrs2 {i j : Id} {o o' : Nat} : ptrs [.cell (.ptr i o), .cell (.ptr j o')] = some [(i, o), (j, o')] := nr rfl
@[go_sem ↓] theorem ptrs3 {i j k : Id} {o o' o2 : Nat} : ptrs [.cell (.ptr i o), .cell (.ptr j o'), .cell (.ptr k o2)] = some [(i, o), (j, o'), (k, o2)] := nr rfl
theorem ok3 {i j k : Id} (hij : i ≠ j) (hik : i ≠ k) (hjk : j ≠ k) (h : rootI d i = false) (h' : rootI d j = false) (h2 : rootI d k = false) : okKs [i, j, k] d := ⟨by simp [hij, hik, hjk], fun j hj => by simp at hj; rcases hj with rfl | rfl | rfl <;> assumption⟩
/-! ### freezing -/
section
variable {sz : Nat} {ds : List D} {cs : List C} {h : Heap} {j : Id}
def frzR (sz : Nat) (ds : List D) (off n c : Nat) : C := if 0 < sz ∧ n ≤ c ∧ c ≤ maxLen ∧ off + n * sz ≤ ds.length then .lst .no (some false) sz ((ds.drop off).take (n * sz)) else .undef
@[go_sem ↓] theorem f_S {l : List V} : St.frz i sz ds ⟨l, h⟩ = ⟨l.map (V.frz i sz ds), hfrz i sz ds h⟩ := nr rfl
@[go_sem] theorem f_V {c : C} : V.frz i sz ds (.w (.c c)) = .w (.c (C.frz i sz ds c)) := nr rfl
@[go_sem] theorem f_Va : V.frz i sz ds (.w (.agg cs)) = .w (.agg (cs.map (C.frz i sz ds))) := nr rfl
@[go_sem] theorem f_Vt {xs : List W} : V.frz i sz ds (.tup xs) = .tup (xs.map (W.frz i sz ds)) := nr rfl
@[go_sem] theorem f_W {c : C} : W.frz i sz ds (.c c) = .c (C.frz i sz ds c) := nr rfl
@[go_sem] theorem f_Wa : W.frz i sz ds (.agg cs) = .agg (cs.map (C.frz i sz ds)) := nr rfl
@[go_sem] theorem f_u : C.frz i sz ds .undef = .undef := nr rfl
@[go_sem] theorem f_v {x : Value} : C.frz i sz ds (.val x) = .val x := nr rfl
@[go_sem] theorem f_l {o : Own} {nl : Option Bool} {sz' : Nat} {xs : List D} : C.frz i sz ds (.lst o nl sz' xs) = .lst o nl sz' xs := nr rfl
@[go_sem] theorem f_t {t : TypeId} : C.frz i sz ds (.typ t) = .typ t := nr rfl
@[go_sem] theorem f_i : C.frz i sz ds .ifc = .ifc := nr rfl
@[go_sem] theorem f_m {x : List D} : C.frz i sz ds (.mem x) = .mem x := nr rfl
@[go_sem] theorem f_p {o : Nat} : C.frz i sz ds (.ptr j o) = if j = i then .undef else .ptr j o := nr rfl
@[go_sem] theorem f_r {o n c : Nat} : C.frz i sz ds (.row j o n c) = if j = i then frzR sz ds o n c else .row j o n c := nr rfl
@[go_sem] theorem f_R {o n c : Nat} (h1 : n ≤ c) (h2 : c ≤ maxLen) (h3 : o + n ≤ ds.length) : frzR 1 ds o n c = .lst .no (some false) 1 ((ds.drop o).take n) := by
  unfold frzR; rw [if_pos ⟨by omega, h1, h2, by omega⟩, Nat.mul_one]
@[go_sem] theorem f_D {xs : List D} : (xs.map D.toC).map (C.frz i sz ds) = xs.map D.toC := by
  rw [List.map_map]
  exact List.map_congr_left fun d _ => by cases d <;> rfl
@[go_sem] theorem f_h0 : hfrz i sz ds [] = [] := nr rfl
@[go_sem] theorem f_h : hfrz i sz ds ((j, cs) :: h) = if j = i then hfrz i sz ds h else (j, cs.map (C.frz i sz ds)) :: hfrz i sz ds h := nr rfl
theorem allD_take {ds : List D} {rest : List C} : allD ((ds.map D.toC ++ rest).take ds.length) = some ds := by
  rw [List.take_append_of_le_length (by simp), List.take_of_length_le (by simp)]; exact allD_toC ds
theorem frz_at {s : St} {rest : List C} (h : hget s.heap i = some (ds.map D.toC ++ rest)) : frzOK s i ds := ⟨_, h, by simp, allD_take⟩
end
@[go_sem ↓] theorem l_Cf {f f' : Fn} {x y x' y' : List (Id × Nat)} : leC (.fn f x y) (.fn f' x' y') = (f = f' ∧ x = x' ∧ y = y') := by simp [leC]

/-! ### less said -/
variable {xs ys : List D} {sz : Nat}
@[go_sem ↓] theorem l_Cno : leC (.lst .no none sz xs) (.lst o nl sz ys) = (xs = ys) := by simp [leC]
@[go_sem ↓] theorem l_Cfull : leC (.lst .full none sz xs) (.lst .full nl sz ys) = (xs = ys) := by simp [leC]
@[go_sem ↓] theorem l_Crow {i j : Id} {o n c o' n' c' : Nat} : leC (.row i o n c) (.row j o' n' c') = (i = j ∧ o = o' ∧ n = n' ∧ c = c') := by simp [leC]
@[go_sem ↓] theorem l_Cnon : leC (.lst .no nl sz xs) (.lst o nl sz ys) = (xs = ys) := by simp [leC]
@[go_sem ↓] theorem l_Ctag {τ : Tag} : leC (.lst (.tag τ) none sz xs) (.lst (.tag τ) nl sz ys) = (xs = ys) := by simp [leC]
@[go_sem ↓] theorem l_Ctagf {τ : Tag} : leC (.lst (.tag τ) none sz xs) (.lst .full nl sz ys) = (τ.lax = true ∧ xs = ys) := by simp [leC, Own.lax]
@[go_sem ↓] theorem l_Ct {t u : TypeId} : leC (.typ t) (.typ u) = (t = u) := by simp [leC]
@[go_sem ↓] theorem l_Ci : leC .ifc .ifc = True := by simp [leC]
@[go_sem ↓] theorem l_Cv {x y : Value} : leC (.val x) (.val y) = (x = y) := by simp [leC]
@[go_sem ↓] theorem l_Cp {j : Id} {o o' : Nat} : leC (.ptr i o) (.ptr j o') = (i = j ∧ o = o') := by simp [leC]
@[go_sem ↓] theorem l_Wc {x y : C} : leW (.c x) (.c y) = leC x y := by
  cases x <;> first | rfl | (simp [leW, leC])
@[go_sem ↓] theorem l_Wa {ds : List C} : leW (.agg cs) (.agg ds) = leCs cs ds := nr rfl
@[go_sem ↓] theorem l_Vw {x y : C} : leV (.w (.c x)) (.w (.c y)) = leC x y := by
  cases x <;> first | rfl | (simp [leV, leC])
@[go_sem ↓] theorem l_Va {ds : List C} : leV (.w (.agg cs)) (.w (.agg ds)) = leCs cs ds := nr rfl
@[go_sem ↓] theorem l_Vt {x y : List W} : leV (.tup x) (.tup y) = leWs x y := nr rfl
@[go_sem ↓] theorem l_Ws0 : leWs [] [] = True := nr rfl
@[go_sem ↓] theorem l_Ws {x y : W} {p q : List W} : leWs (x :: p) (y :: q) = (leW x y ∧ leWs p q) := nr rfl
@[go_sem ↓] theorem l_H {h' : Heap} : leH ((i, cs) :: h') h = ((∃ ds, hget h i = some ds ∧ leCs cs ds) ∧ leH (h'.filter fun p => decide (p.1 ≠ i)) h) := by
  refine propext ⟨fun H => ⟨H i cs (by simp [hget]), fun j ds hj => ?_⟩, ?_⟩
  · have key : ∀ l : Heap, hget (l.filter fun p => decide (p.1 ≠ i)) j = some ds → j ≠ i ∧ hget l j = some ds := by
      intro l
      induction l with
      | nil => intro h; cases h
      | cons p l ih =>
        obtain ⟨k, c⟩ := p
        intro h
        by_cases hk : k = i
        · subst hk
          simp at h
          obtain ⟨a, b⟩ := ih (by simpa using h)
          refine ⟨a, ?_⟩
          simp only [hget]
          rw [if_neg (Ne.symm a)]
          exact b
        · have e : ((k, c) :: l).filter (fun p => decide (p.1 ≠ i)) = (k, c) :: l.filter fun p => decide (p.1 ≠ i) := by simp [hk]
          rw [e] at h
          simp only [hget] at h ⊢
          split at h
          · rename_i e; subst e; exact ⟨hk, by simpa using h⟩
          · rename_i e
            obtain ⟨a, b⟩ := ih h
            exact ⟨a, by rw [if_neg e]; exact b⟩
    obtain ⟨a, b⟩ := key h' hj
    exact H j ds (by simp only [hget]; rw [if_neg (Ne.symm a)]; exact b)
  · rintro ⟨⟨ds, h1, h2⟩, H⟩ j es hj
    simp only [hget] at hj
    split at hj
    · rename_i e; cases hj; subst e; exact ⟨ds, h1, h2⟩
    · rename_i e
      refine H j es ?_
      clear H
      induction h' with
      | nil => cases hj
      | cons p l ih =>
        obtain ⟨k, c⟩ := p
        simp only [hget] at hj
        by_cases hk : k = i
        · subst hk
          rw [if_neg e] at hj
          simpa using ih hj
        · have e' : ((k, c) :: l).filter (fun p => decide (p.1 ≠ i)) = (k, c) :: l.filter fun p => decide (p.1 ≠ i) := by simp [hk]
          rw [e']
          simp only [hget]
          split at hj
          · rename_i e1; rw [if_pos e1]; exact hj
          · rename_i e1; rw [if_neg e1]; exact ih hj
@[go_sem ↓] theorem e_fin {X A : V} {B H : Heap} : (∃ v h', leV v X ∧ leH h' H ∧ v = A ∧ h' = B) = (leV A X ∧ leH B H) :=
  propext ⟨fun ⟨_, _, h1, h2, e1, e2⟩ => by subst e1; subst e2; exact ⟨h1, h2⟩, fun ⟨h1, h2⟩ => ⟨_, _, h1, h2, rfl, rfl⟩⟩
attribute [go_sem] Nat.mul_one Nat.le_refl List.filter_nil List.filter_cons
end
@[congr] theorem cg_aIf {q q' : Prop} [Decidable q] [Decidable q'] {α : Type} {x y : α} (h : q = q') : (if q then x else y) = (if q' then x else y) := by subst h; congr
end Go.Proofs.Ytamcjecgkfmjkaa
