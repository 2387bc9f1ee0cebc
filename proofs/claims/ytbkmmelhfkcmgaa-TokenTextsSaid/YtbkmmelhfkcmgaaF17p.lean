/- Chapter 17, plain: a word as text, and back. -/
import Derived.Test.YtbkmmelhfkcmgaaF17d
open Go Go.RowKit
namespace Go.Proofs.Ytbkmmelhfkcmgaa
set_option linter.unusedSimpArgs false
set_option linter.unusedVariables false
def dig (c : UInt8) : Int := if 48 ≤ c.toNat ∧ c.toNat ≤ 57 then (c.toNat : Int) - 48 else if 97 ≤ c.toNat ∧ c.toNat ≤ 102 then (c.toNat : Int) - 87 else -1
theorem dig_hx {n : Nat} (h : n < 16) : dig (hx n) = n := by
  have : ∀ n : Fin 16, dig (hx n) = (n.val : Int) := by decide +kernel
  exact this ⟨n, h⟩
theorem dig_45 : dig 45 = -1 := by decide +kernel
theorem u8_all {p : UInt8 → Prop} (h : ∀ n : Fin 256, p (UInt8.ofNat n.val)) (c : UInt8) : p c := by
  have := h ⟨c.toNat, c.toNat_lt⟩
  simpa using this
theorem dig_lt (c : UInt8) : -1 ≤ dig c ∧ dig c < 16 := u8_all (p := fun c => -1 ≤ dig c ∧ dig c < 16) (by decide +kernel) c
theorem hx_dig (c : UInt8) : 0 ≤ dig c → hx (dig c).toNat = c := u8_all (p := fun c => 0 ≤ dig c → hx (dig c).toNat = c) (by decide +kernel) c
theorem dig_idx (c : UInt8) : Lib.indexByte [48, 49, 50, 51, 52, 53, 54, 55, 56, 57, 97, 98, 99, 100, 101, 102] c = dig c := u8_all (p := fun c => Lib.indexByte [48, 49, 50, 51, 52, 53, 54, 55, 56, 57, 97, 98, 99, 100, 101, 102] c = dig c) (by decide +kernel) c
/-! ### where the bytes stand -/
def pos (i : Nat) : Nat := 2 * i + i / 4
theorem txtK_L (t : List UInt8) (k : Nat) : (txtK t k).length = if k = 0 then 0 else pos (k - 1) + 2 := by
  induction k with
  | zero => rfl
  | succ k ih =>
    rcases Nat.eq_zero_or_pos k with h0 | h0
    · subst h0; rfl
    · have ih' : (txtK t k).length = pos (k - 1) + 2 := by rw [ih, if_neg (by omega)]
      rw [if_neg (show ¬ k + 1 = 0 by omega), Nat.add_sub_cancel]
      simp only [txtK, List.length_append, List.length_cons, List.length_nil, ih']
      by_cases h : 0 < k ∧ k % 4 = 0
      · simp only [h, and_self, if_true, pos, List.length_cons, List.length_nil]; omega
      · simp only [h, if_false, pos, List.length_nil]; omega
theorem txtK_len35 (t : List UInt8) : (txtK t 16).length = 35 := by rw [txtK_L]; rfl
theorem txtK_at (t : List UInt8) : ∀ (k i : Nat), i < k → (txtK t k).getD (pos i) 0 = hx ((t.getD i 0).toNat / 16) ∧ (txtK t k).getD (pos i + 1) 0 = hx ((t.getD i 0).toNat % 16) ∧ (0 < i ∧ i % 4 = 0 → (txtK t k).getD (pos i - 1) 0 = 45)
  | 0, i, h => absurd h (by omega)
  | k + 1, i, h => by
    have hl := txtK_L t k
    have gl : ∀ (X Y : List UInt8) (n : Nat), n < X.length → (X ++ Y).getD n 0 = X.getD n 0 := fun X Y n hn => by simp [List.getD, List.getElem?_append_left hn]
    have gr : ∀ (X Y : List UInt8) (n : Nat), X.length ≤ n → (X ++ Y).getD n 0 = Y.getD (n - X.length) 0 := fun X Y n hn => by simp [List.getD, List.getElem?_append_right hn]
    rcases Nat.lt_or_ge i k with hi | hi
    · obtain ⟨a, b, c⟩ := txtK_at t k i hi
      rw [if_neg (by omega)] at hl
      have hp : pos i ≤ pos (k - 1) := by simp only [pos]; omega
      simp only [txtK, List.append_assoc]
      refine ⟨?_, ?_, fun h2 => ?_⟩
      · rw [gl _ _ _ (by omega)]; exact a
      · rw [gl _ _ _ (by omega)]; exact b
      · rw [gl _ _ _ (by omega)]; exact c h2
    · have : i = k := by omega
      subst this
      simp only [txtK]
      by_cases h2 : 0 < i ∧ i % 4 = 0
      · have e : (txtK t i).length = pos i - 1 := by rw [hl, if_neg (by omega)]; simp only [pos]; omega
        have p1 : 1 ≤ pos i := by simp only [pos]; omega
        rw [if_pos h2]
        refine ⟨?_, ?_, fun _ => ?_⟩
        · rw [gr _ _ _ (by simp only [List.length_append, e, List.length_cons, List.length_nil]; omega)]; simp [e, show pos i - (pos i - 1 + 1) = 0 by omega]
        · rw [gr _ _ _ (by simp only [List.length_append, e, List.length_cons, List.length_nil]; omega)]; simp [e, show pos i + 1 - (pos i - 1 + 1) = 1 by omega]
        · rw [List.append_assoc, gr _ _ _ (by omega), e]; simp
      · have e : (txtK t i).length = pos i := by
          rw [hl]; split
          · rename_i h0; subst h0; rfl
          · simp only [pos]; omega
        rw [if_neg h2, List.append_nil]
        refine ⟨?_, ?_, fun h3 => absurd h3 h2⟩
        · rw [gr _ _ _ (by omega)]; simp [e]
        · rw [gr _ _ _ (by omega)]; simp [e]
/-! ### the document's reading -/
def okAt (bs : List UInt8) (i : Nat) : Bool := decide (0 ≤ dig (bs.getD (pos i) 0)) && decide (0 ≤ dig (bs.getD (pos i + 1) 0)) && (!(decide (0 < i) && decide (i % 4 = 0)) || decide (bs.getD (pos i - 1) 0 = 45))
def tAt (bs : List UInt8) (i : Nat) : UInt8 := UInt8.ofNat (16 * (dig (bs.getD (pos i) 0)).toNat + (dig (bs.getD (pos i + 1) 0)).toNat)
def refT (bs : List UInt8) (k : Nat) : List UInt8 := (List.range k).map (tAt bs) ++ List.replicate (16 - k) 0
def refOK (bs : List UInt8) : Bool := decide (bs.length = 35) && (List.range 16).all (okAt bs)
theorem okAt_iff {bs : List UInt8} {i : Nat} : okAt bs i = true ↔ 0 ≤ dig (bs.getD (pos i) 0) ∧ 0 ≤ dig (bs.getD (pos i + 1) 0) ∧ (0 < i ∧ i % 4 = 0 → bs.getD (pos i - 1) 0 = 45) := by
  simp only [okAt, Bool.and_eq_true, Bool.or_eq_true, Bool.not_eq_true', Bool.and_eq_false_iff, decide_eq_true_eq, decide_eq_false_iff_not]
  constructor
  · rintro ⟨⟨a, b⟩, c⟩; exact ⟨a, b, fun h => c.elim (fun c => absurd h (by omega)) id⟩
  · rintro ⟨a, b, c⟩
    refine ⟨⟨a, b⟩, ?_⟩
    by_cases h : 0 < i ∧ i % 4 = 0
    · exact .inr (c h)
    · exact .inl (by omega)
theorem refOK_iff {bs : List UInt8} : refOK bs = true ↔ bs.length = 35 ∧ ∀ i, i < 16 → okAt bs i = true := by
  simp [refOK]
theorem tAt_nat {bs : List UInt8} {i : Nat} (h : okAt bs i = true) : (tAt bs i).toNat = 16 * (dig (bs.getD (pos i) 0)).toNat + (dig (bs.getD (pos i + 1) 0)).toNat := by
  obtain ⟨a, b, _⟩ := okAt_iff.1 h
  have c := dig_lt (bs.getD (pos i) 0)
  have d := dig_lt (bs.getD (pos i + 1) 0)
  unfold tAt
  rw [UInt8.toNat_ofNat']
  omega
theorem refT_at {bs : List UInt8} {i : Nat} (h : i < 16) : (refT bs 16).getD i 0 = tAt bs i := by
  simp [refT, List.getD, h]
theorem refT_len {bs : List UInt8} {k : Nat} (h : k ≤ 16) : (refT bs k).length = 16 := by
  simp [refT]; omega
theorem take2 {bs : List UInt8} {m : Nat} (h : m + 2 ≤ bs.length) : bs.take (m + 2) = bs.take m ++ [bs.getD m 0, bs.getD (m + 1) 0] := by
  have h1 : m < bs.length := by omega
  have h2 : m + 1 < bs.length := by omega
  rw [List.take_succ_eq_append_getElem h2, List.take_succ_eq_append_getElem h1]
  simp only [List.getD, List.getElem?_eq_getElem h1, List.getElem?_eq_getElem h2, Option.getD_some, List.append_assoc, List.cons_append, List.nil_append]
theorem take1 {bs : List UInt8} {m : Nat} (h : m + 1 ≤ bs.length) : bs.take (m + 1) = bs.take m ++ [bs.getD m 0] := by
  have h1 : m < bs.length := by omega
  rw [List.take_succ_eq_append_getElem h1]
  simp only [List.getD, List.getElem?_eq_getElem h1, Option.getD_some]
/-- what the document reads is the text of what it read -/
theorem ref_txt {bs : List UInt8} (h : refOK bs = true) : txtK (refT bs 16) 16 = bs := by
  obtain ⟨hl, ho⟩ := refOK_iff.1 h
  have key : ∀ k, k ≤ 16 → txtK (refT bs 16) k = bs.take (if k = 0 then 0 else pos (k - 1) + 2) := by
    intro k
    induction k with
    | zero => intro _; simp [txtK]
    | succ k ih =>
      intro hk
      have hok := ho k (by omega)
      obtain ⟨a, b, c⟩ := okAt_iff.1 hok
      have hn := tAt_nat hok
      have l1 := dig_lt (bs.getD (pos k) 0)
      have l2 := dig_lt (bs.getD (pos k + 1) 0)
      have e1 : hx (((refT bs 16).getD k 0).toNat / 16) = bs.getD (pos k) 0 := by
        rw [refT_at (by omega), hn, show (16 * (dig (bs.getD (pos k) 0)).toNat + (dig (bs.getD (pos k + 1) 0)).toNat) / 16 = (dig (bs.getD (pos k) 0)).toNat by omega]
        exact hx_dig _ a
      have e2 : hx (((refT bs 16).getD k 0).toNat % 16) = bs.getD (pos k + 1) 0 := by
        rw [refT_at (by omega), hn, show (16 * (dig (bs.getD (pos k) 0)).toNat + (dig (bs.getD (pos k + 1) 0)).toNat) % 16 = (dig (bs.getD (pos k + 1) 0)).toNat by omega]
        exact hx_dig _ b
      have hpk : pos k ≤ 33 := by simp only [pos]; omega
      have e5 : (if k + 1 = 0 then 0 else pos (k + 1 - 1) + 2) = pos k + 2 := by rw [if_neg (by omega), Nat.add_sub_cancel]
      rw [e5]
      simp only [txtK]
      rw [ih (by omega), e1, e2, take2 (m := pos k) (by omega)]
      congr 1
      by_cases h2 : 0 < k ∧ k % 4 = 0
      · rw [if_pos h2, if_neg (by omega)]
        have e3 : pos k = pos (k - 1) + 2 + 1 := by simp only [pos]; omega
        have c' := c h2
        have e4 : bs.take (pos k) = bs.take (pos (k - 1) + 2) ++ [bs.getD (pos k - 1) 0] := by
          rw [e3, take1 (m := pos (k - 1) + 2) (by omega)]; rfl
        rw [e4, c']
      · rw [if_neg h2, List.append_nil]
        congr 1
        split
        · rename_i h0; subst h0; rfl
        · simp only [pos]; omega
  have := key 16 (by omega)
  rw [this]
  exact List.take_of_length_le (by rw [hl]; decide)
theorem txt_ok (t : List UInt8) (ht : t.length = 16) : refOK (txtK t 16) = true ∧ refT (txtK t 16) 16 = t := by
  have hd : ∀ i, i < 16 → okAt (txtK t 16) i = true := by
    intro i hi
    obtain ⟨a, b, c⟩ := txtK_at t 16 i hi
    have hlt := (t.getD i 0).toNat_lt
    refine okAt_iff.2 ⟨?_, ?_, c⟩
    · rw [a, dig_hx (by omega)]; omega
    · rw [b, dig_hx (by omega)]; omega
  refine ⟨refOK_iff.2 ⟨txtK_len35 t, hd⟩, ?_⟩
  apply List.ext_getElem
  · rw [refT_len (by omega), ht]
  · intro i h1 h2
    rw [refT_len (by omega)] at h1
    obtain ⟨a, b, c⟩ := txtK_at t 16 i h1
    have hn := tAt_nat (hd i h1)
    have hlt := (t.getD i 0).toNat_lt
    rw [a, b, dig_hx (by omega), dig_hx (by omega)] at hn
    have e : tAt (txtK t 16) i = t.getD i 0 := by
      rw [← UInt8.toNat_inj, hn]; omega
    have g := refT_at (bs := txtK t 16) h1
    rw [e] at g
    simp only [List.getD, List.getElem?_eq_getElem h2, Option.getD_some] at g
    rw [List.getElem?_eq_getElem (by rw [refT_len (by omega)]; exact h1)] at g
    simpa using g
/-! ### the program's reading -/
def pstep (a : Nat × List UInt8) (c : UInt8) : Nat × List UInt8 := if dig c < 0 then a else (a.1 + 1, a.2.set (a.1 / 2) (UInt8.ofNat (16 * ((a.2.getD (a.1 / 2) 0).toNat % 16) + (dig c).toNat)))
def pfold (bs : List UInt8) : Nat × List UInt8 := bs.foldl pstep (0, List.replicate 16 0)
theorem pfold_snoc (bs : List UInt8) (c : UInt8) : pfold (bs ++ [c]) = pstep (pfold bs) c := by simp [pfold]
theorem pfold_len (bs : List UInt8) : (pfold bs).2.length = 16 := by
  unfold pfold
  suffices h : ∀ (l : List UInt8) (a : Nat × List UInt8), a.2.length = 16 → (l.foldl pstep a).2.length = 16 from h bs _ (by simp)
  intro l
  induction l with
  | nil => intro a h; exact h
  | cons c l ih =>
    intro a h
    rw [List.foldl_cons]
    refine ih _ ?_
    unfold pstep
    split
    · exact h
    · simpa using h
theorem pfold_txt (t : List UInt8) (ht : t.length = 16) : ∀ k, k ≤ 16 → pfold (txtK t k) = (2 * k, t.take k ++ List.replicate (16 - k) 0)
  | 0, _ => rfl
  | k + 1, hk => by
    have ih := pfold_txt t ht k (by omega)
    have hlt := (t.getD k 0).toNat_lt
    have d1 := dig_hx (n := (t.getD k 0).toNat / 16) (by omega)
    have d2 := dig_hx (n := (t.getD k 0).toNat % 16) (by omega)
    have dash : pfold (txtK t k ++ if 0 < k ∧ k % 4 = 0 then [45] else []) = (2 * k, t.take k ++ List.replicate (16 - k) 0) := by
      split
      · rw [pfold_snoc, ih, pstep, if_pos (by rw [dig_45]; omega)]
      · rw [List.append_nil, ih]
    have e : txtK t (k + 1) = ((txtK t k ++ if 0 < k ∧ k % 4 = 0 then [45] else []) ++ [hx ((t.getD k 0).toNat / 16)]) ++ [hx ((t.getD k 0).toNat % 16)] := by simp [txtK]
    have hrep : List.replicate (16 - k) (0 : UInt8) = 0 :: List.replicate (16 - (k + 1)) 0 := by rw [show 16 - k = (16 - (k + 1)) + 1 by omega, List.replicate_succ]
    have htk : (t.take k).length = k := by rw [List.length_take]; omega
    have hset : ∀ (x y : UInt8) (l : List UInt8), (t.take k ++ x :: l).set k y = t.take k ++ y :: l := fun x y l => by
      rw [List.set_append_right _ _ (by omega), htk, Nat.sub_self]; rfl
    have hget : ∀ (x : UInt8) (l : List UInt8), (t.take k ++ x :: l).getD k 0 = x := fun x l => by
      simp [List.getD, List.getElem?_append_right, htk]
    rw [e, pfold_snoc, pfold_snoc, dash]
    unfold pstep
    rw [d1, d2, if_neg (by omega), if_neg (by omega)]
    simp only [hrep]
    rw [show 2 * k / 2 = k by omega, show (2 * k + 1) / 2 = k by omega]
    simp only [hset, hget]
    refine Prod.ext (by dsimp only; omega) ?_
    dsimp only
    have hv : UInt8.ofNat (16 * ((UInt8.ofNat (16 * ((0 : UInt8).toNat % 16) + (((t.getD k 0).toNat / 16 : Nat) : Int).toNat)).toNat % 16) + (((t.getD k 0).toNat % 16 : Nat) : Int).toNat) = t.getD k 0 := by
      rw [← UInt8.toNat_inj]
      simp only [UInt8.toNat_ofNat', Int.toNat_natCast]
      have : (0 : UInt8).toNat = 0 := rfl
      omega
    have hkt : k < t.length := by omega
    rw [hv, List.take_succ_eq_append_getElem hkt]
    simp only [List.getD, List.getElem?_eq_getElem hkt, Option.getD_some, List.append_assoc, List.cons_append, List.nil_append]
def zb16 : List UInt8 := List.replicate 16 0
/-- what the program answers -/
def parseP (bs : List UInt8) : List UInt8 × Int := if (pfold bs).1 ≤ 32 ∧ txtK (pfold bs).2 16 = bs then ((pfold bs).2, 0) else (zb16, 3)
def parseR (bs : List UInt8) : List UInt8 × Int := if refOK bs then (refT bs 16, 0) else (zb16, 3)
theorem parse_same (bs : List UInt8) : parseP bs = parseR bs := by
  unfold parseP parseR
  by_cases h : refOK bs = true
  · rw [if_pos h]
    have e := ref_txt h
    have f := pfold_txt (refT bs 16) (refT_len (by omega)) 16 (by omega)
    rw [e] at f
    have g : (refT bs 16).take 16 ++ List.replicate (16 - 16) 0 = refT bs 16 := by
      rw [List.take_of_length_le (by rw [refT_len (by omega)]; omega)]; simp
    rw [g] at f
    rw [f]
    rw [if_pos ⟨by dsimp only; omega, e⟩]
  · rw [if_neg h]
    split
    · rename_i hh
      exfalso
      apply h
      rw [← hh.2]
      exact (txt_ok _ (pfold_len bs)).1
    · rfl
theorem parse_txt (t : List UInt8) (ht : t.length = 16) : parseR (txtK t 16) = (t, 0) := by
  obtain ⟨a, b⟩ := txt_ok t ht
  unfold parseR
  rw [if_pos a, b]
end Go.Proofs.Ytbkmmelhfkcmgaa
