/- The reference's way of padding gives the same digest: plain lists. -/
import Derived.Test.YtbkmmelhfkcmgaaDigC
open Go Go.RowKit
namespace Go.Proofs.Ytbkmmelhfkcmgaa

theorem be32_congr (b b' : List UInt8) (i : Nat) (h : ∀ t, t < 4 * i + 4 → b8 b t = b8 b' t) : be32 b i = be32 b' i := by
  unfold be32
  rw [h (4 * i) (by omega), h (4 * i + 1) (by omega), h (4 * i + 2) (by omega), h (4 * i + 3) (by omega)]
theorem shaFill_congr (b b' : List UInt8) : ∀ (k : Nat), (∀ t, t < 4 * k → b8 b t = b8 b' t) → shaFill b k = shaFill b' k
  | 0, _ => rfl
  | k+1, h => by
    rw [shaFill, shaFill, shaFill_congr b b' k (fun t ht => h t (by omega)), be32_congr b b' k (fun t ht => h t (by omega))]
theorem shaBlock_congr (s : List UInt32) (b b' : List UInt8) (h : ∀ t, t < 64 → b8 b t = b8 b' t) : shaBlock s b = shaBlock s b' := by
  unfold shaBlock; rw [shaFill_congr b b' 16 h]
theorem b8_take (b : List UInt8) (k t : Nat) (h : t < k) : b8 (b.take k) t = b8 b t := by
  unfold b8; simp [List.getD, h]
theorem b8_drop (b : List UInt8) (k t : Nat) : b8 (b.drop k) t = b8 b (k + t) := by
  unfold b8; simp [List.getD, List.getElem?_drop]
theorem shaBlock_take (s : List UInt32) (b : List UInt8) : shaBlock s (b.take 64) = shaBlock s b :=
  shaBlock_congr s _ _ fun t ht => b8_take b 64 t ht
theorem shaRun_congr : ∀ (k : Nat) (s : List UInt32) (m m' : List UInt8), (∀ t, t < 64 * k → b8 m t = b8 m' t) → shaRun k s m = shaRun k s m'
  | 0, _, _, _, _ => rfl
  | k+1, s, m, m', h => by
    rw [shaRun, shaRun, shaBlock_congr s m m' (fun t ht => h t (by omega))]
    exact shaRun_congr k _ _ _ fun t ht => by rw [b8_drop, b8_drop]; exact h _ (by omega)
theorem shaRun_add : ∀ (i j : Nat) (s : List UInt32) (m : List UInt8), shaRun (i + j) s m = shaRun j (shaRun i s m) (m.drop (64 * i))
  | 0, j, s, m => by simp [shaRun]
  | i+1, j, s, m => by
    rw [show i + 1 + j = (i + j) + 1 by omega, shaRun, shaRun_add i j, shaRun, List.drop_drop]
    congr 2
    omega

def lenB (N : UInt64) (j : Nat) : List UInt8 := (List.range j).map fun t => c64to8 (shr64 N (8 * (7 - t)))
theorem lenB_succ (N : UInt64) (j : Nat) : lenB N (j + 1) = lenB N j ++ [c64to8 (shr64 N (8 * (7 - j)))] := by
  unfold lenB; rw [List.range_succ, List.map_append]; rfl
def refZ (n : Nat) : Nat := (119 - n % 64) % 64
def refPad (p : List UInt8) : List UInt8 := p ++ [0x80] ++ List.replicate (refZ p.length) 0 ++ lenB (mul64 (UInt64.ofNat p.length) 8) 8
def refOut (s : List UInt32) : Nat → List UInt8 → List UInt8
  | 0, h => h
  | i+1, h => (refOut s i h).set i (c32to8 (shr32 (w32 s (i / 4)) (24 - 8 * (i % 4))))
theorem refOut_len (s : List UInt32) (h : List UInt8) (k : Nat) : (refOut s k h).length = h.length := by
  induction k with
  | zero => rfl
  | succ k ih => simp [refOut, ih]
def refSha (p : List UInt8) : List UInt8 := refOut (shaRun ((refPad p).length / 64) shaInit (refPad p)) 32 (List.replicate 32 0)

theorem shr32_0 (x : UInt32) : shr32 x 0 = x := by
  unfold shr32; simp
theorem refOut_eq (s : List UInt32) (h : List UInt8) : ∀ k, refOut s (4 * k) h = shaOut s k h
  | 0 => rfl
  | k+1 => by
    rw [show 4 * (k + 1) = 4 * k + 1 + 1 + 1 + 1 by omega]
    simp only [refOut, refOut_eq s h k]
    rw [show (4 * k) / 4 = k by omega, show (4 * k + 1) / 4 = k by omega, show (4 * k + 1 + 1) / 4 = k by omega, show (4 * k + 1 + 1 + 1) / 4 = k by omega,
      show (4 * k) % 4 = 0 by omega, show (4 * k + 1) % 4 = 1 by omega, show (4 * k + 1 + 1) % 4 = 2 by omega, show (4 * k + 1 + 1 + 1) % 4 = 3 by omega]
    rw [show 24 - 8 * 3 = 0 by rfl, shr32_0]
    rfl
theorem bits_eq (n : Nat) : shl64 (UInt64.ofNat n) 3 = mul64 (UInt64.ofNat n) 8 := by
  unfold shl64 mul64
  rw [← UInt64.toNat_inj]
  simp [UInt64.toNat_mul]
theorem b8_append_l (a b : List UInt8) (t : Nat) (h : t < a.length) : b8 (a ++ b) t = b8 a t := by
  unfold b8; simp [List.getD, List.getElem?_append_left h]
theorem b8_append_r (a b : List UInt8) (t : Nat) (h : a.length ≤ t) : b8 (a ++ b) t = b8 b (t - a.length) := by
  unfold b8; simp [List.getD, List.getElem?_append_right h]
theorem b8_rep (n t : Nat) : b8 (List.replicate n 0) t = 0 := by
  unfold b8; simp only [List.getD, List.getElem?_replicate]; split <;> rfl
theorem b8_set (l : List UInt8) (i t : Nat) (x : UInt8) (h : i < l.length) : b8 (l.set i x) t = if i = t then x else b8 l t := by
  unfold b8
  by_cases e : i = t
  · subst e; simp [List.getD, h]
  · simp [List.getD, e]
theorem b8_len (N : UInt64) (t : Nat) (h : t < 8) : b8 (lenB N 8) t = c64to8 (shr64 N (8 * (7 - t))) := by
  unfold b8 lenB
  simp [List.getD, h]
theorem b8_last0 (rest : List UInt8) (t : Nat) (h : rest.length < 128) : b8 (shaLast0 rest) t = if rest.length = t then 0x80 else if t < rest.length then b8 rest t else 0 := by
  unfold shaLast0
  rw [b8_set _ _ _ _ (by simp; omega)]
  by_cases e : rest.length = t
  · rw [if_pos e, if_pos e]
  · rw [if_neg e, if_neg e]
    by_cases h2 : t < rest.length
    · rw [if_pos h2, b8_append_l _ _ _ h2]
    · rw [if_neg h2, b8_append_r _ _ _ (by omega), b8_rep]
theorem b8_last (L : List UInt8) (E : Nat) (D : UInt64) (hE : E ≤ L.length) (h8 : 8 ≤ E) : ∀ (k t : Nat), k ≤ 8 → t < E →
    b8 (shaLast L E D k) t = if E - k ≤ t then c64to8 (shr64 D (8 * (E - 1 - t))) else b8 L t
  | 0, t, _, ht => by rw [if_neg (by omega)]; rfl
  | k+1, t, hk, ht => by
    rw [shaLast, b8_set _ _ _ _ (by rw [shaLast_len]; omega), b8_last L E D hE h8 k t (by omega) ht]
    by_cases e : E - 1 - k = t
    · rw [if_pos e, if_pos (by omega), show E - 1 - t = k by omega]
    · rw [if_neg e]
      by_cases h2 : E - k ≤ t
      · rw [if_pos h2, if_pos (by omega)]
      · rw [if_neg h2, if_neg (by omega)]

theorem refPad_len (p : List UInt8) : (refPad p).length = p.length + 1 + refZ p.length + 8 := by
  unfold refPad lenB; simp; omega
theorem sha_eq (p : List UInt8) : refSha p = sha p := by
  unfold refSha
  rw [show (32 : Nat) = 4 * 8 by rfl, refOut_eq]
  have hr := List.length_drop (i := 64 * (p.length / 64)) (l := p)
  obtain ⟨r, hr'⟩ : ∃ r, p.length - 64 * (p.length / 64) = r := ⟨_, rfl⟩
  rw [hr'] at hr
  have hr64 : r < 64 := by omega
  refine (congrArg (fun s => shaOut s 8 (List.replicate (4 * 8) 0)) ?_).trans
    (sha_of p _ _ r (if r < 56 then 64 else 128) _ _ _ rfl hr rfl rfl rfl rfl rfl)
  obtain ⟨E, hE⟩ : ∃ E, (if r < 56 then 64 else 128) = E := ⟨_, rfl⟩
  have hE3 : (E = 64 ∧ r < 56) ∨ (E = 128 ∧ 56 ≤ r) := by
    rw [← hE]; split <;> omega
  have hz : refZ p.length = E - 9 - r := by unfold refZ; omega
  rw [hE, refPad_len, hz, show (p.length + 1 + (E - 9 - r) + 8) / 64 = p.length / 64 + E / 64 by omega, shaRun_add]
  have h1 : shaRun (p.length / 64) shaInit (refPad p) = shaRun (p.length / 64) shaInit p :=
    shaRun_congr _ _ _ _ fun t ht => by
      unfold refPad; rw [List.append_assoc, List.append_assoc, b8_append_l _ _ _ (by omega)]
  rw [h1]
  refine shaRun_congr _ _ _ _ fun t ht => ?_
  have htE : t < E := by omega
  rw [b8_drop, b8_last _ _ _ (by unfold shaLast0; simp [hr]; omega) (by omega) 8 t (by omega) htE, b8_last0 _ _ (by omega), hr, bits_eq, b8_drop]
  unfold refPad
  rw [List.append_assoc, List.append_assoc]
  by_cases c1 : t < r
  · rw [b8_append_l _ _ _ (by omega), if_neg (by omega), if_neg (by omega), if_pos c1]
  · rw [b8_append_r _ _ _ (by omega)]
    by_cases c2 : r = t
    · rw [if_neg (by omega), if_pos c2, b8_append_l _ _ _ (by simp; omega), show 64 * (p.length / 64) + t - p.length = 0 by omega]; rfl
    · rw [b8_append_r _ _ _ (by simp; omega)]
      by_cases c3 : E - 8 ≤ t
      · rw [if_pos c3, b8_append_r _ _ _ (by simp [hz]; omega), b8_len _ _ (by simp [hz]; omega)]
        congr 3
        simp [hz]
        omega
      · rw [if_neg c3, if_neg c2, if_neg c1, b8_append_l _ _ _ (by simp [hz]; omega), b8_rep]
end Go.Proofs.Ytbkmmelhfkcmgaa
