/- Chapter 13 in the logic: what a ring holds, in plain words; the known ring. -/
import Derived.Test.YtfjcflmhboepmaaF13h
open Go Go.RowKit
namespace Go.Proofs.Ytfjcflmhboepmaa
set_option linter.unusedSimpArgs false
set_option linter.unusedVariables false
theorem putB_iff {g : Rg} {s : Sta} : g.putB s = true ↔ isS s = true ∧ (g.hi < 0 ∨ g.lo ≤ s.frame ∧ s.frame ≤ g.hi + 1) := by
  simp [Rg.putB]
theorem put_ok {g : Rg} (hg : g.ok) (s : Sta) : (g.put s).ok := by
  obtain ⟨h1, h2, h3, h4, h5, h6, h7, h8⟩ := hg
  unfold Rg.put
  cases hb : g.putB s
  · exact ⟨h1, h2, h3, h4, h5, h6, h7, h8⟩
  · obtain ⟨hs, hp⟩ := putB_iff.1 hb
    obtain ⟨f0, f1, _⟩ := (isS_iff s).1 hs
    simp only [if_true]
    split <;> exact ⟨h1, h2, by simp [h3], by dsimp only; omega, by dsimp only; omega, by dsimp only; omega, by dsimp only; omega, by dsimp only; omega⟩
theorem rg0_ok {n : Nat} (h1 : 1 ≤ n) (h2 : n ≤ 256) : (rg0 n).ok := ⟨h1, h2, by simp [rg0], by simp [rg0], by simp [rg0], by simp [rg0], by simp [rg0], by simp [rg0]⟩
theorem put_n (g : Rg) (s : Sta) : (g.put s).n = g.n := by unfold Rg.put; split <;> rfl
theorem stz_isS {f : Int} {n : UInt32} (h0 : 0 ≤ f) (h1 : f ≤ 600) : isS (stz f n) = true := (isS_iff _).2 ⟨h0, h1, by simp [stz], by simp [stz], .inr rfl⟩
/-- so many frames, one by one, with these seeds -/
def gp (z : Nat → UInt32) (n : Nat) : Nat → Rg
  | 0 => rg0 n
  | i + 1 => (gp z n i).put (stz i (z i))
theorem gp_ok {z : Nat → UInt32} {n : Nat} (h1 : 1 ≤ n) (h2 : n ≤ 256) : ∀ i, (gp z n i).ok
  | 0 => rg0_ok h1 h2
  | i + 1 => put_ok (gp_ok h1 h2 i) _
theorem gp_n {z : Nat → UInt32} {n : Nat} : ∀ i, (gp z n i).n = n
  | 0 => rfl
  | i + 1 => by rw [gp, put_n]; exact gp_n i
theorem gp_is {z : Nat → UInt32} {n : Nat} (h1 : 1 ≤ n) (h2 : n ≤ 256) : ∀ i, i ≤ 600 → (gp z n i).hi = (i : Int) - 1 ∧ (gp z n i).lo = (if i = 0 then -1 else max 0 ((i : Int) - n)) ∧
    (∀ k, k < i → i ≤ k + n → (gp z n i).at k = stz k (z k)) ∧ (gp z n i).putB (stz i (z i)) = true
  | 0, _ => ⟨by simp [gp, rg0], by simp [gp, rg0], fun k h => absurd h (by omega), putB_iff.2 ⟨stz_isS (by omega) (by omega), .inl (by simp [gp, rg0])⟩⟩
  | i + 1, hi => by
    obtain ⟨a, b, c, d⟩ := gp_is (z := z) h1 h2 i (by omega)
    have hn := gp_n (z := z) (n := n) i
    have hl := (gp_ok (z := z) h1 h2 i).len
    have e : gp z n (i + 1) = ⟨n, max (if (gp z n i).hi < 0 then (i : Int) else (gp z n i).lo) ((i : Int) - n + 1), i, (gp z n i).ss.set (i % n) (stz i (z i))⟩ := by
      rw [gp, Rg.put, if_pos d, hn]; simp [stz]
    have e1 : (gp z n (i + 1)).hi = ((i + 1 : Nat) : Int) - 1 := by rw [e]; simp
    have e2 : (gp z n (i + 1)).lo = (if i + 1 = 0 then -1 else max 0 (((i + 1 : Nat) : Int) - n)) := by
      rw [e, a, b]
      dsimp only
      split <;> split <;> simp only [Nat.add_eq_zero_iff, Nat.succ_ne_self, and_false, if_false] at * <;> omega
    refine ⟨e1, e2, fun k hk hkn => ?_, ?_⟩
    · rw [e]
      unfold Rg.at
      dsimp only
      simp only [Int.toNat_natCast]
      by_cases hki : k = i
      · subst hki
        have : k % n < (gp z n k).ss.length := by rw [hl, hn]; exact Nat.mod_lt _ (by omega)
        simp [List.getD, this]
      · have := c k (by omega) (by omega)
        unfold Rg.at at this
        rw [hn, Int.toNat_natCast] at this
        have hne : i % n ≠ k % n := by
          intro he
          have h3 : (i - k) % n = 0 := Nat.sub_mod_eq_zero_of_mod_eq he
          have h4 : (i - k) % n = i - k := Nat.mod_eq_of_lt (by omega)
          omega
        rw [List.getD, List.getElem?_set_ne hne]
        exact this
    · refine putB_iff.2 ⟨stz_isS (by omega) (by omega), .inr ?_⟩
      rw [e1, e2]
      simp only [stz]
      split <;> omega
theorem fr2 (a b : Int) : decide (a = b) = true ↔ a = b := by simp
set_option maxRecDepth 20000 in
set_option maxHeartbeats 4000000 in
theorem known_h13 : Holds Try.prog 40 [] [] (fun r h' => r = V.bool true ∧ h' = []) := by
  have ok := fun i => gp_ok (z := fun _ => 0) (n := 2) (by omega) (by omega) i
  have hp : ∀ k, k ≤ 600 → (gp (fun _ => 0) 2 k).putE (stz k 0) = 0 := fun k h => by
    have := (gp_is (z := fun _ => 0) (n := 2) (by omega) (by omega) k h).2.2.2
    simp only [Rg.putE, this, if_true]
  refine holds_of_awp Try.func40 rfl (by decide +kernel) mixed Try.ntmps40 Try.results40 ?_
  simp only [entrySt, List.map_cons, List.map_nil, List.length_cons, List.length_nil, Nat.reduceAdd, Nat.reduceSub, List.replicate_succ, List.replicate_zero, List.cons_append, List.nil_append]
  (simp (maxSteps := 2000000) (disch := omega) only [go_sem, true_and, and_true, Nat.reduceAdd, Nat.reduceSub, Nat.reduceMul, Nat.reduceBEq, Nat.reduceEqDiff, Nat.reduceLT, Nat.reduceLeDiff, Nat.reduceDiv, reduceIte, Nat.zero_add, Nat.add_zero, Int.toNat_natCast, Option.some.injEq, exists_eq_left', reduceCtorEq, Int.natCast_add, Int.natCast_mul, Int.cast_ofNat_Int, List.replicate_succ, List.replicate_zero, List.cons_append, List.nil_append]; repeat (with_reducible refine a_apA ?_; simp (maxSteps := 2000000) (disch := omega) only [go_sem, true_and, and_true, Nat.reduceAdd, Nat.reduceSub, Nat.reduceMul, Nat.reduceBEq, Nat.reduceEqDiff, Nat.reduceLT, Nat.reduceLeDiff, Nat.reduceDiv, reduceIte, Nat.zero_add, Nat.add_zero, Int.toNat_natCast, Option.some.injEq, exists_eq_left', reduceCtorEq, Int.natCast_add, Int.natCast_mul, Int.cast_ofNat_Int, List.replicate_succ, List.replicate_zero, List.cons_append, List.nil_append]))
  refine a_call [] (new_ok 2 (by omega) (by omega)) ok0 ?_ ?_ ?_
  · (simp (maxSteps := 2000000) (disch := omega) only [go_sem, true_and, and_true, Nat.reduceAdd, Nat.reduceSub, Nat.reduceMul, Nat.reduceBEq, Nat.reduceEqDiff, Nat.reduceLT, Nat.reduceLeDiff, Nat.reduceDiv, reduceIte, Nat.zero_add, Nat.add_zero, Int.toNat_natCast, Option.some.injEq, exists_eq_left', reduceCtorEq, Int.natCast_add, Int.natCast_mul, Int.cast_ofNat_Int, List.replicate_succ, List.replicate_zero, List.cons_append, List.nil_append]; repeat (with_reducible refine a_apA ?_; simp (maxSteps := 2000000) (disch := omega) only [go_sem, true_and, and_true, Nat.reduceAdd, Nat.reduceSub, Nat.reduceMul, Nat.reduceBEq, Nat.reduceEqDiff, Nat.reduceLT, Nat.reduceLeDiff, Nat.reduceDiv, reduceIte, Nat.zero_add, Nat.add_zero, Int.toNat_natCast, Option.some.injEq, exists_eq_left', reduceCtorEq, Int.natCast_add, Int.natCast_mul, Int.cast_ofNat_Int, List.replicate_succ, List.replicate_zero, List.cons_append, List.nil_append]))
  · (simp (maxSteps := 2000000) (disch := omega) only [go_sem, true_and, and_true, Nat.reduceAdd, Nat.reduceSub, Nat.reduceMul, Nat.reduceBEq, Nat.reduceEqDiff, Nat.reduceLT, Nat.reduceLeDiff, Nat.reduceDiv, reduceIte, Nat.zero_add, Nat.add_zero, Int.toNat_natCast, Option.some.injEq, exists_eq_left', reduceCtorEq, Int.natCast_add, Int.natCast_mul, Int.cast_ofNat_Int, List.replicate_succ, List.replicate_zero, List.cons_append, List.nil_append]; repeat (with_reducible refine a_apA ?_; simp (maxSteps := 2000000) (disch := omega) only [go_sem, true_and, and_true, Nat.reduceAdd, Nat.reduceSub, Nat.reduceMul, Nat.reduceBEq, Nat.reduceEqDiff, Nat.reduceLT, Nat.reduceLeDiff, Nat.reduceDiv, reduceIte, Nat.zero_add, Nat.add_zero, Int.toNat_natCast, Option.some.injEq, exists_eq_left', reduceCtorEq, Int.natCast_add, Int.natCast_mul, Int.cast_ofNat_Int, List.replicate_succ, List.replicate_zero, List.cons_append, List.nil_append]))
  rintro _ _ ⟨rfl, rfl⟩
  simp (maxSteps := 2000000) (disch := omega) only [go_sem, true_and, and_true, Nat.reduceAdd, Nat.reduceSub, Nat.reduceMul, Nat.reduceBEq, Nat.reduceEqDiff, Nat.reduceLT, Nat.reduceLeDiff, Nat.reduceDiv, reduceIte, Nat.zero_add, Nat.add_zero, Int.toNat_natCast, Option.some.injEq, exists_eq_left', reduceCtorEq, Int.natCast_add, Int.natCast_mul, Int.cast_ofNat_Int, List.replicate_succ, List.replicate_zero, List.cons_append, List.nil_append, Int.reduceLT, Int.reduceLE, Int.reduceEq, Int.reduceNe, Int.reduceAdd, Int.reduceSub, Int.reduceMul, Int.reduceNeg, Int.reduceDiv, Int.reduceMod, Int.reduceTMod, Int.reduceTDiv, Int.reduceFDiv, Int.reducePow, Int.reduceToNat, U64n, BitVec.reduceOfInt, BitVec.reduceAnd, BitVec.reduceToNat, bits_u64, bits_i64, decide_true, decide_false, not_true_eq_false, not_false_eq_true]
  refine a_loopk (fun k : Nat => ⟨[V.bool false, .w (.c (.ptr (.loc [9, 0, 13]) 0)), .undef, V.int .i64 k, .undef, .undef, .undef, .undef, .undef, .undef, .undef, .undef, .undef, .undef, .undef, .undef, .undef, .undef, .undef, .undef, .undef, .undef, .undef, .undef, .undef, .undef, .undef, .undef, .undef, .undef, .undef, .undef, .undef, .undef, .undef, .undef, .undef, .undef, .undef, .undef, .undef, .undef, .undef, .undef, .undef, .undef, .undef, .undef, .undef, .undef, .undef, .undef, .undef, .undef, .undef], rgH (.loc [9, 0, 13]) (.loc [9, 0, 11]) (gp (fun _ => 0) 2 k)⟩) (· ≤ 3) (3 - ·) 0 (by omega) ?_ ?_
  · (simp (maxSteps := 2000000) (disch := omega) only [go_sem, true_and, and_true, Nat.reduceAdd, Nat.reduceSub, Nat.reduceMul, Nat.reduceBEq, Nat.reduceEqDiff, Nat.reduceLT, Nat.reduceLeDiff, Nat.reduceDiv, reduceIte, Nat.zero_add, Nat.add_zero, Int.toNat_natCast, Option.some.injEq, exists_eq_left', reduceCtorEq, Int.natCast_add, Int.natCast_mul, Int.cast_ofNat_Int, List.replicate_succ, List.replicate_zero, List.cons_append, List.nil_append]; repeat (with_reducible refine a_apA ?_; simp (maxSteps := 2000000) (disch := omega) only [go_sem, true_and, and_true, Nat.reduceAdd, Nat.reduceSub, Nat.reduceMul, Nat.reduceBEq, Nat.reduceEqDiff, Nat.reduceLT, Nat.reduceLeDiff, Nat.reduceDiv, reduceIte, Nat.zero_add, Nat.add_zero, Int.toNat_natCast, Option.some.injEq, exists_eq_left', reduceCtorEq, Int.natCast_add, Int.natCast_mul, Int.cast_ofNat_Int, List.replicate_succ, List.replicate_zero, List.cons_append, List.nil_append]))
    simp only [gp]
    try (simp (maxSteps := 2000000) (disch := omega) only [go_sem, true_and, and_true, Nat.reduceAdd, Nat.reduceSub, Nat.reduceMul, Nat.reduceBEq, Nat.reduceEqDiff, Nat.reduceLT, Nat.reduceLeDiff, Nat.reduceDiv, reduceIte, Nat.zero_add, Nat.add_zero, Int.toNat_natCast, Option.some.injEq, exists_eq_left', reduceCtorEq, Int.natCast_add, Int.natCast_mul, Int.cast_ofNat_Int, List.replicate_succ, List.replicate_zero, List.cons_append, List.nil_append]; repeat (with_reducible refine a_apA ?_; simp (maxSteps := 2000000) (disch := omega) only [go_sem, true_and, and_true, Nat.reduceAdd, Nat.reduceSub, Nat.reduceMul, Nat.reduceBEq, Nat.reduceEqDiff, Nat.reduceLT, Nat.reduceLeDiff, Nat.reduceDiv, reduceIte, Nat.zero_add, Nat.add_zero, Int.toNat_natCast, Option.some.injEq, exists_eq_left', reduceCtorEq, Int.natCast_add, Int.natCast_mul, Int.cast_ofNat_Int, List.replicate_succ, List.replicate_zero, List.cons_append, List.nil_append]))
  · intro k hk
    have gk := gp_is (z := fun _ => 0) (n := 2) (by omega) (by omega) k (by omega)
    (simp (maxSteps := 2000000) (disch := omega) only [go_sem, true_and, and_true, Nat.reduceAdd, Nat.reduceSub, Nat.reduceMul, Nat.reduceBEq, Nat.reduceEqDiff, Nat.reduceLT, Nat.reduceLeDiff, Nat.reduceDiv, reduceIte, Nat.zero_add, Nat.add_zero, Int.toNat_natCast, Option.some.injEq, exists_eq_left', reduceCtorEq, Int.natCast_add, Int.natCast_mul, Int.cast_ofNat_Int, List.replicate_succ, List.replicate_zero, List.cons_append, List.nil_append]; repeat (with_reducible refine a_apA ?_; simp (maxSteps := 2000000) (disch := omega) only [go_sem, true_and, and_true, Nat.reduceAdd, Nat.reduceSub, Nat.reduceMul, Nat.reduceBEq, Nat.reduceEqDiff, Nat.reduceLT, Nat.reduceLeDiff, Nat.reduceDiv, reduceIte, Nat.zero_add, Nat.add_zero, Int.toNat_natCast, Option.some.injEq, exists_eq_left', reduceCtorEq, Int.natCast_add, Int.natCast_mul, Int.cast_ofNat_Int, List.replicate_succ, List.replicate_zero, List.cons_append, List.nil_append]))
    refine c_dec (fun h => ?_) (fun h => ?_)
    · (simp (maxSteps := 2000000) (disch := omega) only [go_sem, true_and, and_true, Nat.reduceAdd, Nat.reduceSub, Nat.reduceMul, Nat.reduceBEq, Nat.reduceEqDiff, Nat.reduceLT, Nat.reduceLeDiff, Nat.reduceDiv, reduceIte, Nat.zero_add, Nat.add_zero, Int.toNat_natCast, Option.some.injEq, exists_eq_left', reduceCtorEq, Int.natCast_add, Int.natCast_mul, Int.cast_ofNat_Int, List.replicate_succ, List.replicate_zero, List.cons_append, List.nil_append]; repeat (with_reducible refine a_apA ?_; simp (maxSteps := 2000000) (disch := omega) only [go_sem, true_and, and_true, Nat.reduceAdd, Nat.reduceSub, Nat.reduceMul, Nat.reduceBEq, Nat.reduceEqDiff, Nat.reduceLT, Nat.reduceLeDiff, Nat.reduceDiv, reduceIte, Nat.zero_add, Nat.add_zero, Int.toNat_natCast, Option.some.injEq, exists_eq_left', reduceCtorEq, Int.natCast_add, Int.natCast_mul, Int.cast_ofNat_Int, List.replicate_succ, List.replicate_zero, List.cons_append, List.nil_append]))
      refine a_call [.loc [9, 0, 13], .loc [9, 0, 11]] (put_h13 (gp (fun _ => 0) 2 k) (ok k) (stz k 0) (by simp only [stz]; omega) (by simp only [stz]; omega)) (ok2 (by decide) rfl rfl) ?_ ?_ ?_
      · (simp (maxSteps := 2000000) (disch := omega) only [go_sem, true_and, and_true, Nat.reduceAdd, Nat.reduceSub, Nat.reduceMul, Nat.reduceBEq, Nat.reduceEqDiff, Nat.reduceLT, Nat.reduceLeDiff, Nat.reduceDiv, reduceIte, Nat.zero_add, Nat.add_zero, Int.toNat_natCast, Option.some.injEq, exists_eq_left', reduceCtorEq, Int.natCast_add, Int.natCast_mul, Int.cast_ofNat_Int, List.replicate_succ, List.replicate_zero, List.cons_append, List.nil_append]; repeat (with_reducible refine a_apA ?_; simp (maxSteps := 2000000) (disch := omega) only [go_sem, true_and, and_true, Nat.reduceAdd, Nat.reduceSub, Nat.reduceMul, Nat.reduceBEq, Nat.reduceEqDiff, Nat.reduceLT, Nat.reduceLeDiff, Nat.reduceDiv, reduceIte, Nat.zero_add, Nat.add_zero, Int.toNat_natCast, Option.some.injEq, exists_eq_left', reduceCtorEq, Int.natCast_add, Int.natCast_mul, Int.cast_ofNat_Int, List.replicate_succ, List.replicate_zero, List.cons_append, List.nil_append]))
      · (simp (maxSteps := 2000000) (disch := omega) only [go_sem, true_and, and_true, Nat.reduceAdd, Nat.reduceSub, Nat.reduceMul, Nat.reduceBEq, Nat.reduceEqDiff, Nat.reduceLT, Nat.reduceLeDiff, Nat.reduceDiv, reduceIte, Nat.zero_add, Nat.add_zero, Int.toNat_natCast, Option.some.injEq, exists_eq_left', reduceCtorEq, Int.natCast_add, Int.natCast_mul, Int.cast_ofNat_Int, List.replicate_succ, List.replicate_zero, List.cons_append, List.nil_append]; repeat (with_reducible refine a_apA ?_; simp (maxSteps := 2000000) (disch := omega) only [go_sem, true_and, and_true, Nat.reduceAdd, Nat.reduceSub, Nat.reduceMul, Nat.reduceBEq, Nat.reduceEqDiff, Nat.reduceLT, Nat.reduceLeDiff, Nat.reduceDiv, reduceIte, Nat.zero_add, Nat.add_zero, Int.toNat_natCast, Option.some.injEq, exists_eq_left', reduceCtorEq, Int.natCast_add, Int.natCast_mul, Int.cast_ofNat_Int, List.replicate_succ, List.replicate_zero, List.cons_append, List.nil_append]))
      rintro _ _ ⟨rfl, rfl⟩
      simp only [hp k (by omega)]
      simp (maxSteps := 2000000) (disch := omega) only [go_sem, true_and, and_true, Nat.reduceAdd, Nat.reduceSub, Nat.reduceMul, Nat.reduceBEq, Nat.reduceEqDiff, Nat.reduceLT, Nat.reduceLeDiff, Nat.reduceDiv, reduceIte, Nat.zero_add, Nat.add_zero, Int.toNat_natCast, Option.some.injEq, exists_eq_left', reduceCtorEq, Int.natCast_add, Int.natCast_mul, Int.cast_ofNat_Int, List.replicate_succ, List.replicate_zero, List.cons_append, List.nil_append, Int.reduceLT, Int.reduceLE, Int.reduceEq, Int.reduceNe, Int.reduceAdd, Int.reduceSub, Int.reduceMul, Int.reduceNeg, Int.reduceDiv, Int.reduceMod, Int.reduceTMod, Int.reduceTDiv, Int.reduceFDiv, Int.reducePow, Int.reduceToNat, U64n, BitVec.reduceOfInt, BitVec.reduceAnd, BitVec.reduceToNat, bits_u64, bits_i64, decide_true, decide_false, not_true_eq_false, not_false_eq_true]
      refine ⟨k + 1, by omega, by omega, ?_⟩
      simp only [gp]
      (simp (maxSteps := 2000000) (disch := omega) only [go_sem, true_and, and_true, Nat.reduceAdd, Nat.reduceSub, Nat.reduceMul, Nat.reduceBEq, Nat.reduceEqDiff, Nat.reduceLT, Nat.reduceLeDiff, Nat.reduceDiv, reduceIte, Nat.zero_add, Nat.add_zero, Int.toNat_natCast, Option.some.injEq, exists_eq_left', reduceCtorEq, Int.natCast_add, Int.natCast_mul, Int.cast_ofNat_Int, List.replicate_succ, List.replicate_zero, List.cons_append, List.nil_append]; repeat (with_reducible refine a_apA ?_; simp (maxSteps := 2000000) (disch := omega) only [go_sem, true_and, and_true, Nat.reduceAdd, Nat.reduceSub, Nat.reduceMul, Nat.reduceBEq, Nat.reduceEqDiff, Nat.reduceLT, Nat.reduceLeDiff, Nat.reduceDiv, reduceIte, Nat.zero_add, Nat.add_zero, Int.toNat_natCast, Option.some.injEq, exists_eq_left', reduceCtorEq, Int.natCast_add, Int.natCast_mul, Int.cast_ofNat_Int, List.replicate_succ, List.replicate_zero, List.cons_append, List.nil_append]))
    · have : k = 3 := by omega
      subst this
      generalize hG : gp (fun _ => 0) 2 3 = G at gk
      have okG : G.ok := by rw [← hG]; exact ok 3
      have hn : G.n = 2 := by rw [← hG]; exact gp_n 3
      have hb : G.putB (stz 1 (UInt32.ofNat 9)) = true := putB_iff.2 ⟨stz_isS (by omega) (by omega), .inr (by rw [gk.1, gk.2.1]; simp [stz]; omega)⟩
      have e : G.put (stz 1 (UInt32.ofNat 9)) = ⟨2, 1, 1, G.ss.set 1 (stz 1 (UInt32.ofNat 9))⟩ := by
        rw [Rg.put, if_pos hb, gk.1, gk.2.1, hn]; rfl
      have e0 : G.putE (stz 1 (UInt32.ofNat 9)) = 0 := by rw [Rg.putE, if_pos hb]
      have okP := put_ok okG (stz 1 (UInt32.ofNat 9))
      have eg : (G.put (stz 1 (UInt32.ofNat 9))).getE (G.put (stz 1 (UInt32.ofNat 9))).hi = true := by rw [e]; rfl
      have es : (G.put (stz 1 (UInt32.ofNat 9))).get (G.put (stz 1 (UInt32.ofNat 9))).hi = stz 1 (UInt32.ofNat 9) := by
        rw [Rg.get, if_pos eg, e]
        have : 1 < G.ss.length := by rw [okG.len, hn]; omega
        simp [Rg.at, List.getD, this]
      have e1 : (G.put (stz 1 (UInt32.ofNat 9))).lo = 1 := by rw [e]
      have e2 : (G.put (stz 1 (UInt32.ofNat 9))).hi = 1 := by rw [e]
      (simp (maxSteps := 2000000) (disch := omega) only [go_sem, true_and, and_true, Nat.reduceAdd, Nat.reduceSub, Nat.reduceMul, Nat.reduceBEq, Nat.reduceEqDiff, Nat.reduceLT, Nat.reduceLeDiff, Nat.reduceDiv, reduceIte, Nat.zero_add, Nat.add_zero, Int.toNat_natCast, Option.some.injEq, exists_eq_left', reduceCtorEq, Int.natCast_add, Int.natCast_mul, Int.cast_ofNat_Int, List.replicate_succ, List.replicate_zero, List.cons_append, List.nil_append]; repeat (with_reducible refine a_apA ?_; simp (maxSteps := 2000000) (disch := omega) only [go_sem, true_and, and_true, Nat.reduceAdd, Nat.reduceSub, Nat.reduceMul, Nat.reduceBEq, Nat.reduceEqDiff, Nat.reduceLT, Nat.reduceLeDiff, Nat.reduceDiv, reduceIte, Nat.zero_add, Nat.add_zero, Int.toNat_natCast, Option.some.injEq, exists_eq_left', reduceCtorEq, Int.natCast_add, Int.natCast_mul, Int.cast_ofNat_Int, List.replicate_succ, List.replicate_zero, List.cons_append, List.nil_append]))
      refine a_call [.loc [9, 0, 13], .loc [9, 0, 11]] (put_h13 G okG (stz 1 (UInt32.ofNat 9)) (by simp [stz]) (by simp [stz])) (ok2 (by decide) rfl rfl) ?_ ?_ ?_
      · (simp (maxSteps := 2000000) (disch := omega) only [go_sem, true_and, and_true, Nat.reduceAdd, Nat.reduceSub, Nat.reduceMul, Nat.reduceBEq, Nat.reduceEqDiff, Nat.reduceLT, Nat.reduceLeDiff, Nat.reduceDiv, reduceIte, Nat.zero_add, Nat.add_zero, Int.toNat_natCast, Option.some.injEq, exists_eq_left', reduceCtorEq, Int.natCast_add, Int.natCast_mul, Int.cast_ofNat_Int, List.replicate_succ, List.replicate_zero, List.cons_append, List.nil_append]; repeat (with_reducible refine a_apA ?_; simp (maxSteps := 2000000) (disch := omega) only [go_sem, true_and, and_true, Nat.reduceAdd, Nat.reduceSub, Nat.reduceMul, Nat.reduceBEq, Nat.reduceEqDiff, Nat.reduceLT, Nat.reduceLeDiff, Nat.reduceDiv, reduceIte, Nat.zero_add, Nat.add_zero, Int.toNat_natCast, Option.some.injEq, exists_eq_left', reduceCtorEq, Int.natCast_add, Int.natCast_mul, Int.cast_ofNat_Int, List.replicate_succ, List.replicate_zero, List.cons_append, List.nil_append]))
      · (simp (maxSteps := 2000000) (disch := omega) only [go_sem, true_and, and_true, Nat.reduceAdd, Nat.reduceSub, Nat.reduceMul, Nat.reduceBEq, Nat.reduceEqDiff, Nat.reduceLT, Nat.reduceLeDiff, Nat.reduceDiv, reduceIte, Nat.zero_add, Nat.add_zero, Int.toNat_natCast, Option.some.injEq, exists_eq_left', reduceCtorEq, Int.natCast_add, Int.natCast_mul, Int.cast_ofNat_Int, List.replicate_succ, List.replicate_zero, List.cons_append, List.nil_append]; repeat (with_reducible refine a_apA ?_; simp (maxSteps := 2000000) (disch := omega) only [go_sem, true_and, and_true, Nat.reduceAdd, Nat.reduceSub, Nat.reduceMul, Nat.reduceBEq, Nat.reduceEqDiff, Nat.reduceLT, Nat.reduceLeDiff, Nat.reduceDiv, reduceIte, Nat.zero_add, Nat.add_zero, Int.toNat_natCast, Option.some.injEq, exists_eq_left', reduceCtorEq, Int.natCast_add, Int.natCast_mul, Int.cast_ofNat_Int, List.replicate_succ, List.replicate_zero, List.cons_append, List.nil_append]))
      rintro _ _ ⟨rfl, rfl⟩
      simp only [e0]
      generalize hP : G.put (stz 1 (UInt32.ofNat 9)) = P at okP eg es e1 e2
      simp (maxSteps := 2000000) (disch := omega) only [go_sem, true_and, and_true, Nat.reduceAdd, Nat.reduceSub, Nat.reduceMul, Nat.reduceBEq, Nat.reduceEqDiff, Nat.reduceLT, Nat.reduceLeDiff, Nat.reduceDiv, reduceIte, Nat.zero_add, Nat.add_zero, Int.toNat_natCast, Option.some.injEq, exists_eq_left', reduceCtorEq, Int.natCast_add, Int.natCast_mul, Int.cast_ofNat_Int, List.replicate_succ, List.replicate_zero, List.cons_append, List.nil_append, Int.reduceLT, Int.reduceLE, Int.reduceEq, Int.reduceNe, Int.reduceAdd, Int.reduceSub, Int.reduceMul, Int.reduceNeg, Int.reduceDiv, Int.reduceMod, Int.reduceTMod, Int.reduceTDiv, Int.reduceFDiv, Int.reducePow, Int.reduceToNat, U64n, BitVec.reduceOfInt, BitVec.reduceAnd, BitVec.reduceToNat, bits_u64, bits_i64, decide_true, decide_false, not_true_eq_false, not_false_eq_true]
      refine a_call [.loc [9, 0, 13], .loc [9, 0, 11]] (frames_h P okP) (ok2 (by decide) rfl rfl) ?_ ?_ ?_
      · (simp (maxSteps := 2000000) (disch := omega) only [go_sem, true_and, and_true, Nat.reduceAdd, Nat.reduceSub, Nat.reduceMul, Nat.reduceBEq, Nat.reduceEqDiff, Nat.reduceLT, Nat.reduceLeDiff, Nat.reduceDiv, reduceIte, Nat.zero_add, Nat.add_zero, Int.toNat_natCast, Option.some.injEq, exists_eq_left', reduceCtorEq, Int.natCast_add, Int.natCast_mul, Int.cast_ofNat_Int, List.replicate_succ, List.replicate_zero, List.cons_append, List.nil_append]; repeat (with_reducible refine a_apA ?_; simp (maxSteps := 2000000) (disch := omega) only [go_sem, true_and, and_true, Nat.reduceAdd, Nat.reduceSub, Nat.reduceMul, Nat.reduceBEq, Nat.reduceEqDiff, Nat.reduceLT, Nat.reduceLeDiff, Nat.reduceDiv, reduceIte, Nat.zero_add, Nat.add_zero, Int.toNat_natCast, Option.some.injEq, exists_eq_left', reduceCtorEq, Int.natCast_add, Int.natCast_mul, Int.cast_ofNat_Int, List.replicate_succ, List.replicate_zero, List.cons_append, List.nil_append]))
      · (simp (maxSteps := 2000000) (disch := omega) only [go_sem, true_and, and_true, Nat.reduceAdd, Nat.reduceSub, Nat.reduceMul, Nat.reduceBEq, Nat.reduceEqDiff, Nat.reduceLT, Nat.reduceLeDiff, Nat.reduceDiv, reduceIte, Nat.zero_add, Nat.add_zero, Int.toNat_natCast, Option.some.injEq, exists_eq_left', reduceCtorEq, Int.natCast_add, Int.natCast_mul, Int.cast_ofNat_Int, List.replicate_succ, List.replicate_zero, List.cons_append, List.nil_append]; repeat (with_reducible refine a_apA ?_; simp (maxSteps := 2000000) (disch := omega) only [go_sem, true_and, and_true, Nat.reduceAdd, Nat.reduceSub, Nat.reduceMul, Nat.reduceBEq, Nat.reduceEqDiff, Nat.reduceLT, Nat.reduceLeDiff, Nat.reduceDiv, reduceIte, Nat.zero_add, Nat.add_zero, Int.toNat_natCast, Option.some.injEq, exists_eq_left', reduceCtorEq, Int.natCast_add, Int.natCast_mul, Int.cast_ofNat_Int, List.replicate_succ, List.replicate_zero, List.cons_append, List.nil_append]))
      rintro _ _ ⟨rfl, rfl⟩
      simp (maxSteps := 2000000) (disch := omega) only [go_sem, true_and, and_true, Nat.reduceAdd, Nat.reduceSub, Nat.reduceMul, Nat.reduceBEq, Nat.reduceEqDiff, Nat.reduceLT, Nat.reduceLeDiff, Nat.reduceDiv, reduceIte, Nat.zero_add, Nat.add_zero, Int.toNat_natCast, Option.some.injEq, exists_eq_left', reduceCtorEq, Int.natCast_add, Int.natCast_mul, Int.cast_ofNat_Int, List.replicate_succ, List.replicate_zero, List.cons_append, List.nil_append, Int.reduceLT, Int.reduceLE, Int.reduceEq, Int.reduceNe, Int.reduceAdd, Int.reduceSub, Int.reduceMul, Int.reduceNeg, Int.reduceDiv, Int.reduceMod, Int.reduceTMod, Int.reduceTDiv, Int.reduceFDiv, Int.reducePow, Int.reduceToNat, U64n, BitVec.reduceOfInt, BitVec.reduceAnd, BitVec.reduceToNat, bits_u64, bits_i64, decide_true, decide_false, not_true_eq_false, not_false_eq_true]
      refine a_call [.loc [9, 0, 13], .loc [9, 0, 11]] (newest_h P okP) (ok2 (by decide) rfl rfl) ?_ ?_ ?_
      · (simp (maxSteps := 2000000) (disch := omega) only [go_sem, true_and, and_true, Nat.reduceAdd, Nat.reduceSub, Nat.reduceMul, Nat.reduceBEq, Nat.reduceEqDiff, Nat.reduceLT, Nat.reduceLeDiff, Nat.reduceDiv, reduceIte, Nat.zero_add, Nat.add_zero, Int.toNat_natCast, Option.some.injEq, exists_eq_left', reduceCtorEq, Int.natCast_add, Int.natCast_mul, Int.cast_ofNat_Int, List.replicate_succ, List.replicate_zero, List.cons_append, List.nil_append]; repeat (with_reducible refine a_apA ?_; simp (maxSteps := 2000000) (disch := omega) only [go_sem, true_and, and_true, Nat.reduceAdd, Nat.reduceSub, Nat.reduceMul, Nat.reduceBEq, Nat.reduceEqDiff, Nat.reduceLT, Nat.reduceLeDiff, Nat.reduceDiv, reduceIte, Nat.zero_add, Nat.add_zero, Int.toNat_natCast, Option.some.injEq, exists_eq_left', reduceCtorEq, Int.natCast_add, Int.natCast_mul, Int.cast_ofNat_Int, List.replicate_succ, List.replicate_zero, List.cons_append, List.nil_append]))
      · (simp (maxSteps := 2000000) (disch := omega) only [go_sem, true_and, and_true, Nat.reduceAdd, Nat.reduceSub, Nat.reduceMul, Nat.reduceBEq, Nat.reduceEqDiff, Nat.reduceLT, Nat.reduceLeDiff, Nat.reduceDiv, reduceIte, Nat.zero_add, Nat.add_zero, Int.toNat_natCast, Option.some.injEq, exists_eq_left', reduceCtorEq, Int.natCast_add, Int.natCast_mul, Int.cast_ofNat_Int, List.replicate_succ, List.replicate_zero, List.cons_append, List.nil_append]; repeat (with_reducible refine a_apA ?_; simp (maxSteps := 2000000) (disch := omega) only [go_sem, true_and, and_true, Nat.reduceAdd, Nat.reduceSub, Nat.reduceMul, Nat.reduceBEq, Nat.reduceEqDiff, Nat.reduceLT, Nat.reduceLeDiff, Nat.reduceDiv, reduceIte, Nat.zero_add, Nat.add_zero, Int.toNat_natCast, Option.some.injEq, exists_eq_left', reduceCtorEq, Int.natCast_add, Int.natCast_mul, Int.cast_ofNat_Int, List.replicate_succ, List.replicate_zero, List.cons_append, List.nil_append]))
      rintro _ _ ⟨rfl, rfl⟩
      rw [e2] at eg es
      simp only [e1, e2, eg, es]
      have eu : U32 (UInt32.ofNat 9) = 9 := by decide
      simp (maxSteps := 2000000) (disch := omega) only [go_sem, true_and, and_true, Nat.reduceAdd, Nat.reduceSub, Nat.reduceMul, Nat.reduceBEq, Nat.reduceEqDiff, Nat.reduceLT, Nat.reduceLeDiff, Nat.reduceDiv, reduceIte, Nat.zero_add, Nat.add_zero, Int.toNat_natCast, Option.some.injEq, exists_eq_left', reduceCtorEq, Int.natCast_add, Int.natCast_mul, Int.cast_ofNat_Int, List.replicate_succ, List.replicate_zero, List.cons_append, List.nil_append, Int.reduceEq, decide_true, stz, eu]
end Go.Proofs.Ytfjcflmhboepmaa
