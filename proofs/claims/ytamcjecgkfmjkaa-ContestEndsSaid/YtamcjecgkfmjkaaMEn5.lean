/- Parts of a proof: Chapter 10: the run of a frame, in the code, Chapter 10: the cells of the other machine (written by genbox.py), Chapter 10: the other machine: its numbers taken and laid, its instructions. (written by gen10d.py), Chapter 10: the other machine's instructions. (written by gen10e.py), Chapter 10: both machines come to the same state, Chapter 10: a frame's step, Chapter 18: an input, and the frames that it brings. (written by gen18m.py), Chapter 18: a match is opened; an input ahead of the other's, The logic: states, events, numbers in a row compared, Chapter 18: how each kind of event is done. (written by gen18g.py). -/
import Derived.Test.YtamcjecgkfmjkaaMEn4
import Derived.Test.YtamcjecgkfmjkaaMEn3
/- Chapter 10: the run of a frame, in the code. -/
open Go Go.RowKit
namespace Go.Proofs.Ytamcjecgkfmjkaa
set_option linter.unusedSimpArgs false
set_option linter.unusedVariables false
theorem chk_all {l : List (Int × Int)} (h : (chkP l).2 = 0) {i : Nat} (hi : i < l.length) : mayP (gi l i).1 (gi l i).2 l.length = true := by
  unfold chkP at h
  split at h
  · simp at h
  · split at h
    · simp at h
    · exact firstBad_at (by omega)
/-- how an op is done -/
def doeF (a b c d e f g h : Id) (op : Nat) : C := (doeC a b c d e f g h).getD op .undef
theorem doe_at {a b c d e f g h : Id} {op : Nat} (h2 : op ≤ 22) : (doeC a b c d e f g h)[op]? = some (doeF a b c d e f g h op) := by
  have hl : op < (doeC a b c d e f g h).length := by rw [doe_l]; omega
  unfold doeF
  rw [List.getD_eq_getElem?_getD, List.getElem?_eq_getElem hl]; rfl
@[go_sem ↓ 1300] theorem doe_m {a b c d e f g h : Id} {op : Nat} {K : C → Prop} (h2 : op ≤ 22) : (∃ x, (doeC a b c d e f g h)[op]? = some x ∧ K x) = K (doeF a b c d e f g h op) := ex_some (doe_at h2)
@[go_sem ↓ 1300] theorem doe_m1 {a b c d e f g h : Id} {op : Nat} {K : C → Prop} (h2 : op ≤ 22) : (∃ x, (doeC a b c d e f g h)[op * 1]? = some x ∧ K x) = K (doeF a b c d e f g h op) := by rw [Nat.mul_one]; exact doe_m h2
@[go_sem ↓ 1300] theorem doe_m0 {a b c d e f g h : Id} {op : Nat} {K : C → Prop} (h2 : op ≤ 22) : (∃ x, (doeC a b c d e f g h)[0 + op * 1]? = some x ∧ K x) = K (doeF a b c d e f g h op) := by rw [Nat.zero_add]; exact doe_m1 h2
abbrev doeI : List C := doeC (.loc [8, 0, 1, 0, 1]) (.loc [8, 0, 2, 0, 1]) (.loc [8, 0, 3, 0, 1]) (.loc [8, 0, 4, 0, 1]) (.loc [8, 0, 5, 0, 1]) (.loc [8, 0, 6, 0, 1]) (.loc [8, 0, 7, 0, 1]) (.loc [8, 0, 8, 0, 1])
abbrev doeHI : Heap := doeH (.loc [8, 0, 1, 0, 1]) (.loc [8, 0, 2, 0, 1]) (.loc [8, 0, 3, 0, 1]) (.loc [8, 0, 4, 0, 1]) (.loc [8, 0, 5, 0, 1]) (.loc [8, 0, 6, 0, 1]) (.loc [8, 0, 7, 0, 1]) (.loc [8, 0, 8, 0, 1])
set_option maxRecDepth 20000 in
set_option maxHeartbeats 16000000 in
theorem run_h10 (code : List (Int × Int)) (cap : Int) (fuel : Nat) (m : Mac) (hc : (chkP code).2 = 0) (hcl : code.length ≤ 256) (hm : okM code.length m) (hb : m.bad = false) (hf : fuel ≤ 1000000) :
    Holds Try.prog 65 [.ptr (.arg 0) 0, .game code cap fuel] [(.arg 0, mB (.arg 0) m)] (fun r h' => r = .int .i64 (runM code fuel m).1 ∧ h' = [(.arg 0, mB (.arg 0) (runM code fuel m).2)]) := by
  refine holds_of_awp Try.func65 rfl (by decide +kernel) mixed Try.ntmps65 Try.results65 ?_
  simp only [entrySt, List.map_cons, List.map_nil, List.length_cons, List.length_nil, Nat.reduceAdd, Nat.reduceSub, List.replicate_succ, List.replicate_zero, List.cons_append, List.nil_append]
  (refine zs ?_; try exact trivial)
  refine a_call [] (doers_h) ok0 ?_ ?_ ?_
  · (refine zs ?_; try exact trivial)
  · (refine zs ?_; try exact trivial)
  rintro _ _ ⟨rfl, rfl⟩
  (refine zs ?_; try exact trivial)
  obtain ⟨E, M, hR⟩ : ∃ E M, runM code fuel m = (E, M) := ⟨_, _, rfl⟩
  rw [hR]
  refine a_loopk (fun x : Nat × Mac => ⟨[V.cell (.ptr (.arg 0) 0), .undef, .undef, V.cell (.ptr (.loc [3]) 0), .undef, V.cell (.ptr (.loc [5]) 0), V.int .i64 (x.1 : Int), .undef, .undef, .undef, .undef, .undef, .undef, .undef, .undef, .undef, .undef, .undef, .undef, .undef, .undef, .undef, .undef, .undef, .undef, .undef, .undef, .undef, .undef, .undef, .undef, .undef, .undef, .undef, .undef, .undef, .undef, .undef, .undef, .undef, .undef, .undef, .undef, .undef, .undef, .undef, .undef, .undef, .undef, .undef, .undef, .undef, .undef, .undef, .undef, .undef, .undef], (.loc [5], doeI) :: (.loc [3], [.lst .no none 2 (ins code), .val (.int .i64 cap), .val (.int .i64 fuel)]) :: (.arg 0, mB (.arg 0) x.2) :: doeHI⟩) (fun x => x.1 ≤ 1000000 ∧ okM code.length x.2 ∧ x.2.bad = false ∧ runM code x.1 x.2 = (E, M)) (fun x => x.1) (fuel, m) ⟨hf, hm, hb, hR⟩ ?_ ?_
  · try (refine zs ?_; try exact trivial)
  · rintro ⟨f, m⟩ ⟨h1, h2, h3, h4⟩
    simp only at h1 h2 h3 h4 ⊢
    have p0 := h2.pc0
    have p1 := h2.pc1
    (refine zs ?_; try exact trivial)
    refine a_quiet (by kernel_rfl) (by kernel_rfl) (by kernel_rfl) ?_
    have stop : (¬ m.pc < code.length ∨ m.en = true) → runM code f m = (0, m) := by
      intro hs
      have hn : ¬ (m.pc < code.length ∧ m.en = false) := by rintro ⟨a, b⟩; rcases hs with h | h; exact h a; rw [b] at h; cases h
      cases f with
      | zero => exact if_neg hn
      | succ f => exact if_neg hn
    cases d1 : decide (m.pc < (code.length : Int))
    · rw [stop (.inl (of_decide_eq_false d1))] at h4
      cases h4
      simp (maxSteps := 2000000) (disch := omega) only [go_sem, Nat.reduceAdd, Nat.reduceSub, Nat.reduceMul, Nat.reduceBEq, Nat.reduceEqDiff, Nat.reduceLT, Nat.reduceLeDiff, Nat.reduceDiv, reduceIte, reduceCtorEq, d1]
      all_goals exact leCs_refl _
    · cases d2 : (!m.en)
      · rw [stop (.inr (by cases hh : m.en <;> simp_all))] at h4
        cases h4
        simp (maxSteps := 2000000) (disch := omega) only [go_sem, Nat.reduceAdd, Nat.reduceSub, Nat.reduceMul, Nat.reduceBEq, Nat.reduceEqDiff, Nat.reduceLT, Nat.reduceLeDiff, Nat.reduceDiv, reduceIte, reduceCtorEq, d1, d2]
        all_goals exact leCs_refl _
      · have hen : m.en = false := by cases hh : m.en <;> simp_all
        have hlt := of_decide_eq_true d1
        simp (maxSteps := 2000000) (disch := omega) only [go_sem, Nat.reduceAdd, Nat.reduceSub, Nat.reduceMul, Nat.reduceBEq, Nat.reduceEqDiff, Nat.reduceLT, Nat.reduceLeDiff, Nat.reduceDiv, reduceIte, reduceCtorEq, d1, d2]
        refine c_dec (fun g => ?_) (fun g => ?_)
        · have hf0 : f = 0 := by omega
          subst hf0
          have h5 : (10, m) = (E, M) := by rw [← h4]; exact (if_pos ⟨hlt, hen⟩).symm
          cases h5
          (refine zs ?_; try exact trivial)
          all_goals exact leCs_refl _
        · obtain ⟨f, rfl⟩ : ∃ f', f = f' + 1 := ⟨f - 1, by omega⟩
          have hpc : m.pc.toNat < code.length := by omega
          have hmay := chk_all hc hpc
          unfold runM at h4
          rw [if_pos ⟨hlt, hen⟩] at h4
          obtain ⟨op, arg⟩ : Int × Int := (0, 0)
          generalize hx : gi code m.pc.toNat = x at h4 hmay
          clear op arg
          obtain ⟨op, arg⟩ := x
          simp only at h4 hmay
          obtain ⟨ho, ha1, ha2, ha16, ha18, ha20⟩ := mayP_arg hmay
          have hlen : (incM m).sk.length ≤ 1000 := by have := h2.len; show m.sk.length ≤ 1000; omega
          have okI : okL (incM m) := ⟨h2.sk, h2.cells, h2.fr0, h2.fr1⟩
          have bA : B32 (popV (incM m)) := popV_B okI.sk
          have bB : B32 (popV (popM (incM m))) := popV_B okI.pop.sk
          (refine zs ?_; try exact trivial)
          refine a_drawC (⟨[V.cell (.ptr (.arg 0) 0), .undef, .undef, V.cell (.ptr (.loc [3]) 0), .undef, V.cell (.ptr (.loc [5]) 0), V.int .i64 ((f + 1 : Nat) : Int), V.cell (.ptr (.loc [7]) 0), .undef, .undef, .undef, .undef, .undef, .undef, .undef, .undef, .undef, .undef, .undef, .undef, .undef, .undef, .undef, .undef, .undef, .undef, .undef, .undef, .undef, .undef, .undef, .undef, .undef, .undef, .undef, .undef, .undef, .undef, .undef, .undef, .undef, .undef, .undef, .undef, .undef, .undef, .undef, .undef, .undef, .undef, .undef, .undef, .undef, .undef, .undef, .undef, .undef], (.loc [7], [.val (.int .i64 op), .val (.int .i64 arg)]) :: (.loc [5], doeI) :: (.loc [3], [.lst .no none 2 (ins code), .val (.int .i64 cap), .val (.int .i64 fuel)]) :: (.arg 0, mB (.arg 0) (m)) :: doeHI⟩) (.take 0 (.take 2 (.take 3 (.take 4 (.both [(1, .both [(5, .take 6 (.both [(7, .both [(8, .both [(9, .done)])]), (8, .both [(7, .both [(9, .done)])])])), (8, .both [(5, .take 6 (.both [(7, .both [(9, .done)])]))])]), (5, .both [(1, .take 6 (.both [(7, .both [(8, .both [(9, .done)])]), (8, .both [(7, .both [(9, .done)])])])), (8, .both [(1, .take 6 (.both [(7, .both [(9, .done)])]))])]), (8, .both [(1, .both [(5, .take 6 (.both [(7, .both [(9, .done)])]))]), (5, .both [(1, .take 6 (.both [(7, .both [(9, .done)])]))])])]))))) (by kernel_rfl) (by kernel_rfl) ?_ ?_
          · (refine zc ?_; try exact trivial)
            all_goals simp [hx]
          · (refine zc ?_; try exact trivial)
            refine a_drawC (⟨[V.cell (.ptr (.arg 0) 0), .undef, .undef, V.cell (.ptr (.loc [3]) 0), .undef, V.cell (.ptr (.loc [5]) 0), V.int .i64 ((f + 1 : Nat) : Int), V.cell (.ptr (.loc [7]) 0), .undef, .undef, .undef, .undef, .undef, .undef, .undef, .undef, .undef, .undef, .undef, .undef, .undef, .undef, .undef, .undef, .undef, .undef, .undef, .undef, .undef, .undef, .undef, .undef, .undef, .undef, .undef, .undef, .undef, .undef, .undef, .undef, .undef, .undef, .undef, .undef, .undef, .undef, .undef, .undef, .undef, .undef, .undef, .undef, .undef, .undef, .undef, .undef, .undef], (.loc [7], [.val (.int .i64 op), .val (.int .i64 arg)]) :: (.loc [5], doeI) :: (.loc [3], [.lst .no none 2 (ins code), .val (.int .i64 cap), .val (.int .i64 fuel)]) :: (.arg 0, mB (.arg 0) (doM op arg (incM m))) :: doeHI⟩) (.take 0 (.take 4 (.take 5 (.both [(1, .take 2 (.both [(3, .both [(6, .both [(7, .done)])]), (6, .both [(3, .both [(7, .done)])])])), (6, .both [(1, .take 2 (.both [(3, .both [(7, .done)])]))])])))) (by kernel_rfl) (by kernel_rfl) ?_ ?_
            · (refine zc ?_; try exact trivial)
              have hcase : (∃ k : Nat, doeF (.loc [8, 0, 1, 0, 1]) (.loc [8, 0, 2, 0, 1]) (.loc [8, 0, 3, 0, 1]) (.loc [8, 0, 4, 0, 1]) (.loc [8, 0, 5, 0, 1]) (.loc [8, 0, 6, 0, 1]) (.loc [8, 0, 7, 0, 1]) (.loc [8, 0, 8, 0, 1]) op.toNat = .fn (.func k) [] [] ∧ Holds Try.prog k [.ptr (.arg 0) 0, .int .i64 arg] [(.arg 0, mB (.arg 0) (incM m))] (fun r h' => r = .tup [] ∧ h' = [(.arg 0, mB (.arg 0) (doM op arg (incM m)))])) ∨ (op = 4 ∨ op = 5 ∨ op = 6 ∨ op = 7 ∨ op = 8 ∨ op = 9 ∨ op = 10 ∨ op = 11) := by
                rcases op_cases ho with rfl | rfl | rfl | rfl | rfl | rfl | rfl | rfl | rfl | rfl | rfl | rfl | rfl | rfl | rfl | rfl | rfl | rfl | rfl | rfl | rfl | rfl
                · exact .inl ⟨77, rfl, number_h10 (incM m) hlen arg (ha1 rfl)⟩
                · exact .inl ⟨78, rfl, load_h10 (incM m) hlen arg (ha2 (.inl rfl)).1 (ha2 (.inl rfl)).2⟩
                · exact .inl ⟨79, rfl, store_h10 (incM m) hlen arg (ha2 (.inr rfl)).1 (ha2 (.inr rfl)).2⟩
                · exact .inr (by omega)
                · exact .inr (by omega)
                · exact .inr (by omega)
                · exact .inr (by omega)
                · exact .inr (by omega)
                · exact .inr (by omega)
                · exact .inr (by omega)
                · exact .inr (by omega)
                · exact .inl ⟨89, rfl, not_h10 (incM m) hlen arg⟩
                · exact .inl ⟨90, rfl, dup_h10 (incM m) hlen arg⟩
                · exact .inl ⟨91, rfl, swap_h10 (incM m) hlen arg⟩
                · exact .inl ⟨92, rfl, drop_h10 (incM m) hlen arg⟩
                · exact .inl ⟨93, rfl, input_h10 (incM m) hlen arg (ha16 rfl)⟩
                · exact .inl ⟨94, rfl, frame_h10 (incM m) hlen arg h2.fr0 h2.fr1⟩
                · exact .inl ⟨95, rfl, jump_h10 (incM m) arg⟩
                · exact .inl ⟨96, rfl, zero_h10 (incM m) hlen arg⟩
                · exact .inl ⟨97, rfl, win_h10 (incM m) arg⟩
                · exact .inl ⟨98, rfl, rand_h10 (incM m) hlen arg⟩
                · exact .inl ⟨99, rfl, halt_h10 (incM m) arg⟩
              rcases hcase with ⟨k, hd, ck⟩ | hcase
              · clear stop h4 hx hmay ho ha1 ha2 ha16 ha18 ha20 hlt hpc hen d1 d2 g p0 p1 h3 hR hm hb hf hc hcl h2 h1 hlen okI bA bB
                rw [hd]
                (refine zc ?_; try exact trivial)
                refine a_call [.arg 0] (ck) (ok1 rfl) ?_ ?_ ?_
                · (refine zs ?_; try exact trivial)
                · (refine zs ?_; try exact trivial)
                rintro _ _ ⟨rfl, rfl⟩
                try (refine zs ?_; try exact trivial)
                all_goals exact leCs_refl _
              clear hmay ha1 ha2 ha16 ha18 ha20 ho stop h4 hx hlt hpc hen d1 d2 g p0 p1 h3 hR hm hb hf hc hcl h2 h1
              rcases hcase with rfl | rfl | rfl | rfl | rfl | rfl | rfl | rfl
              · have hd : doeF (.loc [8, 0, 1, 0, 1]) (.loc [8, 0, 2, 0, 1]) (.loc [8, 0, 3, 0, 1]) (.loc [8, 0, 4, 0, 1]) (.loc [8, 0, 5, 0, 1]) (.loc [8, 0, 6, 0, 1]) (.loc [8, 0, 7, 0, 1]) (.loc [8, 0, 8, 0, 1]) (4 : Int).toNat = .fn (.func 103) [] [(.loc [8, 0, 1, 0, 1], 0)] := rfl
                have c4 := two1_h10 (incM m) hlen 81 f4 (add_h _ _ bB bA) arg
                clear hlen okI bA bB
                rw [hd]
                (refine zc ?_; try exact trivial)
                refine a_call [.arg 0, .loc [8, 0, 1, 0, 1]] (c4) (ok2 (by decide) rfl rfl) ?_ ?_ ?_
                · (refine zs ?_; try exact trivial)
                · (refine zs ?_; try exact trivial)
                rintro _ _ ⟨rfl, rfl⟩
                try (refine zs ?_; try exact trivial)
                all_goals exact leCs_refl _
              · have hd : doeF (.loc [8, 0, 1, 0, 1]) (.loc [8, 0, 2, 0, 1]) (.loc [8, 0, 3, 0, 1]) (.loc [8, 0, 4, 0, 1]) (.loc [8, 0, 5, 0, 1]) (.loc [8, 0, 6, 0, 1]) (.loc [8, 0, 7, 0, 1]) (.loc [8, 0, 8, 0, 1]) (5 : Int).toNat = .fn (.func 103) [] [(.loc [8, 0, 2, 0, 1], 0)] := rfl
                have c5 := two1_h10 (incM m) hlen 82 f5 (sub_h _ _ bB bA) arg
                clear hlen okI bA bB
                rw [hd]
                (refine zc ?_; try exact trivial)
                refine a_call [.arg 0, .loc [8, 0, 2, 0, 1]] (c5) (ok2 (by decide) rfl rfl) ?_ ?_ ?_
                · (refine zs ?_; try exact trivial)
                · (refine zs ?_; try exact trivial)
                rintro _ _ ⟨rfl, rfl⟩
                try (refine zs ?_; try exact trivial)
                all_goals exact leCs_refl _
              · have hd : doeF (.loc [8, 0, 1, 0, 1]) (.loc [8, 0, 2, 0, 1]) (.loc [8, 0, 3, 0, 1]) (.loc [8, 0, 4, 0, 1]) (.loc [8, 0, 5, 0, 1]) (.loc [8, 0, 6, 0, 1]) (.loc [8, 0, 7, 0, 1]) (.loc [8, 0, 8, 0, 1]) (6 : Int).toNat = .fn (.func 103) [] [(.loc [8, 0, 3, 0, 1], 0)] := rfl
                have c6 := two1_h10 (incM m) hlen 83 f6 (mul_h _ _ bB bA) arg
                clear hlen okI bA bB
                rw [hd]
                (refine zc ?_; try exact trivial)
                refine a_call [.arg 0, .loc [8, 0, 3, 0, 1]] (c6) (ok2 (by decide) rfl rfl) ?_ ?_ ?_
                · (refine zs ?_; try exact trivial)
                · (refine zs ?_; try exact trivial)
                rintro _ _ ⟨rfl, rfl⟩
                try (refine zs ?_; try exact trivial)
                all_goals exact leCs_refl _
              · have hd : doeF (.loc [8, 0, 1, 0, 1]) (.loc [8, 0, 2, 0, 1]) (.loc [8, 0, 3, 0, 1]) (.loc [8, 0, 4, 0, 1]) (.loc [8, 0, 5, 0, 1]) (.loc [8, 0, 6, 0, 1]) (.loc [8, 0, 7, 0, 1]) (.loc [8, 0, 8, 0, 1]) (7 : Int).toNat = .fn (.func 103) [] [(.loc [8, 0, 4, 0, 1], 0)] := rfl
                have c7 := two1_h10 (incM m) hlen 84 f7 (div_h _ _ bB bA) arg
                clear hlen okI bA bB
                rw [hd]
                (refine zc ?_; try exact trivial)
                refine a_call [.arg 0, .loc [8, 0, 4, 0, 1]] (c7) (ok2 (by decide) rfl rfl) ?_ ?_ ?_
                · (refine zs ?_; try exact trivial)
                · (refine zs ?_; try exact trivial)
                rintro _ _ ⟨rfl, rfl⟩
                try (refine zs ?_; try exact trivial)
                all_goals exact leCs_refl _
              · have hd : doeF (.loc [8, 0, 1, 0, 1]) (.loc [8, 0, 2, 0, 1]) (.loc [8, 0, 3, 0, 1]) (.loc [8, 0, 4, 0, 1]) (.loc [8, 0, 5, 0, 1]) (.loc [8, 0, 6, 0, 1]) (.loc [8, 0, 7, 0, 1]) (.loc [8, 0, 8, 0, 1]) (8 : Int).toNat = .fn (.func 103) [] [(.loc [8, 0, 5, 0, 1], 0)] := rfl
                have c8 := two1_h10 (incM m) hlen 85 f8 (least_h _ _) arg
                clear hlen okI bA bB
                rw [hd]
                (refine zc ?_; try exact trivial)
                refine a_call [.arg 0, .loc [8, 0, 5, 0, 1]] (c8) (ok2 (by decide) rfl rfl) ?_ ?_ ?_
                · (refine zs ?_; try exact trivial)
                · (refine zs ?_; try exact trivial)
                rintro _ _ ⟨rfl, rfl⟩
                try (refine zs ?_; try exact trivial)
                all_goals exact leCs_refl _
              · have hd : doeF (.loc [8, 0, 1, 0, 1]) (.loc [8, 0, 2, 0, 1]) (.loc [8, 0, 3, 0, 1]) (.loc [8, 0, 4, 0, 1]) (.loc [8, 0, 5, 0, 1]) (.loc [8, 0, 6, 0, 1]) (.loc [8, 0, 7, 0, 1]) (.loc [8, 0, 8, 0, 1]) (9 : Int).toNat = .fn (.func 103) [] [(.loc [8, 0, 6, 0, 1], 0)] := rfl
                have c9 := two1_h10 (incM m) hlen 86 f9 (greatest_h _ _) arg
                clear hlen okI bA bB
                rw [hd]
                (refine zc ?_; try exact trivial)
                refine a_call [.arg 0, .loc [8, 0, 6, 0, 1]] (c9) (ok2 (by decide) rfl rfl) ?_ ?_ ?_
                · (refine zs ?_; try exact trivial)
                · (refine zs ?_; try exact trivial)
                rintro _ _ ⟨rfl, rfl⟩
                try (refine zs ?_; try exact trivial)
                all_goals exact leCs_refl _
              · have hd : doeF (.loc [8, 0, 1, 0, 1]) (.loc [8, 0, 2, 0, 1]) (.loc [8, 0, 3, 0, 1]) (.loc [8, 0, 4, 0, 1]) (.loc [8, 0, 5, 0, 1]) (.loc [8, 0, 6, 0, 1]) (.loc [8, 0, 7, 0, 1]) (.loc [8, 0, 8, 0, 1]) (10 : Int).toNat = .fn (.func 103) [] [(.loc [8, 0, 7, 0, 1], 0)] := rfl
                have c10 := two1_h10 (incM m) hlen 87 f10 (less_h _ _) arg
                clear hlen okI bA bB
                rw [hd]
                (refine zc ?_; try exact trivial)
                refine a_call [.arg 0, .loc [8, 0, 7, 0, 1]] (c10) (ok2 (by decide) rfl rfl) ?_ ?_ ?_
                · (refine zs ?_; try exact trivial)
                · (refine zs ?_; try exact trivial)
                rintro _ _ ⟨rfl, rfl⟩
                try (refine zs ?_; try exact trivial)
                all_goals exact leCs_refl _
              · have hd : doeF (.loc [8, 0, 1, 0, 1]) (.loc [8, 0, 2, 0, 1]) (.loc [8, 0, 3, 0, 1]) (.loc [8, 0, 4, 0, 1]) (.loc [8, 0, 5, 0, 1]) (.loc [8, 0, 6, 0, 1]) (.loc [8, 0, 7, 0, 1]) (.loc [8, 0, 8, 0, 1]) (11 : Int).toNat = .fn (.func 103) [] [(.loc [8, 0, 8, 0, 1], 0)] := rfl
                have c11 := two1_h10 (incM m) hlen 88 f11 (same10_h _ _) arg
                clear hlen okI bA bB
                rw [hd]
                (refine zc ?_; try exact trivial)
                refine a_call [.arg 0, .loc [8, 0, 8, 0, 1]] (c11) (ok2 (by decide) rfl rfl) ?_ ?_ ?_
                · (refine zs ?_; try exact trivial)
                · (refine zs ?_; try exact trivial)
                rintro _ _ ⟨rfl, rfl⟩
                try (refine zs ?_; try exact trivial)
                all_goals exact leCs_refl _
            · (refine zc ?_; try exact trivial)
              cases d3 : (doM op arg (incM m)).bad
              · rw [if_neg (by rw [d3]; simp)] at h4
                simp (maxSteps := 2000000) (disch := omega) only [go_sem, Nat.reduceAdd, Nat.reduceSub, Nat.reduceMul, Nat.reduceBEq, Nat.reduceEqDiff, Nat.reduceLT, Nat.reduceLeDiff, Nat.reduceDiv, reduceIte, reduceCtorEq, d3]
                refine ⟨(f, doM op arg (incM m)), by simp, ⟨by simp; omega, ?_, d3, h4⟩, ?_⟩
                · have hpcs := doM_pc (n := code.length) (m := incM m) (by show 0 ≤ m.pc + 1; omega) (by show m.pc + 1 ≤ _; omega) h2.len hmay d3
                  have hlow := doM_low okI hmay
                  exact ⟨hpcs.1, hpcs.2.1, hpcs.2.2, hlow.sk, hlow.cells, hlow.fr0, hlow.fr1⟩
                · try (refine zs ?_; try exact trivial)
                  all_goals first | exact leCs_refl _ | (congr 1; omega)
              · rw [if_pos d3] at h4
                cases h4
                simp (maxSteps := 2000000) (disch := omega) only [go_sem, Nat.reduceAdd, Nat.reduceSub, Nat.reduceMul, Nat.reduceBEq, Nat.reduceEqDiff, Nat.reduceLT, Nat.reduceLeDiff, Nat.reduceDiv, reduceIte, reduceCtorEq, d3]
                all_goals exact leCs_refl _
end Go.Proofs.Ytamcjecgkfmjkaa

/- Chapter 10: the cells of the other machine (written by genbox.py) -/
open Go Go.RowKit
namespace Go.Proofs.Ytamcjecgkfmjkaa
set_option linter.unusedSimpArgs false
set_option linter.unusedVariables false
set_option maxRecDepth 20000
def rmC (s : Sta) (i0 : UInt16) (i1 : UInt16) (sk : C) (atP : Int) (won : Int) (bad : Bool) : List C := ((sd s).map D.toC ++ [.val (.int .u16 (U16 i0)), .val (.int .u16 (U16 i1)), sk, .val (.int .i64 atP), .val (.int .i64 won), .val (.bool bad)])
section
variable {s : Sta} {i0 : UInt16} {i1 : UInt16} {sk : C} {atP : Int} {won : Int} {bad : Bool} {V' : V → Prop} {K : C → Prop} {ks : List Id} {m : Nat}
@[go_sem] theorem rm_l : (rmC s i0 i1 sk atP won bad).length = 26 := by
  unfold rmC
  simp only [List.length_append, List.length_map, sd_len, List.length_cons, List.length_nil]
@[go_sem] theorem rm_k {bi : Id → Bool} {bt : Tag → Bool} : (rmC s i0 i1 sk atP won bad).map (C.clean bi bt) = (rmC s i0 i1 (C.clean bi bt sk) atP won bad) := by
  unfold rmC
  simp only [List.map_append, List.map_cons, List.map_nil, go_sem]
@[go_sem] theorem rm_r  : (rmC s i0 i1 sk atP won bad).map (C.ren ks m) = (rmC s i0 i1 (C.ren ks m sk) atP won bad) := by
  unfold rmC
  simp only [List.map_append, List.map_cons, List.map_nil, go_sem]
@[go_sem] theorem rm_t {ta tb : Tag} : (rmC s i0 i1 sk atP won bad).map (C.retag ta tb) = (rmC s i0 i1 (C.retag ta tb sk) atP won bad) := by
  unfold rmC
  simp only [List.map_append, List.map_cons, List.map_nil, go_sem]
@[go_sem] theorem rm_n : (rmC s i0 i1 sk atP won bad).all known = (known sk) := by
  unfold rmC
  simp only [List.all_append, List.all_cons, List.all_nil, go_sem, Bool.true_and, Bool.and_true, Bool.and_assoc]
theorem rm_gs_frame : (rmC s i0 i1 sk atP won bad)[0]? = some (.val (.int .i64 s.frame)) := by
  unfold rmC
  first | exact get_frame | (rw [List.getElem?_append_left (by rw [sdC_len]; omega)]; exact get_frame)
@[go_sem ↓ 1300] theorem rm_ms_frame : (∃ c, (rmC s i0 i1 sk atP won bad)[0]? = some c ∧ K c) = K (.val (.int .i64 s.frame)) := ex_some rm_gs_frame
theorem rm_gs_seed : (rmC s i0 i1 sk atP won bad)[17]? = some (.val (.int .u32 (U32 s.seed))) := by
  unfold rmC
  first | exact get_seed | (rw [List.getElem?_append_left (by rw [sdC_len]; omega)]; exact get_seed)
@[go_sem ↓ 1300] theorem rm_ms_seed : (∃ c, (rmC s i0 i1 sk atP won bad)[17]? = some c ∧ K c) = K (.val (.int .u32 (U32 s.seed))) := ex_some rm_gs_seed
theorem rm_gs_over : (rmC s i0 i1 sk atP won bad)[18]? = some (.val (.bool s.over)) := by
  unfold rmC
  first | exact get_over | (rw [List.getElem?_append_left (by rw [sdC_len]; omega)]; exact get_over)
@[go_sem ↓ 1300] theorem rm_ms_over : (∃ c, (rmC s i0 i1 sk atP won bad)[18]? = some c ∧ K c) = K (.val (.bool s.over)) := ex_some rm_gs_over
theorem rm_gs_win : (rmC s i0 i1 sk atP won bad)[19]? = some (.val (.int .i64 s.win)) := by
  unfold rmC
  first | exact get_win | (rw [List.getElem?_append_left (by rw [sdC_len]; omega)]; exact get_win)
@[go_sem ↓ 1300] theorem rm_ms_win : (∃ c, (rmC s i0 i1 sk atP won bad)[19]? = some c ∧ K c) = K (.val (.int .i64 s.win)) := ex_some rm_gs_win
@[go_sem 1300] theorem rm_as : ((rmC s i0 i1 sk atP won bad).drop 0).take 20 = (sd s).map D.toC := by
  unfold rmC
  show List.take 20 ((sd s).map D.toC ++ _) = _
  rw [List.take_left' sdC_len]
@[go_sem ↓ 1300] theorem rm_ps : aPt (some true) 20 (rmC s i0 i1 sk atP won bad) 0 V' = V' (.w (.agg ((sd s).map D.toC))) := by
  simp only [aPt, rm_l, rm_as, Nat.reduceAdd, Nat.reduceLeDiff, true_and]
@[go_sem ↓ 1300] theorem rm_m_i0 : (∃ c, (rmC s i0 i1 sk atP won bad)[20]? = some c ∧ K c) = K (.val (.int .u16 (U16 i0))) := ex_some (by
  unfold rmC
  rw [List.getElem?_append_right (by first | simp only [List.length_cons, List.length_nil, List.length_map, sd_len]; omega | simp [sd_len])]
  simp only [List.length_cons, List.length_nil, List.length_map, sd_len, Nat.reduceAdd, Nat.reduceSub]
  first | rfl | (rw [List.getElem?_append_left (by simp)]; rfl))
@[go_sem ↓ 1300] theorem rm_m_i1 : (∃ c, (rmC s i0 i1 sk atP won bad)[21]? = some c ∧ K c) = K (.val (.int .u16 (U16 i1))) := ex_some (by
  unfold rmC
  rw [List.getElem?_append_right (by first | simp only [List.length_cons, List.length_nil, List.length_map, sd_len]; omega | simp [sd_len])]
  simp only [List.length_cons, List.length_nil, List.length_map, sd_len, Nat.reduceAdd, Nat.reduceSub]
  first | rfl | (rw [List.getElem?_append_left (by simp)]; rfl))
@[go_sem ↓ 1300] theorem rm_m_sk : (∃ c, (rmC s i0 i1 sk atP won bad)[22]? = some c ∧ K c) = K (sk) := ex_some (by
  unfold rmC
  rw [List.getElem?_append_right (by first | simp only [List.length_cons, List.length_nil, List.length_map, sd_len]; omega | simp [sd_len])]
  simp only [List.length_cons, List.length_nil, List.length_map, sd_len, Nat.reduceAdd, Nat.reduceSub]
  first | rfl | (rw [List.getElem?_append_left (by simp)]; rfl))
@[go_sem ↓ 1300] theorem rm_m_atP : (∃ c, (rmC s i0 i1 sk atP won bad)[23]? = some c ∧ K c) = K (.val (.int .i64 atP)) := ex_some (by
  unfold rmC
  rw [List.getElem?_append_right (by first | simp only [List.length_cons, List.length_nil, List.length_map, sd_len]; omega | simp [sd_len])]
  simp only [List.length_cons, List.length_nil, List.length_map, sd_len, Nat.reduceAdd, Nat.reduceSub]
  first | rfl | (rw [List.getElem?_append_left (by simp)]; rfl))
@[go_sem ↓ 1300] theorem rm_m_won : (∃ c, (rmC s i0 i1 sk atP won bad)[24]? = some c ∧ K c) = K (.val (.int .i64 won)) := ex_some (by
  unfold rmC
  rw [List.getElem?_append_right (by first | simp only [List.length_cons, List.length_nil, List.length_map, sd_len]; omega | simp [sd_len])]
  simp only [List.length_cons, List.length_nil, List.length_map, sd_len, Nat.reduceAdd, Nat.reduceSub]
  first | rfl | (rw [List.getElem?_append_left (by simp)]; rfl))
@[go_sem ↓ 1300] theorem rm_m_bad : (∃ c, (rmC s i0 i1 sk atP won bad)[25]? = some c ∧ K c) = K (.val (.bool bad)) := ex_some (by
  unfold rmC
  rw [List.getElem?_append_right (by first | simp only [List.length_cons, List.length_nil, List.length_map, sd_len]; omega | simp [sd_len])]
  simp only [List.length_cons, List.length_nil, List.length_map, sd_len, Nat.reduceAdd, Nat.reduceSub]
  first | rfl | (rw [List.getElem?_append_left (by simp)]; rfl))
@[go_sem 1300] theorem rm_d20_2 : ((rmC s i0 i1 sk atP won bad).drop 20).take 2 = [.val (.int .u16 (U16 i0)), .val (.int .u16 (U16 i1))] := by
    first
      | rfl
      | (unfold rmC
         rw [show (20 : Nat) = ((sd s).map D.toC).length + 0 from by rw [sdC_len], List.drop_append, List.drop_eq_nil_of_le (by omega), Nat.add_sub_cancel_left]
         rfl)
@[go_sem ↓ 1300] theorem rm_p20_2 : aPt (some true) 2 (rmC s i0 i1 sk atP won bad) 20 V' = V' (.w (.agg [.val (.int .u16 (U16 i0)), .val (.int .u16 (U16 i1))])) := by
  simp only [aPt, rm_l, rm_d20_2, Nat.reduceAdd, Nat.reduceLeDiff, true_and]
@[go_sem 1300] theorem rm_ss_frame {x : Int} : spl (rmC s i0 i1 sk atP won bad) 0 [.val (.int .i64 x)] = (rmC (s.wFrame x) i0 i1 sk atP won bad) := by
  unfold rmC
  rw [spl_appL (by simp only [List.length_cons, List.length_nil, sdC_len]; omega), spl_frame]
@[go_sem 1300] theorem rm_us_frame {x : Int} : (rmC s i0 i1 sk atP won bad).set 0 (.val (.int .i64 x)) = (rmC (s.wFrame x) i0 i1 sk atP won bad) := show spl (rmC s i0 i1 sk atP won bad) 0 [.val (.int .i64 x)] = _ from rm_ss_frame
@[go_sem 1300] theorem rm_ss_seed {x : UInt32} : spl (rmC s i0 i1 sk atP won bad) 17 [.val (.int .u32 (U32 x))] = (rmC (s.wSeed x) i0 i1 sk atP won bad) := by
  unfold rmC
  rw [spl_appL (by simp only [List.length_cons, List.length_nil, sdC_len]; omega), spl_seed]
@[go_sem 1300] theorem rm_us_seed {x : UInt32} : (rmC s i0 i1 sk atP won bad).set 17 (.val (.int .u32 (U32 x))) = (rmC (s.wSeed x) i0 i1 sk atP won bad) := show spl (rmC s i0 i1 sk atP won bad) 17 [.val (.int .u32 (U32 x))] = _ from rm_ss_seed
@[go_sem 1300] theorem rm_ss_over {x : Bool} : spl (rmC s i0 i1 sk atP won bad) 18 [.val (.bool x)] = (rmC (s.wOver x) i0 i1 sk atP won bad) := by
  unfold rmC
  rw [spl_appL (by simp only [List.length_cons, List.length_nil, sdC_len]; omega), spl_over]
@[go_sem 1300] theorem rm_us_over {x : Bool} : (rmC s i0 i1 sk atP won bad).set 18 (.val (.bool x)) = (rmC (s.wOver x) i0 i1 sk atP won bad) := show spl (rmC s i0 i1 sk atP won bad) 18 [.val (.bool x)] = _ from rm_ss_over
@[go_sem 1300] theorem rm_ss_win {x : Int} : spl (rmC s i0 i1 sk atP won bad) 19 [.val (.int .i64 x)] = (rmC (s.wWin x) i0 i1 sk atP won bad) := by
  unfold rmC
  rw [spl_appL (by simp only [List.length_cons, List.length_nil, sdC_len]; omega), spl_win]
@[go_sem 1300] theorem rm_us_win {x : Int} : (rmC s i0 i1 sk atP won bad).set 19 (.val (.int .i64 x)) = (rmC (s.wWin x) i0 i1 sk atP won bad) := show spl (rmC s i0 i1 sk atP won bad) 19 [.val (.int .i64 x)] = _ from rm_ss_win
@[go_sem 1300] theorem rm_ss {x : Sta} : spl (rmC s i0 i1 sk atP won bad) 0 ((sd x).map D.toC) = (rmC (x) i0 i1 sk atP won bad) := by
  unfold rmC
  rw [spl_appL (by simp only [sdC_len]; omega), spl_all (by simp only [sdC_len])]
@[go_sem 1300] theorem rm_s_i0 {x : UInt16} : spl (rmC s i0 i1 sk atP won bad) 20 [.val (.int .u16 (U16 x))] = (rmC s (x) i1 sk atP won bad) := by
  unfold rmC
  rw [show (20 : Nat) = ((sd s).map D.toC).length + 0 from by first | rfl | rw [sdC_len], spl_appR (by simp only [List.length_append, List.length_cons, List.length_nil, sdC_len]; omega)]
  rfl
@[go_sem 1300] theorem rm_u_i0 {x : UInt16} : (rmC s i0 i1 sk atP won bad).set 20 (.val (.int .u16 (U16 x))) = (rmC s (x) i1 sk atP won bad) := show spl (rmC s i0 i1 sk atP won bad) 20 [.val (.int .u16 (U16 x))] = _ from rm_s_i0
@[go_sem 1300] theorem rm_s_i1 {x : UInt16} : spl (rmC s i0 i1 sk atP won bad) 21 [.val (.int .u16 (U16 x))] = (rmC s i0 (x) sk atP won bad) := by
  unfold rmC
  rw [show (21 : Nat) = ((sd s).map D.toC).length + 1 from by first | rfl | rw [sdC_len], spl_appR (by simp only [List.length_append, List.length_cons, List.length_nil, sdC_len]; omega)]
  rfl
@[go_sem 1300] theorem rm_u_i1 {x : UInt16} : (rmC s i0 i1 sk atP won bad).set 21 (.val (.int .u16 (U16 x))) = (rmC s i0 (x) sk atP won bad) := show spl (rmC s i0 i1 sk atP won bad) 21 [.val (.int .u16 (U16 x))] = _ from rm_s_i1
@[go_sem 1300] theorem rm_s_sk {x : C} : spl (rmC s i0 i1 sk atP won bad) 22 [x] = (rmC s i0 i1 (x) atP won bad) := by
  unfold rmC
  rw [show (22 : Nat) = ((sd s).map D.toC).length + 2 from by first | rfl | rw [sdC_len], spl_appR (by simp only [List.length_append, List.length_cons, List.length_nil, sdC_len]; omega)]
  rfl
@[go_sem 1300] theorem rm_u_sk {x : C} : (rmC s i0 i1 sk atP won bad).set 22 (x) = (rmC s i0 i1 (x) atP won bad) := show spl (rmC s i0 i1 sk atP won bad) 22 [x] = _ from rm_s_sk
@[go_sem 1300] theorem rm_s_atP {x : Int} : spl (rmC s i0 i1 sk atP won bad) 23 [.val (.int .i64 x)] = (rmC s i0 i1 sk (x) won bad) := by
  unfold rmC
  rw [show (23 : Nat) = ((sd s).map D.toC).length + 3 from by first | rfl | rw [sdC_len], spl_appR (by simp only [List.length_append, List.length_cons, List.length_nil, sdC_len]; omega)]
  rfl
@[go_sem 1300] theorem rm_u_atP {x : Int} : (rmC s i0 i1 sk atP won bad).set 23 (.val (.int .i64 x)) = (rmC s i0 i1 sk (x) won bad) := show spl (rmC s i0 i1 sk atP won bad) 23 [.val (.int .i64 x)] = _ from rm_s_atP
@[go_sem 1300] theorem rm_s_won {x : Int} : spl (rmC s i0 i1 sk atP won bad) 24 [.val (.int .i64 x)] = (rmC s i0 i1 sk atP (x) bad) := by
  unfold rmC
  rw [show (24 : Nat) = ((sd s).map D.toC).length + 4 from by first | rfl | rw [sdC_len], spl_appR (by simp only [List.length_append, List.length_cons, List.length_nil, sdC_len]; omega)]
  rfl
@[go_sem 1300] theorem rm_u_won {x : Int} : (rmC s i0 i1 sk atP won bad).set 24 (.val (.int .i64 x)) = (rmC s i0 i1 sk atP (x) bad) := show spl (rmC s i0 i1 sk atP won bad) 24 [.val (.int .i64 x)] = _ from rm_s_won
@[go_sem 1300] theorem rm_s_bad {x : Bool} : spl (rmC s i0 i1 sk atP won bad) 25 [.val (.bool x)] = (rmC s i0 i1 sk atP won (x)) := by
  unfold rmC
  rw [show (25 : Nat) = ((sd s).map D.toC).length + 5 from by first | rfl | rw [sdC_len], spl_appR (by simp only [List.length_append, List.length_cons, List.length_nil, sdC_len]; omega)]
  rfl
@[go_sem 1300] theorem rm_u_bad {x : Bool} : (rmC s i0 i1 sk atP won bad).set 25 (.val (.bool x)) = (rmC s i0 i1 sk atP won (x)) := show spl (rmC s i0 i1 sk atP won bad) 25 [.val (.bool x)] = _ from rm_s_bad
@[go_sem 1300] theorem rm_w20_2 {y0 : UInt16} {y1 : UInt16} : spl (rmC s i0 i1 sk atP won bad) 20 [.val (.int .u16 (U16 y0)), .val (.int .u16 (U16 y1))] = (rmC s y0 y1 sk atP won bad) := by
  first
    | rfl
    | (unfold rmC
       rw [show (20 : Nat) = ((sd s).map D.toC).length + 0 from by rw [sdC_len], spl_appR (by simp only [List.length_cons, List.length_nil]; omega)]
       rfl)
@[go_sem ↓] theorem rm_w {l : List V} {hp : Heap} {i : Id} {off : Nat} {cs : List C} : St.stow ⟨l, hp⟩ i off cs (rmC s i0 i1 sk atP won bad) = ⟨l, hset hp i (spl cs off (rmC s i0 i1 (C.clean (fun _ => false) (fun _ => true) sk) atP won bad))⟩ := by
  rw [stow_big (by rw [rm_l]; omega), rm_k]
@[go_sem ↓ 1300] theorem rm_p : aPt (some true) 26 (rmC s i0 i1 sk atP won bad) 0 V' = V' (.w (.agg (rmC s i0 i1 sk atP won bad))) := by
  have e : ((rmC s i0 i1 sk atP won bad).drop 0).take 26 = (rmC s i0 i1 sk atP won bad) := by rw [List.drop_zero, List.take_of_length_le (by rw [rm_l]; omega)]
  simp only [aPt, rm_l, e, Nat.reduceAdd, Nat.reduceLeDiff, true_and]
theorem rm_le {s' : Sta} {i0' : UInt16} {i1' : UInt16} {sk' : C} {atP' : Int} {won' : Int} {bad' : Bool} (h : s = s' ∧ i0 = i0' ∧ i1 = i1' ∧ leC sk sk' ∧ atP = atP' ∧ won = won' ∧ bad = bad') : leCs (rmC s i0 i1 sk atP won bad) (rmC s' i0' i1' sk' atP' won' bad') := by
  obtain ⟨h0, h1, h2, h3, h4, h5, h6⟩ := h
  subst h0
  subst h1
  subst h2
  subst h4
  subst h5
  subst h6
  unfold rmC
  try simp only [List.cons_append, List.nil_append, List.append_assoc]
  exact (leCs_app (leCs_refl _) ⟨leC_refl _, ⟨leC_refl _, ⟨h3, ⟨leC_refl _, ⟨leC_refl _, ⟨leC_refl _, trivial⟩⟩⟩⟩⟩⟩)
@[go_sem ↓ 1300] theorem rm_ler : leCs (rmC s i0 i1 sk atP won bad) (rmC s i0 i1 sk atP won bad) = True := eq_true (leCs_refl _)
end
end Go.Proofs.Ytamcjecgkfmjkaa

/- Chapter 10: the other machine: its numbers taken and laid, its instructions. (written by gen10d.py) -/
open Go Go.RowKit
namespace Go.Proofs.Ytamcjecgkfmjkaa
set_option linter.unusedSimpArgs false
set_option linter.unusedVariables false
structure Rac where
  st : Sta
  i0 : UInt16
  i1 : UInt16
  sk : List Int
  pc : Int
  won : Int
  bad : Bool
abbrev rB (i : Id) (m : Rac) : List C := rmC m.st m.i0 m.i1 (.stk (.cell i 22) 1 (c32 m.sk)) m.pc m.won m.bad
section
variable {s : Sta} {i0 i1 : UInt16} {sk : C} {atP won : Int} {bad : Bool} {K : C → Prop}
theorem rm_gcell {k : Nat} (h : k < 16) : (rmC s i0 i1 sk atP won bad)[k + 1]? = some (.val (.int .i32 (s.cells.getD k 0))) := by
  unfold rmC
  rw [List.getElem?_append_left (by rw [sdC_len]; omega)]
  exact get_cells h
@[go_sem ↓ 1300] theorem rm_mcell {k : Nat} (h : k < 16) : (∃ c, (rmC s i0 i1 sk atP won bad)[1 + k]? = some c ∧ K c) = K (.val (.int .i32 (s.cells.getD k 0))) := by
  rw [Nat.add_comm]; exact ex_some (rm_gcell h)
@[go_sem ↓ 1300] theorem rm_mcell' {k : Nat} (h : k < 16) : (∃ c, (rmC s i0 i1 sk atP won bad)[1 + k * 1]? = some c ∧ K c) = K (.val (.int .i32 (s.cells.getD k 0))) := by
  rw [Nat.mul_one]; exact rm_mcell h
theorem rm_scell0 {k : Nat} {x : Int} (h : k < 16) : spl (rmC s i0 i1 sk atP won bad) (k + 1) [.val (.int .i32 x)] = rmC (s.wCells k x) i0 i1 sk atP won bad := by
  unfold rmC
  rw [spl_appL (by rw [sdC_len]; simp; omega), spl_cells h]
@[go_sem 1300] theorem rm_scell {k : Nat} {x : Int} (h : k < 16) : (rmC s i0 i1 sk atP won bad).set (1 + k) (.val (.int .i32 x)) = rmC (s.wCells k x) i0 i1 sk atP won bad := by
  rw [Nat.add_comm]; exact rm_scell0 h
@[go_sem 1300] theorem rm_scell' {k : Nat} {x : Int} (h : k < 16) : (rmC s i0 i1 sk atP won bad).set (1 + k * 1) (.val (.int .i32 x)) = rmC (s.wCells k x) i0 i1 sk atP won bad := by
  rw [Nat.mul_one]; exact rm_scell h
end
def rpopV (m : Rac) : Int := m.sk.getD (m.sk.length - 1) 0
def rpopM (m : Rac) : Rac := ⟨m.st, m.i0, m.i1, m.sk.take (m.sk.length - 1), m.pc, m.won, m.bad || decide (m.sk.length = 0)⟩
def rpushM (m : Rac) (x : Int) : Rac := if 32 ≤ m.sk.length then ⟨m.st, m.i0, m.i1, m.sk, m.pc, m.won, true⟩ else ⟨m.st, m.i0, m.i1, m.sk ++ [x], m.pc, m.won, m.bad⟩
theorem rpush_len (m : Rac) (x : Int) : (rpushM m x).sk.length ≤ m.sk.length + 1 := by unfold rpushM; split <;> simp
theorem rpop_h (m : Rac) (hl : m.sk.length ≤ 100000) : Holds Try.prog 68 [.ptr (.arg 0) 0] [(.arg 0, rB (.arg 0) m)] (fun r h' => r = .int .i32 (rpopV m) ∧ h' = [(.arg 0, rB (.arg 0) (rpopM m))]) := by
  obtain ⟨st, i0, i1, sk, pc, won, bad⟩ := m
  simp only at hl
  refine holds_of_awp Try.func68 rfl (by decide +kernel) mixed Try.ntmps68 Try.results68 ?_
  simp only [entrySt, List.map_cons, List.map_nil, List.length_cons, List.length_nil, Nat.reduceAdd, Nat.reduceSub, List.replicate_succ, List.replicate_zero, List.cons_append, List.nil_append]
  (refine zc ?_; try exact trivial)
  refine c_dec (fun h => ?_) (fun h => ?_)
  · have h0 : sk = [] := List.eq_nil_of_length_eq_zero (by omega)
    subst h0
    simp only [rpopV, rpopM, List.length_nil, List.take_nil, List.getD_nil, decide_true, Bool.or_true]
    (refine zc ?_; try exact trivial)
    exact leCs_refl _
  · have e1 : ((sk.length : Int) - 1).toNat = sk.length - 1 := by omega
    have e2 : rpopM ⟨st, i0, i1, sk, pc, won, bad⟩ = ⟨st, i0, i1, sk.take (sk.length - 1), pc, won, bad⟩ := by
      unfold rpopM
      rw [decide_eq_false (show ¬ sk.length = 0 by omega), Bool.or_false]
    rw [e2]
    simp only [rpopV]
    simp (maxSteps := 2000000) (disch := omega) only [go_sem, Nat.reduceAdd, Nat.reduceSub, Nat.reduceMul, Nat.reduceBEq, Nat.reduceEqDiff, Nat.reduceLT, Nat.reduceLeDiff, Nat.reduceDiv, reduceIte, reduceCtorEq, e1]
    omega
theorem rpush_h (m : Rac) (x : Int) (hl : m.sk.length ≤ 100000) : Holds Try.prog 67 [.ptr (.arg 0) 0, .int .i32 x] [(.arg 0, rB (.arg 0) m)] (fun r h' => r = .tup [] ∧ h' = [(.arg 0, rB (.arg 0) (rpushM m x))]) := by
  obtain ⟨st, i0, i1, sk, pc, won, bad⟩ := m
  simp only at hl
  refine holds_of_awp Try.func67 rfl (by decide +kernel) mixed Try.ntmps67 Try.results67 ?_
  simp only [entrySt, List.map_cons, List.map_nil, List.length_cons, List.length_nil, Nat.reduceAdd, Nat.reduceSub, List.replicate_succ, List.replicate_zero, List.cons_append, List.nil_append]
  (refine zc ?_; try exact trivial)
  refine c_dec (fun h => ?_) (fun h => ?_)
  · have e : rpushM ⟨st, i0, i1, sk, pc, won, bad⟩ x = ⟨st, i0, i1, sk, pc, won, true⟩ := by unfold rpushM; exact if_pos (by simp only; omega)
    rw [e]
    (refine zc ?_; try exact trivial)
  · have e : rpushM ⟨st, i0, i1, sk, pc, won, bad⟩ x = ⟨st, i0, i1, sk ++ [x], pc, won, bad⟩ := by unfold rpushM; exact if_neg (by simp only; omega)
    rw [e]
    (refine zc ?_; try exact trivial)
    omega
theorem rtruth_h (b : Bool) : Holds Try.prog 69 [.c (.val (.bool b))] [] (fun r h' => r = .int .i32 (truthV b) ∧ h' = []) := by
  refine holds_of_awp Try.func69 rfl (by decide +kernel) mixed Try.ntmps69 Try.results69 ?_
  simp only [entrySt, List.map_cons, List.map_nil, List.length_cons, List.length_nil, Nat.reduceAdd, Nat.reduceSub, List.replicate_succ, List.replicate_zero, List.cons_append, List.nil_append]
  cases b
  · (refine zc ?_; try exact trivial)
    rfl
  · (refine zc ?_; try exact trivial)
    rfl
@[go_sem ↓ 1160] theorem e_and16 {a : UInt32} {V' : V → Prop} : aInt .and .u32 (U32 a) .u32 65535 V' = V' (.int .u32 (rndV a)) := by
  rw [e_and]
  refine congrArg (fun z => V' (.int .u32 z)) ?_
  unfold rndV U32
  have ha := a.toNat_lt
  have e : BitVec.ofInt IntKind.u32.bits ((a.toNat : Nat) : Int) &&& BitVec.ofInt IntKind.u32.bits 65535 = BitVec.ofNat 32 (a.toNat % 65536) := by
    show BitVec.ofInt 32 _ &&& BitVec.ofInt 32 _ = _
    apply BitVec.eq_of_toNat_eq
    rw [BitVec.toNat_and, BitVec.ofInt_natCast, show (65535 : Int) = ((65535 : Nat) : Int) by rfl, BitVec.ofInt_natCast, BitVec.toNat_ofNat, BitVec.toNat_ofNat, BitVec.toNat_ofNat]
    rw [Nat.mod_eq_of_lt (show a.toNat < 2 ^ 32 by omega), Nat.mod_eq_of_lt (show 65535 < 2 ^ 32 by omega), show 65535 = 2 ^ 16 - 1 by rfl, Nat.and_two_pow_sub_one_eq_mod]
    omega
  rw [e]
  show IntKind.u32.wrap ((BitVec.ofNat 32 (a.toNat % 65536)).toNat : Int) = _
  rw [BitVec.toNat_ofNat]
  simp only [IntKind.wrap, IntKind.bits, IntKind.signed]
  simp
  omega

def takesP (op : Int) : Nat := if op = 3 ∨ op = 12 ∨ op = 13 ∨ op = 15 ∨ op = 19 then 1 else if op = 4 ∨ op = 5 ∨ op = 6 ∨ op = 7 ∨ op = 8 ∨ op = 9 ∨ op = 10 ∨ op = 11 ∨ op = 14 then 2 else 0
theorem takes1_h : Holds Try.prog 66 [.int .i64 1] [] (fun r h' => r = .int .i64 0 ∧ h' = []) := by
  refine holds_of_awp Try.func66 rfl (by decide +kernel) mixed Try.ntmps66 Try.results66 ?_
  simp only [entrySt, List.map_cons, List.map_nil, List.length_cons, List.length_nil, Nat.reduceAdd, Nat.reduceSub, List.replicate_succ, List.replicate_zero, List.cons_append, List.nil_append]
  (refine zc ?_; try exact trivial)
theorem takes2_h : Holds Try.prog 66 [.int .i64 2] [] (fun r h' => r = .int .i64 0 ∧ h' = []) := by
  refine holds_of_awp Try.func66 rfl (by decide +kernel) mixed Try.ntmps66 Try.results66 ?_
  simp only [entrySt, List.map_cons, List.map_nil, List.length_cons, List.length_nil, Nat.reduceAdd, Nat.reduceSub, List.replicate_succ, List.replicate_zero, List.cons_append, List.nil_append]
  (refine zc ?_; try exact trivial)
theorem takes3_h : Holds Try.prog 66 [.int .i64 3] [] (fun r h' => r = .int .i64 1 ∧ h' = []) := by
  refine holds_of_awp Try.func66 rfl (by decide +kernel) mixed Try.ntmps66 Try.results66 ?_
  simp only [entrySt, List.map_cons, List.map_nil, List.length_cons, List.length_nil, Nat.reduceAdd, Nat.reduceSub, List.replicate_succ, List.replicate_zero, List.cons_append, List.nil_append]
  (refine zc ?_; try exact trivial)
theorem takes4_h : Holds Try.prog 66 [.int .i64 4] [] (fun r h' => r = .int .i64 2 ∧ h' = []) := by
  refine holds_of_awp Try.func66 rfl (by decide +kernel) mixed Try.ntmps66 Try.results66 ?_
  simp only [entrySt, List.map_cons, List.map_nil, List.length_cons, List.length_nil, Nat.reduceAdd, Nat.reduceSub, List.replicate_succ, List.replicate_zero, List.cons_append, List.nil_append]
  (refine zc ?_; try exact trivial)
theorem takes5_h : Holds Try.prog 66 [.int .i64 5] [] (fun r h' => r = .int .i64 2 ∧ h' = []) := by
  refine holds_of_awp Try.func66 rfl (by decide +kernel) mixed Try.ntmps66 Try.results66 ?_
  simp only [entrySt, List.map_cons, List.map_nil, List.length_cons, List.length_nil, Nat.reduceAdd, Nat.reduceSub, List.replicate_succ, List.replicate_zero, List.cons_append, List.nil_append]
  (refine zc ?_; try exact trivial)
theorem takes6_h : Holds Try.prog 66 [.int .i64 6] [] (fun r h' => r = .int .i64 2 ∧ h' = []) := by
  refine holds_of_awp Try.func66 rfl (by decide +kernel) mixed Try.ntmps66 Try.results66 ?_
  simp only [entrySt, List.map_cons, List.map_nil, List.length_cons, List.length_nil, Nat.reduceAdd, Nat.reduceSub, List.replicate_succ, List.replicate_zero, List.cons_append, List.nil_append]
  (refine zc ?_; try exact trivial)
theorem takes7_h : Holds Try.prog 66 [.int .i64 7] [] (fun r h' => r = .int .i64 2 ∧ h' = []) := by
  refine holds_of_awp Try.func66 rfl (by decide +kernel) mixed Try.ntmps66 Try.results66 ?_
  simp only [entrySt, List.map_cons, List.map_nil, List.length_cons, List.length_nil, Nat.reduceAdd, Nat.reduceSub, List.replicate_succ, List.replicate_zero, List.cons_append, List.nil_append]
  (refine zc ?_; try exact trivial)
theorem takes8_h : Holds Try.prog 66 [.int .i64 8] [] (fun r h' => r = .int .i64 2 ∧ h' = []) := by
  refine holds_of_awp Try.func66 rfl (by decide +kernel) mixed Try.ntmps66 Try.results66 ?_
  simp only [entrySt, List.map_cons, List.map_nil, List.length_cons, List.length_nil, Nat.reduceAdd, Nat.reduceSub, List.replicate_succ, List.replicate_zero, List.cons_append, List.nil_append]
  (refine zc ?_; try exact trivial)
theorem takes9_h : Holds Try.prog 66 [.int .i64 9] [] (fun r h' => r = .int .i64 2 ∧ h' = []) := by
  refine holds_of_awp Try.func66 rfl (by decide +kernel) mixed Try.ntmps66 Try.results66 ?_
  simp only [entrySt, List.map_cons, List.map_nil, List.length_cons, List.length_nil, Nat.reduceAdd, Nat.reduceSub, List.replicate_succ, List.replicate_zero, List.cons_append, List.nil_append]
  (refine zc ?_; try exact trivial)
theorem takes10_h : Holds Try.prog 66 [.int .i64 10] [] (fun r h' => r = .int .i64 2 ∧ h' = []) := by
  refine holds_of_awp Try.func66 rfl (by decide +kernel) mixed Try.ntmps66 Try.results66 ?_
  simp only [entrySt, List.map_cons, List.map_nil, List.length_cons, List.length_nil, Nat.reduceAdd, Nat.reduceSub, List.replicate_succ, List.replicate_zero, List.cons_append, List.nil_append]
  (refine zc ?_; try exact trivial)
theorem takes11_h : Holds Try.prog 66 [.int .i64 11] [] (fun r h' => r = .int .i64 2 ∧ h' = []) := by
  refine holds_of_awp Try.func66 rfl (by decide +kernel) mixed Try.ntmps66 Try.results66 ?_
  simp only [entrySt, List.map_cons, List.map_nil, List.length_cons, List.length_nil, Nat.reduceAdd, Nat.reduceSub, List.replicate_succ, List.replicate_zero, List.cons_append, List.nil_append]
  (refine zc ?_; try exact trivial)
theorem takes12_h : Holds Try.prog 66 [.int .i64 12] [] (fun r h' => r = .int .i64 1 ∧ h' = []) := by
  refine holds_of_awp Try.func66 rfl (by decide +kernel) mixed Try.ntmps66 Try.results66 ?_
  simp only [entrySt, List.map_cons, List.map_nil, List.length_cons, List.length_nil, Nat.reduceAdd, Nat.reduceSub, List.replicate_succ, List.replicate_zero, List.cons_append, List.nil_append]
  (refine zc ?_; try exact trivial)
theorem takes13_h : Holds Try.prog 66 [.int .i64 13] [] (fun r h' => r = .int .i64 1 ∧ h' = []) := by
  refine holds_of_awp Try.func66 rfl (by decide +kernel) mixed Try.ntmps66 Try.results66 ?_
  simp only [entrySt, List.map_cons, List.map_nil, List.length_cons, List.length_nil, Nat.reduceAdd, Nat.reduceSub, List.replicate_succ, List.replicate_zero, List.cons_append, List.nil_append]
  (refine zc ?_; try exact trivial)
theorem takes14_h : Holds Try.prog 66 [.int .i64 14] [] (fun r h' => r = .int .i64 2 ∧ h' = []) := by
  refine holds_of_awp Try.func66 rfl (by decide +kernel) mixed Try.ntmps66 Try.results66 ?_
  simp only [entrySt, List.map_cons, List.map_nil, List.length_cons, List.length_nil, Nat.reduceAdd, Nat.reduceSub, List.replicate_succ, List.replicate_zero, List.cons_append, List.nil_append]
  (refine zc ?_; try exact trivial)
theorem takes15_h : Holds Try.prog 66 [.int .i64 15] [] (fun r h' => r = .int .i64 1 ∧ h' = []) := by
  refine holds_of_awp Try.func66 rfl (by decide +kernel) mixed Try.ntmps66 Try.results66 ?_
  simp only [entrySt, List.map_cons, List.map_nil, List.length_cons, List.length_nil, Nat.reduceAdd, Nat.reduceSub, List.replicate_succ, List.replicate_zero, List.cons_append, List.nil_append]
  (refine zc ?_; try exact trivial)
theorem takes16_h : Holds Try.prog 66 [.int .i64 16] [] (fun r h' => r = .int .i64 0 ∧ h' = []) := by
  refine holds_of_awp Try.func66 rfl (by decide +kernel) mixed Try.ntmps66 Try.results66 ?_
  simp only [entrySt, List.map_cons, List.map_nil, List.length_cons, List.length_nil, Nat.reduceAdd, Nat.reduceSub, List.replicate_succ, List.replicate_zero, List.cons_append, List.nil_append]
  (refine zc ?_; try exact trivial)
theorem takes17_h : Holds Try.prog 66 [.int .i64 17] [] (fun r h' => r = .int .i64 0 ∧ h' = []) := by
  refine holds_of_awp Try.func66 rfl (by decide +kernel) mixed Try.ntmps66 Try.results66 ?_
  simp only [entrySt, List.map_cons, List.map_nil, List.length_cons, List.length_nil, Nat.reduceAdd, Nat.reduceSub, List.replicate_succ, List.replicate_zero, List.cons_append, List.nil_append]
  (refine zc ?_; try exact trivial)
theorem takes18_h : Holds Try.prog 66 [.int .i64 18] [] (fun r h' => r = .int .i64 0 ∧ h' = []) := by
  refine holds_of_awp Try.func66 rfl (by decide +kernel) mixed Try.ntmps66 Try.results66 ?_
  simp only [entrySt, List.map_cons, List.map_nil, List.length_cons, List.length_nil, Nat.reduceAdd, Nat.reduceSub, List.replicate_succ, List.replicate_zero, List.cons_append, List.nil_append]
  (refine zc ?_; try exact trivial)
theorem takes19_h : Holds Try.prog 66 [.int .i64 19] [] (fun r h' => r = .int .i64 1 ∧ h' = []) := by
  refine holds_of_awp Try.func66 rfl (by decide +kernel) mixed Try.ntmps66 Try.results66 ?_
  simp only [entrySt, List.map_cons, List.map_nil, List.length_cons, List.length_nil, Nat.reduceAdd, Nat.reduceSub, List.replicate_succ, List.replicate_zero, List.cons_append, List.nil_append]
  (refine zc ?_; try exact trivial)
theorem takes20_h : Holds Try.prog 66 [.int .i64 20] [] (fun r h' => r = .int .i64 0 ∧ h' = []) := by
  refine holds_of_awp Try.func66 rfl (by decide +kernel) mixed Try.ntmps66 Try.results66 ?_
  simp only [entrySt, List.map_cons, List.map_nil, List.length_cons, List.length_nil, Nat.reduceAdd, Nat.reduceSub, List.replicate_succ, List.replicate_zero, List.cons_append, List.nil_append]
  (refine zc ?_; try exact trivial)
theorem takes21_h : Holds Try.prog 66 [.int .i64 21] [] (fun r h' => r = .int .i64 0 ∧ h' = []) := by
  refine holds_of_awp Try.func66 rfl (by decide +kernel) mixed Try.ntmps66 Try.results66 ?_
  simp only [entrySt, List.map_cons, List.map_nil, List.length_cons, List.length_nil, Nat.reduceAdd, Nat.reduceSub, List.replicate_succ, List.replicate_zero, List.cons_append, List.nil_append]
  (refine zc ?_; try exact trivial)
theorem takes22_h : Holds Try.prog 66 [.int .i64 22] [] (fun r h' => r = .int .i64 0 ∧ h' = []) := by
  refine holds_of_awp Try.func66 rfl (by decide +kernel) mixed Try.ntmps66 Try.results66 ?_
  simp only [entrySt, List.map_cons, List.map_nil, List.length_cons, List.length_nil, Nat.reduceAdd, Nat.reduceSub, List.replicate_succ, List.replicate_zero, List.cons_append, List.nil_append]
  (refine zc ?_; try exact trivial)
theorem two4_h10 (b a : Int) (hb : B32 b) (ha : B32 a) : Holds Try.prog 70 [.int .i64 4, .int .i32 b, .int .i32 a] [] (fun r h' => r = .int .i32 (held (b + a)) ∧ h' = []) := by
  refine holds_of_awp Try.func70 rfl (by decide +kernel) mixed Try.ntmps70 Try.results70 ?_
  simp only [entrySt, List.map_cons, List.map_nil, List.length_cons, List.length_nil, Nat.reduceAdd, Nat.reduceSub, List.replicate_succ, List.replicate_zero, List.cons_append, List.nil_append]
  (refine zc ?_; try exact trivial)
  refine a_call [] (radd_h b a hb ha) ok0 ?_ ?_ ?_
  · (refine zs ?_; try exact trivial)
  · (refine zs ?_; try exact trivial)
  rintro _ _ ⟨rfl, rfl⟩
  (refine zs ?_; try exact trivial)
theorem two5_h10 (b a : Int) (hb : B32 b) (ha : B32 a) : Holds Try.prog 70 [.int .i64 5, .int .i32 b, .int .i32 a] [] (fun r h' => r = .int .i32 (held (b - a)) ∧ h' = []) := by
  refine holds_of_awp Try.func70 rfl (by decide +kernel) mixed Try.ntmps70 Try.results70 ?_
  simp only [entrySt, List.map_cons, List.map_nil, List.length_cons, List.length_nil, Nat.reduceAdd, Nat.reduceSub, List.replicate_succ, List.replicate_zero, List.cons_append, List.nil_append]
  (refine zc ?_; try exact trivial)
  refine a_call [] (rsub_h b a hb ha) ok0 ?_ ?_ ?_
  · (refine zs ?_; try exact trivial)
  · (refine zs ?_; try exact trivial)
  rintro _ _ ⟨rfl, rfl⟩
  (refine zs ?_; try exact trivial)
theorem two6_h10 (b a : Int) (hb : B32 b) (ha : B32 a) : Holds Try.prog 70 [.int .i64 6, .int .i32 b, .int .i32 a] [] (fun r h' => r = .int .i32 (held (b * a / 65536)) ∧ h' = []) := by
  refine holds_of_awp Try.func70 rfl (by decide +kernel) mixed Try.ntmps70 Try.results70 ?_
  simp only [entrySt, List.map_cons, List.map_nil, List.length_cons, List.length_nil, Nat.reduceAdd, Nat.reduceSub, List.replicate_succ, List.replicate_zero, List.cons_append, List.nil_append]
  (refine zc ?_; try exact trivial)
  refine a_call [] (rmul_h b a hb ha) ok0 ?_ ?_ ?_
  · (refine zs ?_; try exact trivial)
  · (refine zs ?_; try exact trivial)
  rintro _ _ ⟨rfl, rfl⟩
  (refine zs ?_; try exact trivial)
theorem two7_h10 (b a : Int) (hb : B32 b) (ha : B32 a) : Holds Try.prog 70 [.int .i64 7, .int .i32 b, .int .i32 a] [] (fun r h' => r = .int .i32 (divV b a) ∧ h' = []) := by
  refine holds_of_awp Try.func70 rfl (by decide +kernel) mixed Try.ntmps70 Try.results70 ?_
  simp only [entrySt, List.map_cons, List.map_nil, List.length_cons, List.length_nil, Nat.reduceAdd, Nat.reduceSub, List.replicate_succ, List.replicate_zero, List.cons_append, List.nil_append]
  (refine zc ?_; try exact trivial)
  refine a_call [] (rdiv_h b a hb ha) ok0 ?_ ?_ ?_
  · (refine zs ?_; try exact trivial)
  · (refine zs ?_; try exact trivial)
  rintro _ _ ⟨rfl, rfl⟩
  (refine zs ?_; try exact trivial)
theorem two8_h10 (b a : Int) (hb : B32 b) (ha : B32 a) : Holds Try.prog 70 [.int .i64 8, .int .i32 b, .int .i32 a] [] (fun r h' => r = .int .i32 (min b a) ∧ h' = []) := by
  refine holds_of_awp Try.func70 rfl (by decide +kernel) mixed Try.ntmps70 Try.results70 ?_
  simp only [entrySt, List.map_cons, List.map_nil, List.length_cons, List.length_nil, Nat.reduceAdd, Nat.reduceSub, List.replicate_succ, List.replicate_zero, List.cons_append, List.nil_append]
  (refine zc ?_; try exact trivial)
  all_goals (try rw [Int.min_comm])
theorem two9_h10 (b a : Int) (hb : B32 b) (ha : B32 a) : Holds Try.prog 70 [.int .i64 9, .int .i32 b, .int .i32 a] [] (fun r h' => r = .int .i32 (max b a) ∧ h' = []) := by
  refine holds_of_awp Try.func70 rfl (by decide +kernel) mixed Try.ntmps70 Try.results70 ?_
  simp only [entrySt, List.map_cons, List.map_nil, List.length_cons, List.length_nil, Nat.reduceAdd, Nat.reduceSub, List.replicate_succ, List.replicate_zero, List.cons_append, List.nil_append]
  (refine zc ?_; try exact trivial)
  all_goals (try rw [Int.max_comm])
theorem two10_h10 (b a : Int) (hb : B32 b) (ha : B32 a) : Holds Try.prog 70 [.int .i64 10, .int .i32 b, .int .i32 a] [] (fun r h' => r = .int .i32 (truthV (decide (b < a))) ∧ h' = []) := by
  refine holds_of_awp Try.func70 rfl (by decide +kernel) mixed Try.ntmps70 Try.results70 ?_
  simp only [entrySt, List.map_cons, List.map_nil, List.length_cons, List.length_nil, Nat.reduceAdd, Nat.reduceSub, List.replicate_succ, List.replicate_zero, List.cons_append, List.nil_append]
  (refine zc ?_; try exact trivial)
  refine a_call [] (rtruth_h (decide (b < a))) ok0 ?_ ?_ ?_
  · (refine zs ?_; try exact trivial)
  · (refine zs ?_; try exact trivial)
  rintro _ _ ⟨rfl, rfl⟩
  (refine zc ?_; try exact trivial)
theorem two11_h10 (b a : Int) (hb : B32 b) (ha : B32 a) : Holds Try.prog 70 [.int .i64 11, .int .i32 b, .int .i32 a] [] (fun r h' => r = .int .i32 (truthV (decide (b = a))) ∧ h' = []) := by
  refine holds_of_awp Try.func70 rfl (by decide +kernel) mixed Try.ntmps70 Try.results70 ?_
  simp only [entrySt, List.map_cons, List.map_nil, List.length_cons, List.length_nil, Nat.reduceAdd, Nat.reduceSub, List.replicate_succ, List.replicate_zero, List.cons_append, List.nil_append]
  (refine zc ?_; try exact trivial)
  refine a_call [] (rtruth_h (decide (b = a))) ok0 ?_ ?_ ?_
  · (refine zs ?_; try exact trivial)
  · (refine zs ?_; try exact trivial)
  rintro _ _ ⟨rfl, rfl⟩
  (refine zc ?_; try exact trivial)
end Go.Proofs.Ytamcjecgkfmjkaa

/- Chapter 10: the other machine's instructions. (written by gen10e.py) -/
open Go Go.RowKit
namespace Go.Proofs.Ytamcjecgkfmjkaa
set_option linter.unusedSimpArgs false
set_option linter.unusedVariables false
set_option maxRecDepth 20000
/-- the next instruction is another one -/
@[reducible] def incR (m : Rac) : Rac := ⟨m.st, m.i0, m.i1, m.sk, m.pc + 1, m.won, m.bad⟩
def badR (m : Rac) : Rac := ⟨m.st, m.i0, m.i1, m.sk, m.pc, m.won, true⟩
def rtwo (f : Int → Int → Int) (m : Rac) : Rac := rpushM (rpopM (rpopM m)) (f (rpopV (rpopM m)) (rpopV m))
def rload (m : Rac) (arg : Int) : Rac := rpushM m (m.st.cells.getD arg.toNat 0)
def rstore (m : Rac) (arg : Int) : Rac := ⟨m.st.wCells arg.toNat (rpopV m), m.i0, m.i1, (rpopM m).sk, m.pc, m.won, (rpopM m).bad⟩
def rnot (m : Rac) : Rac := rpushM (rpopM m) (truthV (decide (rpopV m = 0)))
def rdup (m : Rac) : Rac := rpushM (rpushM (rpopM m) (rpopV m)) (rpopV m)
def rswap (m : Rac) : Rac := rpushM (rpushM (rpopM (rpopM m)) (rpopV m)) (rpopV (rpopM m))
def rinput (m : Rac) (arg : Int) : Rac := rpushM m (if arg = 0 then (U16 m.i0 : Int) else U16 m.i1)
def rjump (m : Rac) (arg : Int) : Rac := ⟨m.st, m.i0, m.i1, m.sk, arg, m.won, m.bad⟩
def rzero (m : Rac) (arg : Int) : Rac := if rpopV m = 0 then rjump (rpopM m) arg else rpopM m
def rwin (m : Rac) (arg : Int) : Rac := ⟨m.st, m.i0, m.i1, m.sk, m.pc, arg, m.bad⟩
def rrand (m : Rac) : Rac := rpushM ⟨m.st.wSeed (mixS m.st.seed), m.i0, m.i1, m.sk, m.pc, m.won, m.bad⟩ (rndV (mixS m.st.seed))
def goB (m : Rac) (n : Int) : Bool := !m.bad && decide (m.pc < n)
theorem rpop_len (m : Rac) : (rpopM m).sk.length ≤ m.sk.length := List.length_take_le' _ _
end Go.Proofs.Ytamcjecgkfmjkaa

/- Chapter 10: both machines come to the same state. -/
open Go Go.RowKit
namespace Go.Proofs.Ytamcjecgkfmjkaa
set_option linter.unusedSimpArgs false
set_option linter.unusedVariables false
/-- the other machine's instruction, and whether it goes on -/
def rdoK (op arg : Int) (r : Rac) : Rac :=
  if op = 1 then rpushM (incR r) arg
  else if op = 2 then rload (incR r) arg
  else if op = 3 then rstore (incR r) arg
  else if op = 4 then rtwo f4 (incR r)
  else if op = 5 then rtwo f5 (incR r)
  else if op = 6 then rtwo f6 (incR r)
  else if op = 7 then rtwo f7 (incR r)
  else if op = 8 then rtwo f8 (incR r)
  else if op = 9 then rtwo f9 (incR r)
  else if op = 10 then rtwo f10 (incR r)
  else if op = 11 then rtwo f11 (incR r)
  else if op = 12 then rnot (incR r)
  else if op = 13 then rdup (incR r)
  else if op = 14 then rswap (incR r)
  else if op = 15 then rpopM (incR r)
  else if op = 16 then rinput (incR r) arg
  else if op = 17 then rpushM (incR r) r.st.frame
  else if op = 18 then rjump (incR r) arg
  else if op = 19 then rzero (incR r) arg
  else if op = 20 then rwin (incR r) arg
  else if op = 21 then rrand (incR r)
  else incR r
def rdoM (op arg : Int) (r : Rac) : Rac := if r.sk.length < takesP op then badR r else rdoK op arg r
def rdoB (op arg n : Int) (r : Rac) : Bool := if r.sk.length < takesP op ∨ op = 20 ∨ op = 22 then false else goB (rdoM op arg r) n
def rrunM (code : List (Int × Int)) : Nat → Rac → Rac
  | 0, r => if r.pc < code.length then badR r else r
  | f + 1, r => if r.pc < code.length then
      (if rdoB (gi code r.pc.toNat).1 (gi code r.pc.toNat).2 code.length r = true then rrunM code f (rdoM (gi code r.pc.toNat).1 (gi code r.pc.toNat).2 r) else rdoM (gi code r.pc.toNat).1 (gi code r.pc.toNat).2 r) else r
/-- the two machines stand alike -/
structure Rl (m : Mac) (r : Rac) : Prop where
  st : r.st = m.st
  i0 : r.i0 = m.i0
  i1 : r.i1 = m.i1
  sk : r.sk = m.sk
  pc : r.pc = m.pc
  mb : m.bad = false
  rb : r.bad = false
  en : m.en = false
  won : r.won = -1
theorem Rl.inc {m : Mac} {r : Rac} (h : Rl m r) : Rl (incM m) (incR r) := ⟨h.st, h.i0, h.i1, h.sk, by show r.pc + 1 = m.pc + 1; rw [h.pc], h.mb, h.rb, h.en, h.won⟩
theorem Rl.popV {m : Mac} {r : Rac} (h : Rl m r) : rpopV r = popV m := by unfold rpopV Proofs.Ytamcjecgkfmjkaa.popV; rw [h.sk]
theorem Rl.pop {m : Mac} {r : Rac} (h : Rl m r) (hl : m.sk.length ≠ 0) : Rl (popM m) (rpopM r) := ⟨h.st, h.i0, h.i1, by show r.sk.take _ = m.sk.take _; rw [h.sk], h.pc, by simp [popM, h.mb, hl], by simp [rpopM, h.rb, h.sk, hl], h.en, h.won⟩
/-- numbers laid -/
def Out (m : Mac) (r : Rac) : Prop := (m.bad = true ∧ r.bad = true) ∨ Rl m r
theorem Rl.push {m : Mac} {r : Rac} (h : Rl m r) (x : Int) : Out (pushM m [x]) (rpushM r x) := by
  unfold pushM rpushM
  by_cases hl : 32 ≤ r.sk.length
  · rw [if_pos hl]
    refine .inl ⟨?_, rfl⟩
    rw [h.sk] at hl
    have : decide (32 < m.sk.length + [x].length) = true := by simp; omega
    simp only [this, Bool.or_true]
  · rw [if_neg hl]
    rw [h.sk] at hl
    have : decide (32 < m.sk.length + [x].length) = false := by simp; omega
    exact .inr ⟨h.st, h.i0, h.i1, by show r.sk ++ [x] = m.sk ++ [x]; rw [h.sk], h.pc, by simp only [this, h.mb, Bool.or_false], h.rb, h.en, h.won⟩
theorem Rl.push2 {m : Mac} {r : Rac} (h : Rl m r) (x y : Int) : Out (pushM m [x, y]) (rpushM (rpushM r x) y) := by
  by_cases hl : 32 ≤ r.sk.length
  · have e : rpushM r x = ⟨r.st, r.i0, r.i1, r.sk, r.pc, r.won, true⟩ := by unfold rpushM; rw [if_pos hl]
    refine .inl ⟨?_, ?_⟩
    · rw [h.sk] at hl
      have : decide (32 < m.sk.length + [x, y].length) = true := by simp; omega
      unfold pushM
      simp only [this, Bool.or_true]
    · rw [e]; unfold rpushM; split <;> rfl
  · have e : rpushM r x = ⟨r.st, r.i0, r.i1, r.sk ++ [x], r.pc, r.won, r.bad⟩ := by unfold rpushM; rw [if_neg hl]
    rw [e]
    unfold rpushM pushM
    rw [h.sk] at hl
    by_cases h2 : 32 ≤ (r.sk ++ [x]).length
    · rw [if_pos h2]
      refine .inl ⟨?_, rfl⟩
      have : decide (32 < m.sk.length + [x, y].length) = true := by
        rw [List.length_append, h.sk] at h2; simp at h2 ⊢; omega
      simp only [this, Bool.or_true]
    · rw [if_neg h2]
      have : decide (32 < m.sk.length + [x, y].length) = false := by
        rw [List.length_append, h.sk] at h2; simp at h2 ⊢; omega
      exact .inr ⟨h.st, h.i0, h.i1, by show r.sk ++ [x] ++ [y] = m.sk ++ [x, y]; rw [h.sk]; simp, h.pc, by simp only [this, h.mb, Bool.or_false], h.rb, h.en, h.won⟩
theorem Rl.two {m : Mac} {r : Rac} (h : Rl m r) (hl : 2 ≤ m.sk.length) (f : Int → Int → Int) : Out (two10 f m) (rtwo f r) := by
  have h1 := h.pop (by omega)
  have h2 := h1.pop (by simp [popM]; omega)
  unfold two10 rtwo
  rw [h.popV, h1.popV]
  exact h2.push _
theorem bad_push {m : Mac} (l : List Int) (h : m.bad = true) : (pushM m l).bad = true := by simp [pushM, h]
theorem bad_pop {m : Mac} (h : m.bad = true ∨ m.sk.length = 0) : (popM m).bad = true := by
  rcases h with h | h <;> simp [popM, h]
theorem bad_two {m : Mac} (f : Int → Int → Int) (h : m.sk.length < 2) : (two10 f m).bad = true := bad_push _ (bad_pop (.inr (by simp [popM]; omega)))
/-- too few numbers -/
theorem few_bad {op arg : Int} {m : Mac} (h : 1 ≤ op ∧ op ≤ 22) (hl : m.sk.length < takesP op) : (doM op arg m).bad = true := by
  rcases op_cases h with rfl | rfl | rfl | rfl | rfl | rfl | rfl | rfl | rfl | rfl | rfl | rfl | rfl | rfl | rfl | rfl | rfl | rfl | rfl | rfl | rfl | rfl
  · replace hl : m.sk.length < 0 := hl
    omega
  · replace hl : m.sk.length < 0 := hl
    omega
  · replace hl : m.sk.length < 1 := hl
    exact bad_pop (.inr (by omega))
  · replace hl : m.sk.length < 2 := hl
    exact bad_two _ hl
  · replace hl : m.sk.length < 2 := hl
    exact bad_two _ hl
  · replace hl : m.sk.length < 2 := hl
    exact bad_two _ hl
  · replace hl : m.sk.length < 2 := hl
    exact bad_two _ hl
  · replace hl : m.sk.length < 2 := hl
    exact bad_two _ hl
  · replace hl : m.sk.length < 2 := hl
    exact bad_two _ hl
  · replace hl : m.sk.length < 2 := hl
    exact bad_two _ hl
  · replace hl : m.sk.length < 2 := hl
    exact bad_two _ hl
  · replace hl : m.sk.length < 1 := hl
    exact bad_push _ (bad_pop (.inr (by omega)))
  · replace hl : m.sk.length < 1 := hl
    exact bad_push _ (bad_pop (.inr (by omega)))
  · replace hl : m.sk.length < 2 := hl
    exact bad_push _ (bad_pop (.inr (by have : (popM m).sk.length = min (m.sk.length - 1) m.sk.length := List.length_take; omega)))
  · replace hl : m.sk.length < 1 := hl
    exact bad_pop (.inr (by omega))
  · replace hl : m.sk.length < 0 := hl
    omega
  · replace hl : m.sk.length < 0 := hl
    omega
  · replace hl : m.sk.length < 0 := hl
    omega
  · replace hl : m.sk.length < 1 := hl
    rw [doM_19]
    unfold zero10
    have hb : (popM m).bad = true := bad_pop (.inr (by omega))
    split <;> exact hb
  · replace hl : m.sk.length < 0 := hl
    omega
  · replace hl : m.sk.length < 0 := hl
    omega
  · replace hl : m.sk.length < 0 := hl
    omega
/-- one instruction, in both -/
theorem do_both {op arg n : Int} {m : Mac} {r : Rac} (h : Rl m r) (hm : mayP op arg n = true) :
    ((doM op arg (incM m)).bad = true ∧ (rdoM op arg r).bad = true ∧ rdoB op arg n r = false) ∨
    (Rl (doM op arg (incM m)) (rdoM op arg r) ∧ rdoB op arg n r = decide ((doM op arg (incM m)).pc < n) ∧ (rdoM op arg r).bad = false) ∨
    (op = 20 ∧ (doM op arg (incM m)).bad = false ∧ (doM op arg (incM m)).en = true ∧ (doM op arg (incM m)).st = (m.st.wOver true).wWin arg ∧ (rdoM op arg r).st = m.st ∧ (rdoM op arg r).won = arg ∧ (rdoM op arg r).bad = false ∧ rdoB op arg n r = false) ∨
    (op = 22 ∧ (doM op arg (incM m)).bad = false ∧ (doM op arg (incM m)).en = true ∧ (doM op arg (incM m)).st = m.st ∧ (rdoM op arg r).st = m.st ∧ (rdoM op arg r).won = -1 ∧ (rdoM op arg r).bad = false ∧ rdoB op arg n r = false) := by
  obtain ⟨ho, _⟩ := mayP_arg hm
  have hi := h.inc
  have hsk : (incM m).sk = m.sk := rfl
  by_cases hl : r.sk.length < takesP op
  · refine .inl ⟨few_bad ho (by rw [hsk, ← h.sk]; exact hl), ?_, ?_⟩
    · unfold rdoM; rw [if_pos hl]; rfl
    · unfold rdoB; rw [if_pos (.inl hl)]
  have hl' : ¬ (incM m).sk.length < takesP op := by rw [hsk, ← h.sk]; exact hl
  have key : ∀ (hop : ¬ (op = 20 ∨ op = 22)) (m' : Mac) (r' : Rac), doM op arg (incM m) = m' → rdoM op arg r = r' → Out m' r' → ((doM op arg (incM m)).bad = true ∧ (rdoM op arg r).bad = true ∧ rdoB op arg n r = false) ∨
      (Rl (doM op arg (incM m)) (rdoM op arg r) ∧ rdoB op arg n r = decide ((doM op arg (incM m)).pc < n) ∧ (rdoM op arg r).bad = false) := by
    rintro hop m' r' e1 e2 ho
    have eB : rdoB op arg n r = goB r' n := by unfold rdoB; rw [if_neg (by rintro (h | h); exact hl h; exact hop h), e2]
    rw [e1, e2, eB]
    rcases ho with ⟨a, b⟩ | a
    · exact .inl ⟨a, b, by unfold goB; rw [b]; rfl⟩
    · exact .inr ⟨a, by unfold goB; rw [a.rb, a.pc]; simp, a.rb⟩
  have nd : ∀ (m' : Mac) (r' : Rac), ¬ (op = 20 ∨ op = 22) → doM op arg (incM m) = m' → rdoM op arg r = r' → Out m' r' → _ := fun m' r' hop e1 e2 ho => (key hop m' r' e1 e2 ho).imp id (fun h => Or.inl (b := (op = 20 ∧ (doM op arg (incM m)).bad = false ∧ (doM op arg (incM m)).en = true ∧ (doM op arg (incM m)).st = (m.st.wOver true).wWin arg ∧ (rdoM op arg r).st = m.st ∧ (rdoM op arg r).won = arg ∧ (rdoM op arg r).bad = false ∧ rdoB op arg n r = false) ∨
    (op = 22 ∧ (doM op arg (incM m)).bad = false ∧ (doM op arg (incM m)).en = true ∧ (doM op arg (incM m)).st = m.st ∧ (rdoM op arg r).st = m.st ∧ (rdoM op arg r).won = -1 ∧ (rdoM op arg r).bad = false ∧ rdoB op arg n r = false)) h)
  have hrl : ¬ r.sk.length < takesP op := hl
  clear key
  rcases op_cases ho with rfl | rfl | rfl | rfl | rfl | rfl | rfl | rfl | rfl | rfl | rfl | rfl | rfl | rfl | rfl | rfl | rfl | rfl | rfl | rfl | rfl | rfl
  · have ek : rdoM 1 arg r = rdoK 1 arg r := if_neg hrl
    replace hl' : ¬ (incM m).sk.length < 0 := hl'
    exact nd _ _ (by omega) rfl ek (hi.push arg)
  · have ek : rdoM 2 arg r = rdoK 2 arg r := if_neg hrl
    replace hl' : ¬ (incM m).sk.length < 0 := hl'
    exact nd _ _ (by omega) rfl ek (by
      show Out (load10 (incM m) arg) (rload (incR r) arg)
      unfold rload load10
      have e : (incR r).st = (incM m).st := hi.st
      rw [e]
      exact hi.push _)
  · have ek : rdoM 3 arg r = rdoK 3 arg r := if_neg hrl
    replace hl' : ¬ (incM m).sk.length < 1 := hl'
    have h1 := hi.pop (by omega)
    exact nd _ _ (by omega) rfl ek (.inr (by
      refine ⟨?_, h1.i0, h1.i1, h1.sk, h1.pc, h1.mb, h1.rb, h1.en, h1.won⟩
      show (incR r).st.wCells _ _ = (incM m).st.wCells _ _
      rw [hi.st, hi.popV]))
  · have ek : rdoM 4 arg r = rdoK 4 arg r := if_neg hrl
    replace hl' : ¬ (incM m).sk.length < 2 := hl'
    exact nd _ _ (by omega) rfl ek (hi.two (by omega) _)
  · have ek : rdoM 5 arg r = rdoK 5 arg r := if_neg hrl
    replace hl' : ¬ (incM m).sk.length < 2 := hl'
    exact nd _ _ (by omega) rfl ek (hi.two (by omega) _)
  · have ek : rdoM 6 arg r = rdoK 6 arg r := if_neg hrl
    replace hl' : ¬ (incM m).sk.length < 2 := hl'
    exact nd _ _ (by omega) rfl ek (hi.two (by omega) _)
  · have ek : rdoM 7 arg r = rdoK 7 arg r := if_neg hrl
    replace hl' : ¬ (incM m).sk.length < 2 := hl'
    exact nd _ _ (by omega) rfl ek (hi.two (by omega) _)
  · have ek : rdoM 8 arg r = rdoK 8 arg r := if_neg hrl
    replace hl' : ¬ (incM m).sk.length < 2 := hl'
    exact nd _ _ (by omega) rfl ek (hi.two (by omega) _)
  · have ek : rdoM 9 arg r = rdoK 9 arg r := if_neg hrl
    replace hl' : ¬ (incM m).sk.length < 2 := hl'
    exact nd _ _ (by omega) rfl ek (hi.two (by omega) _)
  · have ek : rdoM 10 arg r = rdoK 10 arg r := if_neg hrl
    replace hl' : ¬ (incM m).sk.length < 2 := hl'
    exact nd _ _ (by omega) rfl ek (hi.two (by omega) _)
  · have ek : rdoM 11 arg r = rdoK 11 arg r := if_neg hrl
    replace hl' : ¬ (incM m).sk.length < 2 := hl'
    exact nd _ _ (by omega) rfl ek (hi.two (by omega) _)
  · have ek : rdoM 12 arg r = rdoK 12 arg r := if_neg hrl
    replace hl' : ¬ (incM m).sk.length < 1 := hl'
    have h1 := hi.pop (by omega)
    exact nd _ _ (by omega) rfl ek (by
      show Out (not10 (incM m)) (rnot (incR r))
      unfold not10 rnot
      rw [hi.popV]
      exact h1.push _)
  · have ek : rdoM 13 arg r = rdoK 13 arg r := if_neg hrl
    replace hl' : ¬ (incM m).sk.length < 1 := hl'
    have h1 := hi.pop (by omega)
    exact nd _ _ (by omega) rfl ek (by
      show Out (dup10 (incM m)) (rdup (incR r))
      unfold dup10 rdup
      rw [hi.popV]
      exact h1.push2 _ _)
  · have ek : rdoM 14 arg r = rdoK 14 arg r := if_neg hrl
    replace hl' : ¬ (incM m).sk.length < 2 := hl'
    have h1 := hi.pop (by omega)
    have h2 := h1.pop (by have : (popM (incM m)).sk.length = min ((incM m).sk.length - 1) (incM m).sk.length := List.length_take; omega)
    exact nd _ _ (by omega) rfl ek (by
      show Out (swap10 (incM m)) (rswap (incR r))
      unfold swap10 rswap
      rw [hi.popV, h1.popV]
      exact h2.push2 _ _)
  · have ek : rdoM 15 arg r = rdoK 15 arg r := if_neg hrl
    replace hl' : ¬ (incM m).sk.length < 1 := hl'
    exact nd _ _ (by omega) rfl ek (.inr (hi.pop (by omega)))
  · have ek : rdoM 16 arg r = rdoK 16 arg r := if_neg hrl
    replace hl' : ¬ (incM m).sk.length < 0 := hl'
    exact nd _ _ (by omega) rfl ek (by
      show Out (input10 (incM m) arg) (rinput (incR r) arg)
      unfold input10 rinput
      rw [hi.i0, hi.i1]
      exact hi.push _)
  · have ek : rdoM 17 arg r = rdoK 17 arg r := if_neg hrl
    replace hl' : ¬ (incM m).sk.length < 0 := hl'
    exact nd _ _ (by omega) rfl ek (by
      show Out (frame10 (incM m)) (rpushM (incR r) r.st.frame)
      unfold frame10
      rw [h.st]
      exact hi.push _)
  · have ek : rdoM 18 arg r = rdoK 18 arg r := if_neg hrl
    replace hl' : ¬ (incM m).sk.length < 0 := hl'
    exact nd _ _ (by omega) rfl ek (.inr ⟨hi.st, hi.i0, hi.i1, hi.sk, rfl, hi.mb, hi.rb, hi.en, hi.won⟩)
  · have ek : rdoM 19 arg r = rdoK 19 arg r := if_neg hrl
    replace hl' : ¬ (incM m).sk.length < 1 := hl'
    have h1 := hi.pop (by omega)
    exact nd _ _ (by omega) rfl ek (.inr (by
      show Rl (zero10 (incM m) arg) (rzero (incR r) arg)
      unfold zero10 rzero
      rw [hi.popV]
      split
      · exact ⟨h1.st, h1.i0, h1.i1, h1.sk, rfl, h1.mb, h1.rb, h1.en, h1.won⟩
      · exact h1))
  · have ek : rdoM 20 arg r = rdoK 20 arg r := if_neg hrl
    replace hl' : ¬ (incM m).sk.length < 0 := hl'
    have e2 : rdoM 20 arg r = rwin (incR r) arg := ek
    refine .inr (.inr (.inl ⟨rfl, hi.mb, rfl, rfl, ?_, ?_, ?_, ?_⟩))
    · rw [e2]; exact h.st
    · rw [e2]; rfl
    · rw [e2]; exact h.rb
    · unfold rdoB; rw [if_pos (.inr (.inl rfl))]
  · have ek : rdoM 21 arg r = rdoK 21 arg r := if_neg hrl
    replace hl' : ¬ (incM m).sk.length < 0 := hl'
    exact nd _ _ (by omega) rfl ek (by
      show Out (rand10 (incM m)) (rrand (incR r))
      have e : rrand (incR r) = rpushM ⟨m.st.wSeed (mixS m.st.seed), r.i0, r.i1, r.sk, r.pc + 1, r.won, r.bad⟩ (rndV (mixS m.st.seed)) := by
        show rpushM ⟨r.st.wSeed (mixS r.st.seed), r.i0, r.i1, r.sk, r.pc + 1, r.won, r.bad⟩ (rndV (mixS r.st.seed)) = _
        rw [h.st]
      rw [e]
      exact Rl.push (m := ⟨m.st.wSeed (mixS m.st.seed), m.i0, m.i1, m.sk, m.pc + 1, m.en, m.bad⟩) (r := ⟨m.st.wSeed (mixS m.st.seed), r.i0, r.i1, r.sk, r.pc + 1, r.won, r.bad⟩) ⟨rfl, hi.i0, hi.i1, hi.sk, hi.pc, hi.mb, hi.rb, hi.en, hi.won⟩ _)
  · have ek : rdoM 22 arg r = rdoK 22 arg r := if_neg hrl
    replace hl' : ¬ (incM m).sk.length < 0 := hl'
    have e2 : rdoM 22 arg r = incR r := ek
    refine .inr (.inr (.inr ⟨rfl, hi.mb, rfl, rfl, ?_, ?_, ?_, ?_⟩))
    · rw [e2]; exact h.st
    · rw [e2]; exact h.won
    · rw [e2]; exact h.rb
    · unfold rdoB; rw [if_pos (.inr (.inr rfl))]
/-! ### the ends -/
def winS (s : Sta) : Int := if s.cells.getD 1 0 < s.cells.getD 0 0 then 0 else if s.cells.getD 0 0 < s.cells.getD 1 0 then 1 else 2
def endS (cap : Int) (s : Sta) : Sta := if cap ≤ s.frame + 1 ∧ s.over = false then ((s.wFrame (s.frame + 1)).wOver true).wWin (winS s) else s.wFrame (s.frame + 1)
@[reducible] def mac0 (s : Sta) (i0 i1 : UInt16) : Mac := ⟨s, i0, i1, [], 0, false, false⟩
def stepM (code : List (Int × Int)) (cap : Int) (fuel : Nat) (s : Sta) (i0 i1 : UInt16) : Sta := endS cap (if (runM code fuel (mac0 s i0 i1)).1 = 0 then (runM code fuel (mac0 s i0 i1)).2.st else s)
@[reducible] def rac0 (s : Sta) (i0 i1 : UInt16) : Rac := ⟨s, i0, i1, [], 0, -1, false⟩
/-- what a frame that failed leaves -/
def undoR (s : Sta) (r : Rac) : Rac := if r.bad = true then ⟨⟨r.st.frame, s.cells, s.seed, r.st.over, r.st.win, s.len⟩, r.i0, r.i1, r.sk, r.pc, -1, r.bad⟩ else r
def refE (cap : Int) (r : Rac) : Sta := if 0 ≤ r.won then ((r.st.wFrame (r.st.frame + 1)).wOver true).wWin r.won else if r.st.frame + 1 = cap then
    (if r.st.cells.getD 0 0 = r.st.cells.getD 1 0 then ((r.st.wFrame (r.st.frame + 1)).wOver true).wWin 2 else if r.st.cells.getD 0 0 < r.st.cells.getD 1 0 then ((r.st.wFrame (r.st.frame + 1)).wOver true).wWin 1 else (r.st.wFrame (r.st.frame + 1)).wOver true) else r.st.wFrame (r.st.frame + 1)
def rstepM (code : List (Int × Int)) (cap : Int) (fuel : Nat) (s : Sta) (i0 i1 : UInt16) : Sta := refE cap (undoR s (rrunM code fuel (rac0 s i0 i1)))
/-- what the other machine never touches -/
structure Kp (s : Sta) (r : Rac) : Prop where
  frame : r.st.frame = s.frame
  over : r.st.over = s.over
  win : r.st.win = s.win
theorem Kp.rpush {s : Sta} {r : Rac} (h : Kp s r) (x : Int) : Kp s (rpushM r x) := by unfold rpushM; split <;> exact ⟨h.frame, h.over, h.win⟩
theorem Kp.do {s : Sta} {r : Rac} (h : Kp s r) (op arg : Int) : Kp s (rdoM op arg r) := by
  have hp : Kp s (rpopM (incR r)) := ⟨h.frame, h.over, h.win⟩
  have hp2 : Kp s (rpopM (rpopM (incR r))) := ⟨h.frame, h.over, h.win⟩
  have hi : Kp s (incR r) := ⟨h.frame, h.over, h.win⟩
  unfold rdoM
  split
  · exact ⟨h.frame, h.over, h.win⟩
  · by_cases ho : 1 ≤ op ∧ op ≤ 22
    · rcases op_cases ho with rfl | rfl | rfl | rfl | rfl | rfl | rfl | rfl | rfl | rfl | rfl | rfl | rfl | rfl | rfl | rfl | rfl | rfl | rfl | rfl | rfl | rfl
      · exact hi.rpush _
      · exact hi.rpush _
      · exact ⟨h.frame, h.over, h.win⟩
      · exact hp2.rpush _
      · exact hp2.rpush _
      · exact hp2.rpush _
      · exact hp2.rpush _
      · exact hp2.rpush _
      · exact hp2.rpush _
      · exact hp2.rpush _
      · exact hp2.rpush _
      · exact hp.rpush _
      · exact (hp.rpush _).rpush _
      · exact (hp2.rpush _).rpush _
      · exact hp
      · exact hi.rpush _
      · exact hi.rpush _
      · exact ⟨h.frame, h.over, h.win⟩
      · show Kp s (rzero (incR r) arg)
        unfold rzero
        split <;> exact ⟨h.frame, h.over, h.win⟩
      · exact ⟨h.frame, h.over, h.win⟩
      · exact Kp.rpush (r := ⟨r.st.wSeed (mixS r.st.seed), r.i0, r.i1, r.sk, r.pc + 1, r.won, r.bad⟩) ⟨h.frame, h.over, h.win⟩ _
      · exact hi
    · have e : rdoK op arg r = incR r := by
        unfold rdoK
        iterate 21 rw [if_neg (by omega)]
      rw [e]; exact hi
theorem badE {s : Sta} {cap : Int} {r : Rac} (hk : Kp s r) (hb : r.bad = true) (hw : s.win = 0) (ho : s.over = false) (hc : s.frame < cap) : refE cap (undoR s r) = endS cap s := by
  have e : undoR s r = ⟨s, r.i0, r.i1, r.sk, r.pc, -1, r.bad⟩ := by
    unfold undoR
    rw [if_pos hb]
    congr 1
    exact Sta.ext' hk.frame rfl rfl hk.over hk.win
  rw [e]
  unfold refE endS winS
  rw [if_neg (show ¬ (0 : Int) ≤ -1 by omega)]
  simp only
  by_cases h1 : s.frame + 1 = cap
  · have hA : cap ≤ s.frame + 1 ∧ s.over = false := ⟨by omega, ho⟩
    rw [if_pos h1, if_pos hA]
    by_cases h2 : s.cells.getD 0 0 = s.cells.getD 1 0
    · rw [if_pos h2, if_neg (by omega), if_neg (by omega)]
    · rw [if_neg h2]
      by_cases h3 : s.cells.getD 0 0 < s.cells.getD 1 0
      · rw [if_pos h3, if_neg (by omega), if_pos h3]
      · rw [if_neg h3, if_pos (by omega)]
        exact Sta.ext' rfl rfl rfl rfl hw
  · rw [if_neg h1, if_neg (by omega)]
theorem okE {s : Sta} {cap : Int} {r : Rac} {m : Mac} (hr : r.bad = false) (hs : r.st = m.st) (hwn : r.won = -1) (hf : m.st.frame < cap) (hw : m.st.win = 0) (ho : m.st.over = false) : refE cap (undoR s r) = endS cap m.st := by
  have e : undoR s r = r := by unfold undoR; rw [if_neg (by rw [hr]; simp)]
  have := badE (s := m.st) (cap := cap) (r := ⟨m.st, r.i0, r.i1, r.sk, r.pc, -1, true⟩) ⟨rfl, rfl, rfl⟩ rfl hw ho hf
  rw [e, ← this]
  unfold undoR
  rw [if_pos rfl]
  unfold refE
  simp only [hs, hwn]
theorem doM_pc0 {n op arg : Int} {m : Mac} (h0 : 0 ≤ m.pc) (hm : mayP op arg n = true) : 0 ≤ (doM op arg m).pc := by
  obtain ⟨ho, _, _, _, h18, _⟩ := mayP_arg hm
  rcases op_cases ho with rfl | rfl | rfl | rfl | rfl | rfl | rfl | rfl | rfl | rfl | rfl | rfl | rfl | rfl | rfl | rfl | rfl | rfl | rfl | rfl | rfl | rfl
  all_goals first | exact h0 | exact (h18 (.inl rfl)).1 | skip
  rw [doM_19]
  unfold zero10
  split
  · exact (h18 (.inr rfl)).1
  · exact h0
theorem run_eq {code : List (Int × Int)} {cap : Int} {s : Sta} (hc : (chkP code).2 = 0) (hso : s.over = false) (hsw : s.win = 0) (hsf : s.frame < cap) : ∀ (f : Nat) (m : Mac) (r : Rac), Rl m r → Kp s r → 0 ≤ m.pc →
    refE cap (undoR s (rrunM code f r)) = endS cap (if (runM code f m).1 = 0 then (runM code f m).2.st else s) := by
  have stop : ∀ (m : Mac) (r : Rac), Rl m r → Kp s r → refE cap (undoR s r) = endS cap m.st := by
    intro m r h hk
    exact okE h.rb h.st h.won (by rw [← h.st, hk.frame]; exact hsf) (by rw [← h.st, hk.win]; exact hsw) (by rw [← h.st, hk.over]; exact hso)
  intro f
  induction f with
  | zero =>
    intro m r h hk h0
    have hpc := h.pc
    by_cases hp : m.pc < code.length
    · have e1 : runM code 0 m = (10, m) := if_pos ⟨hp, h.en⟩
      have e2 : rrunM code 0 r = badR r := if_pos (by rw [hpc]; exact hp)
      rw [e1, e2, if_neg (show ¬ ((10, m) : Int × Mac).1 = 0 by simp)]
      exact badE ⟨hk.frame, hk.over, hk.win⟩ rfl hsw hso hsf
    · have e1 : runM code 0 m = (0, m) := if_neg (fun h => hp h.1)
      have e2 : rrunM code 0 r = r := if_neg (by rw [hpc]; exact hp)
      rw [e1, e2, if_pos rfl]
      exact stop m r h hk
  | succ f ih =>
    intro m r h hk h0
    have hpc := h.pc
    by_cases hp : m.pc < code.length
    · have e1 : runM code (f + 1) m = (if (doM (gi code m.pc.toNat).1 (gi code m.pc.toNat).2 (incM m)).bad = true then (11, doM (gi code m.pc.toNat).1 (gi code m.pc.toNat).2 (incM m))
          else runM code f (doM (gi code m.pc.toNat).1 (gi code m.pc.toNat).2 (incM m))) := if_pos ⟨hp, h.en⟩
      have e2 : rrunM code (f + 1) r = (if rdoB (gi code m.pc.toNat).1 (gi code m.pc.toNat).2 code.length r = true then rrunM code f (rdoM (gi code m.pc.toNat).1 (gi code m.pc.toNat).2 r) else rdoM (gi code m.pc.toNat).1 (gi code m.pc.toNat).2 r) := by
        rw [← hpc]
        exact if_pos (by rw [hpc]; exact hp)
      rw [e1, e2]
      clear e1 e2
      have hmay := chk_all hc (i := m.pc.toNat) (by omega)
      generalize (gi code m.pc.toNat).1 = op at hmay ⊢
      generalize (gi code m.pc.toNat).2 = arg at hmay ⊢
      have hk' := hk.do op arg
      rcases do_both h hmay with ⟨a, b, c⟩ | ⟨a, b, c⟩ | ⟨ho, hb, he, hst, a, b, c, d⟩ | ⟨ho, hb, he, hst, a, b, c, d⟩
      · have hc2 : ¬ rdoB op arg code.length r = true := by rw [c]; simp
        rw [if_neg hc2, if_pos a, if_neg (show ¬ ((11, doM op arg (incM m)) : Int × Mac).1 = 0 by simp)]
        exact badE hk' b hsw hso hsf
      · rw [if_neg (show ¬ (doM op arg (incM m)).bad = true by rw [a.mb]; simp)]
        by_cases hq : (doM op arg (incM m)).pc < code.length
        · have hb2 : rdoB op arg code.length r = true := by rw [b]; exact decide_eq_true hq
          rw [if_pos hb2]
          exact ih _ _ a hk' (doM_pc0 (by show 0 ≤ m.pc + 1; omega) hmay)
        · have hb2 : ¬ rdoB op arg code.length r = true := by rw [b]; simp; omega
          rw [if_neg hb2, stop _ _ a hk']
          have e : runM code f (doM op arg (incM m)) = (0, doM op arg (incM m)) := by
            cases f <;> exact if_neg (fun h => hq h.1)
          rw [e, if_pos rfl]
      · have hd2 : ¬ rdoB op arg code.length r = true := by rw [d]; simp
        have hb2 : ¬ (doM op arg (incM m)).bad = true := by rw [hb]; simp
        rw [if_neg hd2, if_neg hb2]
        have e : runM code f (doM op arg (incM m)) = (0, doM op arg (incM m)) := by
          cases f <;> exact if_neg (fun h => by rw [he] at h; cases h.2)
        rw [e, if_pos rfl, hst]
        have e2 : undoR s (rdoM op arg r) = rdoM op arg r := by unfold undoR; rw [if_neg (by rw [c]; simp)]
        rw [e2]
        obtain ⟨_, _, _, _, _, h20⟩ := mayP_arg hmay
        unfold refE endS
        rw [b, if_pos (h20 ho).1, if_neg (by rintro ⟨_, h⟩; cases h), a]
        rfl
      · have hd2 : ¬ rdoB op arg code.length r = true := by rw [d]; simp
        have hb2 : ¬ (doM op arg (incM m)).bad = true := by rw [hb]; simp
        rw [if_neg hd2, if_neg hb2]
        have e : runM code f (doM op arg (incM m)) = (0, doM op arg (incM m)) := by
          cases f <;> exact if_neg (fun h => by rw [he] at h; cases h.2)
        rw [e, if_pos rfl]
        exact okE c (by rw [a, hst]) b (by rw [hst, ← h.st, hk.frame]; exact hsf) (by rw [hst, ← h.st, hk.win]; exact hsw) (by rw [hst, ← h.st, hk.over]; exact hso)
    · have e1 : runM code (f + 1) m = (0, m) := if_neg (fun h => hp h.1)
      have e2 : rrunM code (f + 1) r = r := if_neg (by rw [hpc]; exact hp)
      rw [e1, e2, if_pos rfl]
      exact stop m r h hk
theorem step_eq {code : List (Int × Int)} {cap : Int} {fuel : Nat} {s : Sta} {i0 i1 : UInt16} (hc : (chkP code).2 = 0) (hso : s.over = false) (hsw : s.win = 0) (hsf : s.frame < cap) : rstepM code cap fuel s i0 i1 = stepM code cap fuel s i0 i1 :=
  run_eq hc hso hsw hsf fuel (mac0 s i0 i1) (rac0 s i0 i1) ⟨rfl, rfl, rfl, rfl, rfl, rfl, rfl, rfl, rfl⟩ ⟨rfl, rfl, rfl⟩ (by show (0 : Int) ≤ 0; omega)
end Go.Proofs.Ytamcjecgkfmjkaa

/- Chapter 10: a frame's step. -/
open Go Go.RowKit
namespace Go.Proofs.Ytamcjecgkfmjkaa
set_option linter.unusedSimpArgs false
set_option linter.unusedVariables false
section
variable {s : Sta} {K : C → Prop}
@[go_sem ↓ 1200] theorem sd_c0 : (∃ c, ((sd s).map D.toC)[1]? = some c ∧ K c) = K (.val (.int .i32 (s.cells.getD 0 0))) := ex_some (get_cells (k := 0) (by omega))
@[go_sem ↓ 1200] theorem sd_c1 : (∃ c, ((sd s).map D.toC)[2]? = some c ∧ K c) = K (.val (.int .i32 (s.cells.getD 1 0))) := ex_some (get_cells (k := 1) (by omega))
end
def stepP (code : List (Int × Int)) (cap fuel : Int) (s : Sta) (i0 i1 : UInt16) : Sta × Int :=
  if gameP code cap fuel ≠ 0 then (stz 0 0, gameP code cap fuel)
  else if isP s = false ∨ U32 s.seed = 0 then (stz 0 0, 1)
  else if s.over = true ∨ cap ≤ s.frame then (stz 0 0, 12)
  else (stepM code cap fuel.toNat s i0 i1, 0)
theorem isP_spec {s : Sta} (h : isP s = true) : 0 ≤ s.frame ∧ s.frame ≤ 600 ∧ 0 ≤ s.win ∧ s.win ≤ 2 ∧ (s.over = true ∨ s.win = 0) := by
  unfold isP at h
  simp only [Bool.and_eq_true, decide_eq_true_eq, Bool.or_eq_true] at h
  obtain ⟨⟨⟨⟨h1, h2⟩, h3⟩, h4⟩, h5⟩ := h
  exact ⟨h1, h2, h3, h4, h5⟩
theorem gameP_spec {code : List (Int × Int)} {cap fuel : Int} (h : gameP code cap fuel = 0) : (chkP code).2 = 0 ∧ 1 ≤ cap ∧ cap ≤ 600 ∧ 1 ≤ fuel ∧ fuel ≤ 2000 := by
  unfold gameP at h
  split at h
  · rename_i h1; exact absurd h h1
  · rename_i h1
    split at h
    · cases h
    · rename_i h2
      exact ⟨by simpa using h1, by omega, by omega, by omega, by omega⟩
theorem runM_B {code : List (Int × Int)} (hc : (chkP code).2 = 0) : ∀ (f : Nat) (m : Mac), okL m → 0 ≤ m.pc → okL (runM code f m).2
  | 0, m, h, _ => by unfold runM; split <;> exact h
  | f + 1, m, h, h0 => by
    unfold runM
    split
    · rename_i hp
      have hmay := chk_all hc (i := m.pc.toNat) (by omega)
      have h1 : okL (incM m) := ⟨h.sk, h.cells, h.fr0, h.fr1⟩
      have h2 := doM_low h1 hmay
      split
      · exact h2
      · exact runM_B hc f _ h2 (doM_pc0 (by show 0 ≤ m.pc + 1; omega) hmay)
    · exact h
theorem endS_cells (cap : Int) (s : Sta) : (endS cap s).cells = s.cells := by unfold endS; split <;> rfl
theorem step_B32 (code : List (Int × Int)) (cap fuel : Int) (s : Sta) (i0 i1 : UInt16) (h : ∀ x ∈ s.cells, B32 x) : ∀ x ∈ (stepP code cap fuel s i0 i1).1.cells, B32 x := by
  have hz : ∀ x ∈ (stz 0 0).cells, B32 x := fun x hx => by
    have : x = 0 := List.eq_of_mem_replicate hx
    rw [this]; exact B32_0
  unfold stepP
  split
  · exact hz
  · rename_i hg
    split
    · exact hz
    · rename_i hi
      split
      · exact hz
      · have hg' : gameP code cap fuel = 0 := by simpa using hg
        have hi' : isP s = true := by cases hh : isP s <;> simp_all
        obtain ⟨f0, f1, _⟩ := isP_spec hi'
        show ∀ x ∈ (stepM code cap fuel.toNat s i0 i1).cells, B32 x
        unfold stepM
        rw [endS_cells]
        split
        · exact (runM_B (gameP_spec hg').1 _ _ ⟨fun x hx => (by cases hx), h, f0, f1⟩ (by show (0 : Int) ≤ 0; omega)).cells
        · exact h
set_option maxRecDepth 20000 in
set_option maxHeartbeats 16000000 in
theorem step_h (code : List (Int × Int)) (cap fuel : Int) (s : Sta) (i0 i1 : UInt16) (hcl : code.length ≤ 9223372036854775807) (hB : ∀ x ∈ s.cells, B32 x) :
    Holds Try.prog 57 [.game code cap fuel, .agg ((sd s).map D.toC), .agg [.val (.int .u16 (U16 i0)), .val (.int .u16 (U16 i1))]] [] (fun r h' => r = .tup [.agg ((sd (stepP code cap fuel s i0 i1).1).map D.toC), .int .i64 (stepP code cap fuel s i0 i1).2] ∧ h' = []) := by
  have hgc := gcheck_h code cap fuel hcl
  have his := isState_h s
  refine holds_of_awp Try.func57 rfl (by decide +kernel) mixed Try.ntmps57 Try.results57 ?_
  simp only [entrySt, List.map_cons, List.map_nil, List.length_cons, List.length_nil, Nat.reduceAdd, Nat.reduceSub, List.replicate_succ, List.replicate_zero, List.cons_append, List.nil_append]
  (refine zs ?_; try exact trivial)
  refine a_call [] (hgc) ok0 ?_ ?_ ?_
  · (refine zs ?_; try exact trivial)
  · (refine zs ?_; try exact trivial)
  rintro _ _ ⟨rfl, rfl⟩
  by_cases hg : gameP code cap fuel = 0
  · obtain ⟨g1, g2, g3, g4, g5⟩ := gameP_spec hg
    have hlen := game_len hg
    rw [hg]
    (refine zc ?_; try exact trivial)
    refine a_call [] (his) ok0 ?_ ?_ ?_
    · (refine zs ?_; try exact trivial)
    · (refine zs ?_; try exact trivial)
    rintro _ _ ⟨rfl, rfl⟩
    cases hi : isP s
    · have e : stepP code cap fuel s i0 i1 = (stz 0 0, 1) := by unfold stepP; rw [if_neg (by rw [hg]; simp), if_pos (.inl hi)]
      rw [e]
      (refine zc ?_; try exact trivial)
      all_goals exact leCs_refl _
    · obtain ⟨s1, s2, s3, s4, s5⟩ := isP_spec hi
      (refine zc ?_; try exact trivial)
      cases hz : decide (U32 s.seed = 0)
      · have hz' := of_decide_eq_false hz
        simp (maxSteps := 2000000) (disch := omega) only [go_sem, Nat.reduceAdd, Nat.reduceSub, Nat.reduceMul, Nat.reduceBEq, Nat.reduceEqDiff, Nat.reduceLT, Nat.reduceLeDiff, Nat.reduceDiv, reduceIte, reduceCtorEq, hz]
        cases ho : s.over
        · simp (maxSteps := 2000000) (disch := omega) only [go_sem, Nat.reduceAdd, Nat.reduceSub, Nat.reduceMul, Nat.reduceBEq, Nat.reduceEqDiff, Nat.reduceLT, Nat.reduceLeDiff, Nat.reduceDiv, reduceIte, reduceCtorEq, ho]
          cases hf : decide (cap ≤ s.frame)
          · have hf' := of_decide_eq_false hf
            have hw : s.win = 0 := by rcases s5 with h | h; rw [ho] at h; cases h; exact h
            have e : stepP code cap fuel s i0 i1 = (stepM code cap fuel.toNat s i0 i1, 0) := by unfold stepP; rw [if_neg (by rw [hg]; simp), if_neg (by rintro (h | h); rw [hi] at h; cases h; exact hz' h), if_neg (by rintro (h | h); rw [ho] at h; cases h; exact hf' h)]
            rw [e]
            have hrun := run_h10 code cap fuel.toNat (mac0 s i0 i1) g1 (by omega) ⟨by show (0 : Int) ≤ 0; omega, by show (0 : Int) ≤ _; omega, by show 0 ≤ 32; omega, fun x hx => (by cases hx), hB, s1, s2⟩ rfl (by omega)
            rw [show ((fuel.toNat : Nat) : Int) = fuel by omega] at hrun
            have hlow := runM_B g1 fuel.toNat (mac0 s i0 i1) ⟨fun x hx => (by cases hx), hB, s1, s2⟩ (by show (0 : Int) ≤ 0; omega)
            have eM : stepM code cap fuel.toNat s i0 i1 = endS cap (if (runM code fuel.toNat (mac0 s i0 i1)).1 = 0 then (runM code fuel.toNat (mac0 s i0 i1)).2.st else s) := rfl
            rw [eM]
            clear e eM
            generalize runM code fuel.toNat (mac0 s i0 i1) = x at hrun hlow ⊢
            obtain ⟨E, M⟩ := x
            simp only at hrun hlow ⊢
            have mf0 := hlow.fr0
            have mf1 := hlow.fr1
            simp (maxSteps := 2000000) (disch := omega) only [go_sem, Nat.reduceAdd, Nat.reduceSub, Nat.reduceMul, Nat.reduceBEq, Nat.reduceEqDiff, Nat.reduceLT, Nat.reduceLeDiff, Nat.reduceDiv, reduceIte, reduceCtorEq, hf]
            refine a_call [.loc [40]] hrun (ok1 rfl) ?_ ?_ ?_
            · (refine zs ?_; try exact trivial)
            · (refine zs ?_; try exact trivial)
              exact mc_le ⟨rfl, rfl, rfl, by simp [leC], rfl, rfl, rfl⟩
            rintro _ _ ⟨rfl, rfl⟩
            (refine zc ?_; try exact trivial)
            clear hrun hgc his hB g1 hlow
            refine c_dec (fun hE => ?_) (fun hE => ?_)
            · rw [if_neg (show ¬ E = 0 from hE)]
              (refine zc ?_; try exact trivial)
              have hover : (s).over = false ∨ (s).over = true := by cases (s).over <;> simp
              cases hk : decide (cap ≤ (s).frame + 1)
              · have e2 : endS cap (s) = (s).wFrame ((s).frame + 1) := by unfold endS; rw [if_neg (fun h => (of_decide_eq_false hk) h.1)]
                rw [e2]
                simp (maxSteps := 2000000) (disch := omega) only [go_sem, Nat.reduceAdd, Nat.reduceSub, Nat.reduceMul, Nat.reduceBEq, Nat.reduceEqDiff, Nat.reduceLT, Nat.reduceLeDiff, Nat.reduceDiv, reduceIte, reduceCtorEq, hk]
                all_goals exact leCs_refl _
              · cases hq : (!(s).over)
                · have e2 : endS cap (s) = (s).wFrame ((s).frame + 1) := by unfold endS; rw [if_neg (fun h => by rw [h.2] at hq; cases hq)]
                  rw [e2]
                  simp (maxSteps := 2000000) (disch := omega) only [go_sem, Nat.reduceAdd, Nat.reduceSub, Nat.reduceMul, Nat.reduceBEq, Nat.reduceEqDiff, Nat.reduceLT, Nat.reduceLeDiff, Nat.reduceDiv, reduceIte, reduceCtorEq, hk, hq]
                  all_goals exact leCs_refl _
                · have hq' : (s).over = false := by cases hh : (s).over <;> simp_all
                  have e2 : endS cap (s) = (((s).wFrame ((s).frame + 1)).wOver true).wWin (winS (s)) := by unfold endS; rw [if_pos ⟨of_decide_eq_true hk, hq'⟩]
                  rw [e2]
                  simp (maxSteps := 2000000) (disch := omega) only [go_sem, Nat.reduceAdd, Nat.reduceSub, Nat.reduceMul, Nat.reduceBEq, Nat.reduceEqDiff, Nat.reduceLT, Nat.reduceLeDiff, Nat.reduceDiv, reduceIte, reduceCtorEq, hk, hq]
                  refine c_dec (fun w1 => ?_) (fun w1 => ?_)
                  · have e3 : winS (s) = 0 := by unfold winS; rw [if_pos w1]
                    rw [e3]
                    (refine zc ?_; try exact trivial)
                    all_goals exact leCs_refl _
                  · (refine zc ?_; try exact trivial)
                    refine c_dec (fun w2 => ?_) (fun w2 => ?_)
                    · have e3 : winS (s) = 1 := by unfold winS; rw [if_neg w1, if_pos w2]
                      rw [e3]
                      (refine zc ?_; try exact trivial)
                      all_goals exact leCs_refl _
                    · have e3 : winS (s) = 2 := by unfold winS; rw [if_neg w1, if_neg w2]
                      rw [e3]
                      (refine zc ?_; try exact trivial)
                      all_goals exact leCs_refl _
            · rw [if_pos (show E = 0 by omega)]
              (refine zc ?_; try exact trivial)
              have hover : (M.st).over = false ∨ (M.st).over = true := by cases (M.st).over <;> simp
              cases hk : decide (cap ≤ (M.st).frame + 1)
              · have e2 : endS cap (M.st) = (M.st).wFrame ((M.st).frame + 1) := by unfold endS; rw [if_neg (fun h => (of_decide_eq_false hk) h.1)]
                rw [e2]
                simp (maxSteps := 2000000) (disch := omega) only [go_sem, Nat.reduceAdd, Nat.reduceSub, Nat.reduceMul, Nat.reduceBEq, Nat.reduceEqDiff, Nat.reduceLT, Nat.reduceLeDiff, Nat.reduceDiv, reduceIte, reduceCtorEq, hk]
                all_goals exact leCs_refl _
              · cases hq : (!(M.st).over)
                · have e2 : endS cap (M.st) = (M.st).wFrame ((M.st).frame + 1) := by unfold endS; rw [if_neg (fun h => by rw [h.2] at hq; cases hq)]
                  rw [e2]
                  simp (maxSteps := 2000000) (disch := omega) only [go_sem, Nat.reduceAdd, Nat.reduceSub, Nat.reduceMul, Nat.reduceBEq, Nat.reduceEqDiff, Nat.reduceLT, Nat.reduceLeDiff, Nat.reduceDiv, reduceIte, reduceCtorEq, hk, hq]
                  all_goals exact leCs_refl _
                · have hq' : (M.st).over = false := by cases hh : (M.st).over <;> simp_all
                  have e2 : endS cap (M.st) = (((M.st).wFrame ((M.st).frame + 1)).wOver true).wWin (winS (M.st)) := by unfold endS; rw [if_pos ⟨of_decide_eq_true hk, hq'⟩]
                  rw [e2]
                  simp (maxSteps := 2000000) (disch := omega) only [go_sem, Nat.reduceAdd, Nat.reduceSub, Nat.reduceMul, Nat.reduceBEq, Nat.reduceEqDiff, Nat.reduceLT, Nat.reduceLeDiff, Nat.reduceDiv, reduceIte, reduceCtorEq, hk, hq]
                  refine c_dec (fun w1 => ?_) (fun w1 => ?_)
                  · have e3 : winS (M.st) = 0 := by unfold winS; rw [if_pos w1]
                    rw [e3]
                    (refine zc ?_; try exact trivial)
                    all_goals exact leCs_refl _
                  · (refine zc ?_; try exact trivial)
                    refine c_dec (fun w2 => ?_) (fun w2 => ?_)
                    · have e3 : winS (M.st) = 1 := by unfold winS; rw [if_neg w1, if_pos w2]
                      rw [e3]
                      (refine zc ?_; try exact trivial)
                      all_goals exact leCs_refl _
                    · have e3 : winS (M.st) = 2 := by unfold winS; rw [if_neg w1, if_neg w2]
                      rw [e3]
                      (refine zc ?_; try exact trivial)
                      all_goals exact leCs_refl _
          · have e : stepP code cap fuel s i0 i1 = (stz 0 0, 12) := by unfold stepP; rw [if_neg (by rw [hg]; simp), if_neg (by rintro (h | h); rw [hi] at h; cases h; exact hz' h), if_pos (.inr (of_decide_eq_true hf))]
            rw [e]
            simp (maxSteps := 2000000) (disch := omega) only [go_sem, Nat.reduceAdd, Nat.reduceSub, Nat.reduceMul, Nat.reduceBEq, Nat.reduceEqDiff, Nat.reduceLT, Nat.reduceLeDiff, Nat.reduceDiv, reduceIte, reduceCtorEq, hf]
            all_goals exact leCs_refl _
        · have e : stepP code cap fuel s i0 i1 = (stz 0 0, 12) := by unfold stepP; rw [if_neg (by rw [hg]; simp), if_neg (by rintro (h | h); rw [hi] at h; cases h; exact hz' h), if_pos (.inl ho)]
          rw [e]
          simp (maxSteps := 2000000) (disch := omega) only [go_sem, Nat.reduceAdd, Nat.reduceSub, Nat.reduceMul, Nat.reduceBEq, Nat.reduceEqDiff, Nat.reduceLT, Nat.reduceLeDiff, Nat.reduceDiv, reduceIte, reduceCtorEq, ho]
          all_goals exact leCs_refl _
      · have e : stepP code cap fuel s i0 i1 = (stz 0 0, 1) := by unfold stepP; rw [if_neg (by rw [hg]; simp), if_pos (.inr (of_decide_eq_true hz))]
        rw [e]
        simp (maxSteps := 2000000) (disch := omega) only [go_sem, Nat.reduceAdd, Nat.reduceSub, Nat.reduceMul, Nat.reduceBEq, Nat.reduceEqDiff, Nat.reduceLT, Nat.reduceLeDiff, Nat.reduceDiv, reduceIte, reduceCtorEq, hz]
        all_goals exact leCs_refl _
  · have e : stepP code cap fuel s i0 i1 = (stz 0 0, gameP code cap fuel) := by unfold stepP; rw [if_pos hg]
    rw [e]
    have dn : decide (gameP code cap fuel ≠ 0) = true := decide_eq_true hg
    simp (maxSteps := 2000000) (disch := omega) only [go_sem, Nat.reduceAdd, Nat.reduceSub, Nat.reduceMul, Nat.reduceBEq, Nat.reduceEqDiff, Nat.reduceLT, Nat.reduceLeDiff, Nat.reduceDiv, reduceIte, reduceCtorEq, dn]
    all_goals exact leCs_refl _
end Go.Proofs.Ytamcjecgkfmjkaa

/- Chapter 18: an input, and the frames that it brings. (written by gen18m.py) -/
open Go Go.RowKit
namespace Go.Proofs.Ytamcjecgkfmjkaa
set_option linter.unusedSimpArgs false
set_option linter.unusedVariables false
@[go_sem 1200] theorem prs_app {l : List (UInt16 × UInt16)} {a b : UInt16} : prs l ++ [.val (.int .u16 (U16 a)), .val (.int .u16 (U16 b))] = prs (l ++ [(a, b)]) := by
  simp [prs, prD, fU]
/-- the frames of which both did something -/
def cuP (code : List (Int × Int)) (cap fuel : Int) (a b : List UInt16) : Nat → List (UInt16 × UInt16) → Sta → List (UInt16 × UInt16) × Sta
  | 0, ps, st => (ps, st)
  | f + 1, ps, st => if st.over = false ∧ ps.length < min a.length b.length then
      cuP code cap fuel a b f (ps ++ [(a.getD ps.length 0, b.getD ps.length 0)]) (stepP code cap fuel st (a.getD ps.length 0) (b.getD ps.length 0)).1 else (ps, st)
def goP (c : Ct) : Ct := { c with pairs := (cuP c.code c.cap c.fuel c.in0 c.in1 (min c.in0.length c.in1.length - c.pairs.length) c.pairs c.st).1, st := (cuP c.code c.cap c.fuel c.in0 c.in1 (min c.in0.length c.in1.length - c.pairs.length) c.pairs c.st).2 }
def inputP (c : Ct) (e : Ev) : Ct := goP (inputP0 c e)
set_option maxRecDepth 20000 in
set_option maxHeartbeats 16000000 in
theorem input_h (c : Ct) (e : Ev) (h0 : c.in0.length ≤ 1000000) (h1 : c.in1.length ≤ 1000000) (hpl : c.pairs.length ≤ 1000000) (hs : 0 ≤ seatP c e.player) (hg : gameP c.code c.cap c.fuel = 0) (hB : ∀ x ∈ c.st.cells, B32 x) :
    Holds Try.prog 43 [.ptr (.arg 0) 0, .ev e] [(.arg 0, ctB (.arg 0) c)] (fun r h' => r = .tup [] ∧ h' = [(.arg 0, ctB (.arg 0) (inputP c e))]) := by
  have hcl := game_len hg
  refine holds_of_awp Try.func43 rfl (by decide +kernel) mixed Try.ntmps43 Try.results43 ?_
  simp only [entrySt, List.map_cons, List.map_nil, List.length_cons, List.length_nil, Nat.reduceAdd, Nat.reduceSub, List.replicate_succ, List.replicate_zero, List.cons_append, List.nil_append]
  (refine zs ?_; try exact trivial)
  refine a_call [.arg 0] (seat_h c e.player) (ok1 rfl) ?_ ?_ ?_
  · (refine zs ?_; try exact trivial)
  · (refine zs ?_; try exact trivial)
  rintro _ _ ⟨rfl, rfl⟩
  rcases seat_cases c e.player hs with q | q
  · have ei : inputP0 c e = { c with in0 := c.in0 ++ [e.inp] } := by unfold inputP0; rw [if_pos q]
    have hF : inputP c e = goP { c with in0 := c.in0 ++ [e.inp] } := by unfold inputP; rw [ei]
    rw [hF]
    clear hF ei
    obtain ⟨code, cap, fuel, p0, p1, seed, l0, l1, over, winner, why, opn, in0, in1, pairs, st, events⟩ := c
    simp only at h0 h1 hpl hg hB hcl
    rw [q]
    obtain ⟨a, ha⟩ : ∃ a, a = in0 ++ [e.inp] := ⟨_, rfl⟩
    obtain ⟨b, hb⟩ : ∃ b, b = in1 := ⟨_, rfl⟩
    have la : a.length ≤ 1000001 := by rw [ha]; simp; omega
    have lb : b.length ≤ 1000001 := by rw [hb]; omega
    obtain ⟨ps', st', hcu⟩ : ∃ ps' st', cuP code cap fuel a b (min a.length b.length - pairs.length) pairs st = (ps', st') := ⟨_, _, rfl⟩
    have hgo : goP ⟨code, cap, fuel, p0, p1, seed, l0, l1, over, winner, why, opn, in0 ++ [e.inp], in1, pairs, st, events⟩ = ⟨code, cap, fuel, p0, p1, seed, l0, l1, over, winner, why, opn, a, b, ps', st', events⟩ := by
      unfold goP
      simp only [← ha, ← hb, hcu]
    rw [hgo]
    (refine zc ?_; try exact trivial)
    refine a_drawC (⟨[V.cell (.ptr (.arg 0) 0), .undef, .undef, V.cell (.ptr (.loc [3]) 0), V.int .i64 0, .undef, .undef, .undef, .undef, .undef, .undef, .undef, .undef, .undef, .undef, .undef, .undef, .undef, .undef, .undef, .undef, .undef, .undef, .undef, .undef, .undef, .undef, .undef, .undef, .undef, .undef, .undef, .undef, .undef, .undef, .undef, .undef, .undef, .undef, .undef, .undef, .undef, .undef, .undef, .undef, .undef, .undef, .undef, .undef, .undef, .undef, .undef, .undef, .undef, .undef, .undef, .undef, .undef, .undef, .undef, .undef, .undef, .undef, .undef, .undef, .undef, .undef, .undef, .undef, .undef, .undef, .undef, .undef, .undef, .undef, .undef, .undef, .undef, .undef, .undef, .undef, .undef, .undef, .undef, .undef, .undef, .undef, .undef, .undef, .undef, .undef, .undef, .undef, .undef, .undef, .undef, .undef, .undef, .undef, .undef, .undef, .undef, .undef, .undef, .undef, .undef, .undef, .undef, .undef, .undef, .undef], [(.loc [3], evC e), (.arg 0, ctC (.lst .no none 2 (ins code)) cap fuel p0 p1 seed l0 l1 (in0.length : Int) (in1.length : Int) over winner why opn (.lst (.tag (.cell (.arg 0) 14)) none 1 (ls fU (a))) (.lst (.tag (.cell (.arg 0) 15)) none 1 (ls fU (b))) (.lst (.tag (.cell (.arg 0) 16)) none 2 (prs (pairs))) (st) (.lst (.tag (.cell (.arg 0) 37)) none 6 (evs events)))]⟩) (.take 0 (.take 1 (.take 2 (.take 3 (.take 4 (.take 5 (.take 6 (.take 8 (.take 12 (.take 13 (.both [(7, .both [(9, .both [(10, .both [(11, .take 14 (.both [(15, .done)]))])])]), (9, .both [(7, .both [(10, .both [(11, .take 14 (.both [(15, .done)]))])]), (10, .both [(7, .both [(11, .take 14 (.both [(15, .done)]))])])])]))))))))))) (by kernel_rfl) (by kernel_rfl) ?_ ?_
    · (refine zc ?_; try exact trivial)
      all_goals (try rw [ha]); all_goals (try rw [hb]); all_goals (try (refine zc ?_; try exact trivial)); all_goals (try omega)
    · (refine zc ?_; try exact trivial)
      refine a_drawC (⟨[V.cell (.ptr (.arg 0) 0), .undef, .undef, V.cell (.ptr (.loc [3]) 0), V.int .i64 0, .undef, .undef, .undef, .undef, .undef, .undef, .undef, .undef, .undef, .undef, .undef, .undef, .undef, .undef, .undef, .undef, .undef, .undef, .undef, .undef, .undef, .undef, .undef, .undef, .undef, .undef, .undef, .undef, .undef, .undef, .undef, .undef, .undef, .undef, .undef, .undef, .undef, .undef, .undef, .undef, .undef, .undef, .undef, .undef, .undef, .undef, .undef, .undef, .undef, .undef, .undef, .undef, .undef, .undef, .undef, .undef, .undef, .undef, .undef, .undef, .undef, .undef, .undef, .undef, .undef, .undef, .undef, .undef, .undef, .undef, .undef, .undef, .undef, .undef, .undef, .undef, .undef, .undef, .undef, .undef, .undef, .undef, .undef, .undef, .undef, .undef, .undef, .undef, .undef, .undef, .undef, .undef, .undef, .undef, .undef, .undef, .undef, .undef, .undef, .undef, .undef, .undef, .undef, .undef, .undef, .undef], [(.loc [3], evC e), (.arg 0, ctC (.lst .no none 2 (ins code)) cap fuel p0 p1 seed l0 l1 (a.length : Int) (b.length : Int) over winner why opn (.lst (.tag (.cell (.arg 0) 14)) none 1 (ls fU (a))) (.lst (.tag (.cell (.arg 0) 15)) none 1 (ls fU (b))) (.lst (.tag (.cell (.arg 0) 16)) none 2 (prs (pairs))) (st) (.lst (.tag (.cell (.arg 0) 37)) none 6 (evs events)))]⟩) (.take 0 (.take 1 (.take 2 (.take 3 (.take 4 (.take 5 (.take 8 (.take 9 (.take 10 (.both [(6, .take 7 (.take 11 (.both [(12, .done)])))])))))))))) (by kernel_rfl) (by kernel_rfl) ?_ ?_
      · (refine zc ?_; try exact trivial)
        all_goals (try rw [ha]); all_goals (try rw [hb]); all_goals (try (refine zc ?_; try exact trivial)); all_goals (try omega)
      · (refine zc ?_; try exact trivial)
        refine a_loopk (fun x : List (UInt16 × UInt16) × Sta => ⟨[V.cell (.ptr (.arg 0) 0), .undef, .undef, V.cell (.ptr (.loc [3]) 0), V.int .i64 0, V.int .i64 (x.1.length : Int), .undef, .undef, .undef, .undef, .undef, .undef, .undef, .undef, .undef, .undef, .undef, .undef, .undef, .undef, .undef, .undef, .undef, .undef, .undef, .undef, .undef, .undef, .undef, .undef, .undef, .undef, .undef, .undef, .undef, .undef, .undef, .undef, .undef, .undef, .undef, .undef, .undef, .undef, .undef, .undef, .undef, .undef, .undef, .undef, .undef, .undef, .undef, .undef, .undef, .undef, .undef, .undef, .undef, .undef, .undef, .undef, .undef, .undef, .undef, .undef, .undef, .undef, .undef, .undef, .undef, .undef, .undef, .undef, .undef, .undef, .undef, .undef, .undef, .undef, .undef, .undef, .undef, .undef, .undef, .undef, .undef, .undef, .undef, .undef, .undef, .undef, .undef, .undef, .undef, .undef, .undef, .undef, .undef, .undef, .undef, .undef, .undef, .undef, .undef, .undef, .undef, .undef, .undef, .undef, .undef], [(.loc [3], evC e), (.arg 0, ctC (.lst .no none 2 (ins code)) cap fuel p0 p1 seed l0 l1 (a.length : Int) (b.length : Int) over winner why opn (.lst (.tag (.cell (.arg 0) 14)) none 1 (ls fU (a))) (.lst (.tag (.cell (.arg 0) 15)) none 1 (ls fU (b))) (.lst (.tag (.cell (.arg 0) 16)) none 2 (prs (x.1))) (x.2) (.lst (.tag (.cell (.arg 0) 37)) none 6 (evs events)))]⟩) (fun x => x.1.length ≤ 1000001 ∧ (∀ y ∈ x.2.cells, B32 y) ∧ cuP code cap fuel a b (min a.length b.length - x.1.length) x.1 x.2 = (ps', st')) (fun x => min a.length b.length - x.1.length) (pairs, st) ⟨by show pairs.length ≤ 1000001; omega, hB, hcu⟩ ?_ ?_
        · try (refine zs ?_; try exact trivial)
        · rintro ⟨ps, sx⟩ ⟨hp1, hp2, hp3⟩
          simp only at hp1 hp2 hp3 ⊢
          (refine zs ?_; try exact trivial)
          refine a_quiet (by kernel_rfl) (by kernel_rfl) (by kernel_rfl) ?_
          cases so : (!sx.over)
          · have so' : sx.over = true := by cases hh : sx.over <;> simp_all
            have e0 : cuP code cap fuel a b (min a.length b.length - ps.length) ps sx = (ps, sx) := by
              cases hm : min a.length b.length - ps.length with
              | zero => rfl
              | succ n => unfold cuP; rw [if_neg (by rw [so']; simp)]
            rw [e0] at hp3
            cases hp3
            simp (maxSteps := 2000000) (disch := omega) only [go_sem, Nat.reduceAdd, Nat.reduceSub, Nat.reduceMul, Nat.reduceBEq, Nat.reduceEqDiff, Nat.reduceLT, Nat.reduceLeDiff, Nat.reduceDiv, reduceIte, reduceCtorEq, so]
            all_goals exact ct_le ⟨leC_refl _, rfl, rfl, rfl, rfl, rfl, rfl, rfl, rfl, rfl, rfl, rfl, rfl, rfl, leC_refl _, leC_refl _, leC_refl _, rfl, leC_refl _⟩
          · simp (maxSteps := 2000000) (disch := omega) only [go_sem, Nat.reduceAdd, Nat.reduceSub, Nat.reduceMul, Nat.reduceBEq, Nat.reduceEqDiff, Nat.reduceLT, Nat.reduceLeDiff, Nat.reduceDiv, reduceIte, reduceCtorEq, so]
            have so' : sx.over = false := by cases hh : sx.over <;> simp_all
            refine c_dec (fun g => ?_) (fun g => ?_)
            · have hlt : ps.length < min a.length b.length := by omega
              have hpa : ps.length < a.length := by omega
              have hpb : ps.length < b.length := by omega
              obtain ⟨m, hm⟩ : ∃ m, min a.length b.length - ps.length = m + 1 := ⟨min a.length b.length - ps.length - 1, by omega⟩
              rw [hm] at hp3
              unfold cuP at hp3
              rw [if_pos ⟨so', hlt⟩] at hp3
              (refine zc ?_; try exact trivial)
              refine a_drawC (⟨[V.cell (.ptr (.arg 0) 0), .undef, .undef, V.cell (.ptr (.loc [3]) 0), V.int .i64 0, V.int .i64 (ps.length : Int), V.cell (.ptr (.loc [6]) 0), .undef, .undef, .undef, .undef, .undef, .undef, .undef, .undef, .undef, .undef, .undef, .undef, .undef, .undef, .undef, .undef, .undef, .undef, .undef, .undef, .undef, .undef, .undef, .undef, .undef, .undef, .undef, .undef, .undef, .undef, .undef, .undef, .undef, .undef, .undef, .undef, .undef, .undef, .undef, .undef, .undef, .undef, .undef, .undef, .undef, .undef, .undef, .undef, .undef, .undef, .undef, .undef, .undef, .undef, .undef, .undef, .undef, .undef, .undef, .undef, .undef, .undef, .undef, .undef, .undef, .undef, .undef, .undef, .undef, .undef, .undef, .undef, .undef, .undef, .undef, .undef, .undef, .undef, .undef, .undef, .undef, .undef, .undef, .undef, .undef, .undef, .undef, .undef, .undef, .undef, .undef, .undef, .undef, .undef, .undef, .undef, .undef, .undef, .undef, .undef, .undef, .undef, .undef, .undef], [(.loc [6], [.val (.int .u16 (U16 (a.getD ps.length 0))), .val (.int .u16 (U16 (b.getD ps.length 0)))]), (.loc [3], evC e), (.arg 0, ctC (.lst .no none 2 (ins code)) cap fuel p0 p1 seed l0 l1 (a.length : Int) (b.length : Int) over winner why opn (.lst (.tag (.cell (.arg 0) 14)) none 1 (ls fU (a))) (.lst (.tag (.cell (.arg 0) 15)) none 1 (ls fU (b))) (.lst (.tag (.cell (.arg 0) 16)) none 2 (prs (ps))) (sx) (.lst (.tag (.cell (.arg 0) 37)) none 6 (evs events)))]⟩) (.take 0 (.take 1 (.take 2 (.take 3 (.take 5 (.take 8 (.take 9 (.take 10 (.take 11 (.take 13 (.both [(4, .take 6 (.both [(7, .both [(12, .take 14 (.both [(15, .both [(16, .both [(17, .both [(18, .done)])]), (17, .both [(16, .both [(18, .done)])])]), (17, .both [(15, .both [(16, .both [(18, .done)])])])])), (17, .both [(12, .take 14 (.both [(15, .both [(16, .both [(18, .done)])])]))])]), (12, .take 14 (.both [(7, .both [(15, .both [(16, .both [(17, .both [(18, .done)])]), (17, .both [(16, .both [(18, .done)])])]), (17, .both [(15, .both [(16, .both [(18, .done)])])])]), (15, .both [(7, .both [(16, .both [(17, .both [(18, .done)])]), (17, .both [(16, .both [(18, .done)])])]), (17, .both [(7, .both [(16, .both [(18, .done)])])])]), (17, .both [(7, .both [(15, .both [(16, .both [(18, .done)])])]), (15, .both [(7, .both [(16, .both [(18, .done)])])])])])), (17, .both [(7, .both [(12, .take 14 (.both [(15, .both [(16, .both [(18, .done)])])]))]), (12, .take 14 (.both [(7, .both [(15, .both [(16, .both [(18, .done)])])]), (15, .both [(7, .both [(16, .both [(18, .done)])])])]))])])), (12, .take 14 (.both [(4, .take 6 (.both [(7, .both [(15, .both [(16, .both [(17, .both [(18, .done)])]), (17, .both [(16, .both [(18, .done)])])]), (17, .both [(15, .both [(16, .both [(18, .done)])])])]), (15, .both [(7, .both [(16, .both [(17, .both [(18, .done)])]), (17, .both [(16, .both [(18, .done)])])]), (17, .both [(7, .both [(16, .both [(18, .done)])])])]), (17, .both [(7, .both [(15, .both [(16, .both [(18, .done)])])]), (15, .both [(7, .both [(16, .both [(18, .done)])])])])])), (15, .both [(4, .take 6 (.both [(7, .both [(16, .both [(17, .both [(18, .done)])]), (17, .both [(16, .both [(18, .done)])])]), (17, .both [(7, .both [(16, .both [(18, .done)])])])])), (17, .both [(4, .take 6 (.both [(7, .both [(16, .both [(18, .done)])])]))])]), (17, .both [(4, .take 6 (.both [(7, .both [(15, .both [(16, .both [(18, .done)])])]), (15, .both [(7, .both [(16, .both [(18, .done)])])])])), (15, .both [(4, .take 6 (.both [(7, .both [(16, .both [(18, .done)])])]))])])])), (17, .both [(4, .take 6 (.both [(7, .both [(12, .take 14 (.both [(15, .both [(16, .both [(18, .done)])])]))]), (12, .take 14 (.both [(7, .both [(15, .both [(16, .both [(18, .done)])])]), (15, .both [(7, .both [(16, .both [(18, .done)])])])]))])), (12, .take 14 (.both [(4, .take 6 (.both [(7, .both [(15, .both [(16, .both [(18, .done)])])]), (15, .both [(7, .both [(16, .both [(18, .done)])])])])), (15, .both [(4, .take 6 (.both [(7, .both [(16, .both [(18, .done)])])]))])]))])]))))))))))) (by kernel_rfl) (by kernel_rfl) ?_ ?_
              · (refine zc ?_; try exact trivial)
              · (refine zc ?_; try exact trivial)
                refine a_drawC (⟨[V.cell (.ptr (.arg 0) 0), .undef, .undef, V.cell (.ptr (.loc [3]) 0), V.int .i64 0, V.int .i64 (ps.length : Int), V.cell (.ptr (.loc [6]) 0), .undef, .undef, .undef, .undef, .undef, .undef, .undef, .undef, .undef, .undef, .undef, .undef, .undef, .undef, .undef, .undef, .undef, .undef, .undef, .undef, .undef, .undef, .undef, .undef, .undef, .undef, .undef, .undef, .undef, .undef, .undef, .undef, .undef, .undef, .undef, .undef, .undef, .undef, .undef, .undef, .undef, .undef, .undef, .undef, .undef, .undef, .undef, .undef, .undef, .undef, .undef, .undef, .undef, .undef, .undef, .undef, .undef, .undef, .undef, .undef, .undef, .undef, .undef, .undef, .undef, .undef, .undef, .undef, .undef, .undef, .undef, .undef, .undef, .undef, .undef, .undef, .undef, .undef, .undef, .undef, .undef, .undef, .undef, .undef, .undef, .undef, .undef, .undef, .undef, .undef, .undef, .undef, .undef, .undef, .undef, .undef, .undef, .undef, .undef, .undef, .undef, .undef, .undef, .undef], [(.loc [6], [.val (.int .u16 (U16 (a.getD ps.length 0))), .val (.int .u16 (U16 (b.getD ps.length 0)))]), (.loc [3], evC e), (.arg 0, ctC (.lst .no none 2 (ins code)) cap fuel p0 p1 seed l0 l1 (a.length : Int) (b.length : Int) over winner why opn (.lst (.tag (.cell (.arg 0) 14)) none 1 (ls fU (a))) (.lst (.tag (.cell (.arg 0) 15)) none 1 (ls fU (b))) (.lst (.tag (.cell (.arg 0) 16)) none 2 (prs (ps ++ [(a.getD ps.length 0, b.getD ps.length 0)]))) (sx) (.lst (.tag (.cell (.arg 0) 37)) none 6 (evs events)))]⟩) (.take 0 (.take 1 (.take 2 (.take 3 (.both [(4, .both [(5, .both [(6, .both [(7, .take 8 (.take 9 (.both [(10, .done)])))])])]), (5, .both [(4, .both [(6, .both [(7, .take 8 (.take 9 (.both [(10, .done)])))])]), (6, .both [(4, .both [(7, .take 8 (.take 9 (.both [(10, .done)])))])])])]))))) (by kernel_rfl) (by kernel_rfl) ?_ ?_
                · (refine zc ?_; try exact trivial)
                  all_goals omega
                · (refine zc ?_; try exact trivial)
                  refine a_drawC (⟨[V.cell (.ptr (.arg 0) 0), .undef, .undef, V.cell (.ptr (.loc [3]) 0), V.int .i64 0, V.int .i64 (ps.length : Int), V.cell (.ptr (.loc [6]) 0), .undef, .undef, .undef, .undef, .undef, .undef, .undef, .undef, .undef, .undef, .undef, .undef, .undef, .undef, .undef, .undef, .undef, .undef, .undef, .undef, .undef, .undef, .undef, .undef, .undef, .undef, .undef, .undef, .undef, .undef, .undef, .undef, .undef, .undef, .undef, .undef, .undef, .undef, .undef, .undef, .undef, .undef, .undef, .undef, .undef, .undef, .undef, .undef, .undef, .undef, .undef, .undef, .undef, .undef, .undef, .undef, .undef, .undef, .undef, .undef, .undef, .undef, .undef, .undef, .undef, .undef, .undef, .undef, .undef, .undef, .undef, .undef, .undef, .undef, .undef, .undef, .undef, .undef, .undef, .undef, .undef, .undef, .undef, .undef, .undef, .undef, .undef, .undef, .undef, .undef, .undef, .undef, .undef, .undef, .undef, .undef, .undef, .undef, .undef, .undef, .undef, .undef, .undef, .undef], [(.loc [6], [.val (.int .u16 (U16 (a.getD ps.length 0))), .val (.int .u16 (U16 (b.getD ps.length 0)))]), (.loc [3], evC e), (.arg 0, ctC (.lst .no none 2 (ins code)) cap fuel p0 p1 seed l0 l1 (a.length : Int) (b.length : Int) over winner why opn (.lst (.tag (.cell (.arg 0) 14)) none 1 (ls fU (a))) (.lst (.tag (.cell (.arg 0) 15)) none 1 (ls fU (b))) (.lst (.tag (.cell (.arg 0) 16)) none 2 (prs (ps ++ [(a.getD ps.length 0, b.getD ps.length 0)]))) ((stepP code cap fuel sx (a.getD ps.length 0) (b.getD ps.length 0)).1) (.lst (.tag (.cell (.arg 0) 37)) none 6 (evs events)))]⟩) (.take 0 (.take 1 (.take 2 (.take 3 (.take 5 (.take 6 (.take 7 (.both [(4, .both [(8, .both [(9, .both [(10, .take 11 (.take 12 (.take 13 (.take 14 (.take 15 (.both [(16, .done)]))))))])]), (9, .both [(8, .both [(10, .take 11 (.take 12 (.take 13 (.take 14 (.take 15 (.both [(16, .done)]))))))])])]), (8, .both [(4, .both [(9, .both [(10, .take 11 (.take 12 (.take 13 (.take 14 (.take 15 (.both [(16, .done)]))))))])]), (9, .both [(4, .both [(10, .take 11 (.take 12 (.take 13 (.take 14 (.take 15 (.both [(16, .done)]))))))])])]), (9, .both [(4, .both [(8, .both [(10, .take 11 (.take 12 (.take 13 (.take 14 (.take 15 (.both [(16, .done)]))))))])]), (8, .both [(4, .both [(10, .take 11 (.take 12 (.take 13 (.take 14 (.take 15 (.both [(16, .done)]))))))])])])])))))))) (by kernel_rfl) (by kernel_rfl) ?_ ?_
                  · (refine zc ?_; try exact trivial)
                    have hst := step_h code cap fuel sx (a.getD ps.length 0) (b.getD ps.length 0) (by omega) hp2
                    refine a_call [] hst ok0 ?_ ?_ ?_
                    · (refine zs ?_; try exact trivial)
                    · (refine zs ?_; try exact trivial)
                    rintro _ _ ⟨rfl, rfl⟩
                    (refine zc ?_; try exact trivial)
                    all_goals exact leCs_refl _
                  · (refine zc ?_; try exact trivial)
                    refine ⟨(ps ++ [(a.getD ps.length 0, b.getD ps.length 0)], (stepP code cap fuel sx (a.getD ps.length 0) (b.getD ps.length 0)).1), ?_, ⟨?_, ?_, ?_⟩, ?_⟩
                    · simp; omega
                    · simp; omega
                    · exact step_B32 _ _ _ _ _ _ hp2
                    · simp only [List.length_append, List.length_cons, List.length_nil]
                      rw [show min a.length b.length - (ps.length + (0 + 1)) = m by omega]
                      exact hp3
                    · try (refine zs ?_; try exact trivial)
            · have e0 : cuP code cap fuel a b (min a.length b.length - ps.length) ps sx = (ps, sx) := by
                rw [show min a.length b.length - ps.length = 0 by omega]; rfl
              rw [e0] at hp3
              cases hp3
              (refine zs ?_; try exact trivial)
              all_goals exact ct_le ⟨leC_refl _, rfl, rfl, rfl, rfl, rfl, rfl, rfl, rfl, rfl, rfl, rfl, rfl, rfl, leC_refl _, leC_refl _, leC_refl _, rfl, leC_refl _⟩
  · have ei : inputP0 c e = { c with in1 := c.in1 ++ [e.inp] } := by unfold inputP0; rw [if_neg (show ¬ seatP c e.player = 0 by omega)]
    have hF : inputP c e = goP { c with in1 := c.in1 ++ [e.inp] } := by unfold inputP; rw [ei]
    rw [hF]
    clear hF ei
    obtain ⟨code, cap, fuel, p0, p1, seed, l0, l1, over, winner, why, opn, in0, in1, pairs, st, events⟩ := c
    simp only at h0 h1 hpl hg hB hcl
    rw [q]
    obtain ⟨a, ha⟩ : ∃ a, a = in0 := ⟨_, rfl⟩
    obtain ⟨b, hb⟩ : ∃ b, b = in1 ++ [e.inp] := ⟨_, rfl⟩
    have la : a.length ≤ 1000001 := by rw [ha]; omega
    have lb : b.length ≤ 1000001 := by rw [hb]; simp; omega
    obtain ⟨ps', st', hcu⟩ : ∃ ps' st', cuP code cap fuel a b (min a.length b.length - pairs.length) pairs st = (ps', st') := ⟨_, _, rfl⟩
    have hgo : goP ⟨code, cap, fuel, p0, p1, seed, l0, l1, over, winner, why, opn, in0, in1 ++ [e.inp], pairs, st, events⟩ = ⟨code, cap, fuel, p0, p1, seed, l0, l1, over, winner, why, opn, a, b, ps', st', events⟩ := by
      unfold goP
      simp only [← ha, ← hb, hcu]
    rw [hgo]
    (refine zc ?_; try exact trivial)
    refine a_drawC (⟨[V.cell (.ptr (.arg 0) 0), .undef, .undef, V.cell (.ptr (.loc [3]) 0), V.int .i64 1, .undef, .undef, .undef, .undef, .undef, .undef, .undef, .undef, .undef, .undef, .undef, .undef, .undef, .undef, .undef, .undef, .undef, .undef, .undef, .undef, .undef, .undef, .undef, .undef, .undef, .undef, .undef, .undef, .undef, .undef, .undef, .undef, .undef, .undef, .undef, .undef, .undef, .undef, .undef, .undef, .undef, .undef, .undef, .undef, .undef, .undef, .undef, .undef, .undef, .undef, .undef, .undef, .undef, .undef, .undef, .undef, .undef, .undef, .undef, .undef, .undef, .undef, .undef, .undef, .undef, .undef, .undef, .undef, .undef, .undef, .undef, .undef, .undef, .undef, .undef, .undef, .undef, .undef, .undef, .undef, .undef, .undef, .undef, .undef, .undef, .undef, .undef, .undef, .undef, .undef, .undef, .undef, .undef, .undef, .undef, .undef, .undef, .undef, .undef, .undef, .undef, .undef, .undef, .undef, .undef, .undef], [(.loc [3], evC e), (.arg 0, ctC (.lst .no none 2 (ins code)) cap fuel p0 p1 seed l0 l1 (in0.length : Int) (in1.length : Int) over winner why opn (.lst (.tag (.cell (.arg 0) 14)) none 1 (ls fU (a))) (.lst (.tag (.cell (.arg 0) 15)) none 1 (ls fU (b))) (.lst (.tag (.cell (.arg 0) 16)) none 2 (prs (pairs))) (st) (.lst (.tag (.cell (.arg 0) 37)) none 6 (evs events)))]⟩) (.take 0 (.take 1 (.take 2 (.take 3 (.take 4 (.take 5 (.take 6 (.take 8 (.take 12 (.take 13 (.both [(7, .both [(9, .both [(10, .both [(11, .take 14 (.both [(15, .done)]))])])]), (9, .both [(7, .both [(10, .both [(11, .take 14 (.both [(15, .done)]))])]), (10, .both [(7, .both [(11, .take 14 (.both [(15, .done)]))])])])]))))))))))) (by kernel_rfl) (by kernel_rfl) ?_ ?_
    · (refine zc ?_; try exact trivial)
      all_goals (try rw [ha]); all_goals (try rw [hb]); all_goals (try (refine zc ?_; try exact trivial)); all_goals (try omega)
    · (refine zc ?_; try exact trivial)
      refine a_drawC (⟨[V.cell (.ptr (.arg 0) 0), .undef, .undef, V.cell (.ptr (.loc [3]) 0), V.int .i64 1, .undef, .undef, .undef, .undef, .undef, .undef, .undef, .undef, .undef, .undef, .undef, .undef, .undef, .undef, .undef, .undef, .undef, .undef, .undef, .undef, .undef, .undef, .undef, .undef, .undef, .undef, .undef, .undef, .undef, .undef, .undef, .undef, .undef, .undef, .undef, .undef, .undef, .undef, .undef, .undef, .undef, .undef, .undef, .undef, .undef, .undef, .undef, .undef, .undef, .undef, .undef, .undef, .undef, .undef, .undef, .undef, .undef, .undef, .undef, .undef, .undef, .undef, .undef, .undef, .undef, .undef, .undef, .undef, .undef, .undef, .undef, .undef, .undef, .undef, .undef, .undef, .undef, .undef, .undef, .undef, .undef, .undef, .undef, .undef, .undef, .undef, .undef, .undef, .undef, .undef, .undef, .undef, .undef, .undef, .undef, .undef, .undef, .undef, .undef, .undef, .undef, .undef, .undef, .undef, .undef, .undef], [(.loc [3], evC e), (.arg 0, ctC (.lst .no none 2 (ins code)) cap fuel p0 p1 seed l0 l1 (a.length : Int) (b.length : Int) over winner why opn (.lst (.tag (.cell (.arg 0) 14)) none 1 (ls fU (a))) (.lst (.tag (.cell (.arg 0) 15)) none 1 (ls fU (b))) (.lst (.tag (.cell (.arg 0) 16)) none 2 (prs (pairs))) (st) (.lst (.tag (.cell (.arg 0) 37)) none 6 (evs events)))]⟩) (.take 0 (.take 1 (.take 2 (.take 3 (.take 4 (.take 5 (.take 8 (.take 9 (.take 10 (.both [(6, .take 7 (.take 11 (.both [(12, .done)])))])))))))))) (by kernel_rfl) (by kernel_rfl) ?_ ?_
      · (refine zc ?_; try exact trivial)
        all_goals (try rw [ha]); all_goals (try rw [hb]); all_goals (try (refine zc ?_; try exact trivial)); all_goals (try omega)
      · (refine zc ?_; try exact trivial)
        refine a_loopk (fun x : List (UInt16 × UInt16) × Sta => ⟨[V.cell (.ptr (.arg 0) 0), .undef, .undef, V.cell (.ptr (.loc [3]) 0), V.int .i64 1, V.int .i64 (x.1.length : Int), .undef, .undef, .undef, .undef, .undef, .undef, .undef, .undef, .undef, .undef, .undef, .undef, .undef, .undef, .undef, .undef, .undef, .undef, .undef, .undef, .undef, .undef, .undef, .undef, .undef, .undef, .undef, .undef, .undef, .undef, .undef, .undef, .undef, .undef, .undef, .undef, .undef, .undef, .undef, .undef, .undef, .undef, .undef, .undef, .undef, .undef, .undef, .undef, .undef, .undef, .undef, .undef, .undef, .undef, .undef, .undef, .undef, .undef, .undef, .undef, .undef, .undef, .undef, .undef, .undef, .undef, .undef, .undef, .undef, .undef, .undef, .undef, .undef, .undef, .undef, .undef, .undef, .undef, .undef, .undef, .undef, .undef, .undef, .undef, .undef, .undef, .undef, .undef, .undef, .undef, .undef, .undef, .undef, .undef, .undef, .undef, .undef, .undef, .undef, .undef, .undef, .undef, .undef, .undef, .undef], [(.loc [3], evC e), (.arg 0, ctC (.lst .no none 2 (ins code)) cap fuel p0 p1 seed l0 l1 (a.length : Int) (b.length : Int) over winner why opn (.lst (.tag (.cell (.arg 0) 14)) none 1 (ls fU (a))) (.lst (.tag (.cell (.arg 0) 15)) none 1 (ls fU (b))) (.lst (.tag (.cell (.arg 0) 16)) none 2 (prs (x.1))) (x.2) (.lst (.tag (.cell (.arg 0) 37)) none 6 (evs events)))]⟩) (fun x => x.1.length ≤ 1000001 ∧ (∀ y ∈ x.2.cells, B32 y) ∧ cuP code cap fuel a b (min a.length b.length - x.1.length) x.1 x.2 = (ps', st')) (fun x => min a.length b.length - x.1.length) (pairs, st) ⟨by show pairs.length ≤ 1000001; omega, hB, hcu⟩ ?_ ?_
        · try (refine zs ?_; try exact trivial)
        · rintro ⟨ps, sx⟩ ⟨hp1, hp2, hp3⟩
          simp only at hp1 hp2 hp3 ⊢
          (refine zs ?_; try exact trivial)
          refine a_quiet (by kernel_rfl) (by kernel_rfl) (by kernel_rfl) ?_
          cases so : (!sx.over)
          · have so' : sx.over = true := by cases hh : sx.over <;> simp_all
            have e0 : cuP code cap fuel a b (min a.length b.length - ps.length) ps sx = (ps, sx) := by
              cases hm : min a.length b.length - ps.length with
              | zero => rfl
              | succ n => unfold cuP; rw [if_neg (by rw [so']; simp)]
            rw [e0] at hp3
            cases hp3
            simp (maxSteps := 2000000) (disch := omega) only [go_sem, Nat.reduceAdd, Nat.reduceSub, Nat.reduceMul, Nat.reduceBEq, Nat.reduceEqDiff, Nat.reduceLT, Nat.reduceLeDiff, Nat.reduceDiv, reduceIte, reduceCtorEq, so]
            all_goals exact ct_le ⟨leC_refl _, rfl, rfl, rfl, rfl, rfl, rfl, rfl, rfl, rfl, rfl, rfl, rfl, rfl, leC_refl _, leC_refl _, leC_refl _, rfl, leC_refl _⟩
          · simp (maxSteps := 2000000) (disch := omega) only [go_sem, Nat.reduceAdd, Nat.reduceSub, Nat.reduceMul, Nat.reduceBEq, Nat.reduceEqDiff, Nat.reduceLT, Nat.reduceLeDiff, Nat.reduceDiv, reduceIte, reduceCtorEq, so]
            have so' : sx.over = false := by cases hh : sx.over <;> simp_all
            refine c_dec (fun g => ?_) (fun g => ?_)
            · have hlt : ps.length < min a.length b.length := by omega
              have hpa : ps.length < a.length := by omega
              have hpb : ps.length < b.length := by omega
              obtain ⟨m, hm⟩ : ∃ m, min a.length b.length - ps.length = m + 1 := ⟨min a.length b.length - ps.length - 1, by omega⟩
              rw [hm] at hp3
              unfold cuP at hp3
              rw [if_pos ⟨so', hlt⟩] at hp3
              (refine zc ?_; try exact trivial)
              refine a_drawC (⟨[V.cell (.ptr (.arg 0) 0), .undef, .undef, V.cell (.ptr (.loc [3]) 0), V.int .i64 1, V.int .i64 (ps.length : Int), V.cell (.ptr (.loc [6]) 0), .undef, .undef, .undef, .undef, .undef, .undef, .undef, .undef, .undef, .undef, .undef, .undef, .undef, .undef, .undef, .undef, .undef, .undef, .undef, .undef, .undef, .undef, .undef, .undef, .undef, .undef, .undef, .undef, .undef, .undef, .undef, .undef, .undef, .undef, .undef, .undef, .undef, .undef, .undef, .undef, .undef, .undef, .undef, .undef, .undef, .undef, .undef, .undef, .undef, .undef, .undef, .undef, .undef, .undef, .undef, .undef, .undef, .undef, .undef, .undef, .undef, .undef, .undef, .undef, .undef, .undef, .undef, .undef, .undef, .undef, .undef, .undef, .undef, .undef, .undef, .undef, .undef, .undef, .undef, .undef, .undef, .undef, .undef, .undef, .undef, .undef, .undef, .undef, .undef, .undef, .undef, .undef, .undef, .undef, .undef, .undef, .undef, .undef, .undef, .undef, .undef, .undef, .undef, .undef], [(.loc [6], [.val (.int .u16 (U16 (a.getD ps.length 0))), .val (.int .u16 (U16 (b.getD ps.length 0)))]), (.loc [3], evC e), (.arg 0, ctC (.lst .no none 2 (ins code)) cap fuel p0 p1 seed l0 l1 (a.length : Int) (b.length : Int) over winner why opn (.lst (.tag (.cell (.arg 0) 14)) none 1 (ls fU (a))) (.lst (.tag (.cell (.arg 0) 15)) none 1 (ls fU (b))) (.lst (.tag (.cell (.arg 0) 16)) none 2 (prs (ps))) (sx) (.lst (.tag (.cell (.arg 0) 37)) none 6 (evs events)))]⟩) (.take 0 (.take 1 (.take 2 (.take 3 (.take 5 (.take 8 (.take 9 (.take 10 (.take 11 (.take 13 (.both [(4, .take 6 (.both [(7, .both [(12, .take 14 (.both [(15, .both [(16, .both [(17, .both [(18, .done)])]), (17, .both [(16, .both [(18, .done)])])]), (17, .both [(15, .both [(16, .both [(18, .done)])])])])), (17, .both [(12, .take 14 (.both [(15, .both [(16, .both [(18, .done)])])]))])]), (12, .take 14 (.both [(7, .both [(15, .both [(16, .both [(17, .both [(18, .done)])]), (17, .both [(16, .both [(18, .done)])])]), (17, .both [(15, .both [(16, .both [(18, .done)])])])]), (15, .both [(7, .both [(16, .both [(17, .both [(18, .done)])]), (17, .both [(16, .both [(18, .done)])])]), (17, .both [(7, .both [(16, .both [(18, .done)])])])]), (17, .both [(7, .both [(15, .both [(16, .both [(18, .done)])])]), (15, .both [(7, .both [(16, .both [(18, .done)])])])])])), (17, .both [(7, .both [(12, .take 14 (.both [(15, .both [(16, .both [(18, .done)])])]))]), (12, .take 14 (.both [(7, .both [(15, .both [(16, .both [(18, .done)])])]), (15, .both [(7, .both [(16, .both [(18, .done)])])])]))])])), (12, .take 14 (.both [(4, .take 6 (.both [(7, .both [(15, .both [(16, .both [(17, .both [(18, .done)])]), (17, .both [(16, .both [(18, .done)])])]), (17, .both [(15, .both [(16, .both [(18, .done)])])])]), (15, .both [(7, .both [(16, .both [(17, .both [(18, .done)])]), (17, .both [(16, .both [(18, .done)])])]), (17, .both [(7, .both [(16, .both [(18, .done)])])])]), (17, .both [(7, .both [(15, .both [(16, .both [(18, .done)])])]), (15, .both [(7, .both [(16, .both [(18, .done)])])])])])), (15, .both [(4, .take 6 (.both [(7, .both [(16, .both [(17, .both [(18, .done)])]), (17, .both [(16, .both [(18, .done)])])]), (17, .both [(7, .both [(16, .both [(18, .done)])])])])), (17, .both [(4, .take 6 (.both [(7, .both [(16, .both [(18, .done)])])]))])]), (17, .both [(4, .take 6 (.both [(7, .both [(15, .both [(16, .both [(18, .done)])])]), (15, .both [(7, .both [(16, .both [(18, .done)])])])])), (15, .both [(4, .take 6 (.both [(7, .both [(16, .both [(18, .done)])])]))])])])), (17, .both [(4, .take 6 (.both [(7, .both [(12, .take 14 (.both [(15, .both [(16, .both [(18, .done)])])]))]), (12, .take 14 (.both [(7, .both [(15, .both [(16, .both [(18, .done)])])]), (15, .both [(7, .both [(16, .both [(18, .done)])])])]))])), (12, .take 14 (.both [(4, .take 6 (.both [(7, .both [(15, .both [(16, .both [(18, .done)])])]), (15, .both [(7, .both [(16, .both [(18, .done)])])])])), (15, .both [(4, .take 6 (.both [(7, .both [(16, .both [(18, .done)])])]))])]))])]))))))))))) (by kernel_rfl) (by kernel_rfl) ?_ ?_
              · (refine zc ?_; try exact trivial)
              · (refine zc ?_; try exact trivial)
                refine a_drawC (⟨[V.cell (.ptr (.arg 0) 0), .undef, .undef, V.cell (.ptr (.loc [3]) 0), V.int .i64 1, V.int .i64 (ps.length : Int), V.cell (.ptr (.loc [6]) 0), .undef, .undef, .undef, .undef, .undef, .undef, .undef, .undef, .undef, .undef, .undef, .undef, .undef, .undef, .undef, .undef, .undef, .undef, .undef, .undef, .undef, .undef, .undef, .undef, .undef, .undef, .undef, .undef, .undef, .undef, .undef, .undef, .undef, .undef, .undef, .undef, .undef, .undef, .undef, .undef, .undef, .undef, .undef, .undef, .undef, .undef, .undef, .undef, .undef, .undef, .undef, .undef, .undef, .undef, .undef, .undef, .undef, .undef, .undef, .undef, .undef, .undef, .undef, .undef, .undef, .undef, .undef, .undef, .undef, .undef, .undef, .undef, .undef, .undef, .undef, .undef, .undef, .undef, .undef, .undef, .undef, .undef, .undef, .undef, .undef, .undef, .undef, .undef, .undef, .undef, .undef, .undef, .undef, .undef, .undef, .undef, .undef, .undef, .undef, .undef, .undef, .undef, .undef, .undef], [(.loc [6], [.val (.int .u16 (U16 (a.getD ps.length 0))), .val (.int .u16 (U16 (b.getD ps.length 0)))]), (.loc [3], evC e), (.arg 0, ctC (.lst .no none 2 (ins code)) cap fuel p0 p1 seed l0 l1 (a.length : Int) (b.length : Int) over winner why opn (.lst (.tag (.cell (.arg 0) 14)) none 1 (ls fU (a))) (.lst (.tag (.cell (.arg 0) 15)) none 1 (ls fU (b))) (.lst (.tag (.cell (.arg 0) 16)) none 2 (prs (ps ++ [(a.getD ps.length 0, b.getD ps.length 0)]))) (sx) (.lst (.tag (.cell (.arg 0) 37)) none 6 (evs events)))]⟩) (.take 0 (.take 1 (.take 2 (.take 3 (.both [(4, .both [(5, .both [(6, .both [(7, .take 8 (.take 9 (.both [(10, .done)])))])])]), (5, .both [(4, .both [(6, .both [(7, .take 8 (.take 9 (.both [(10, .done)])))])]), (6, .both [(4, .both [(7, .take 8 (.take 9 (.both [(10, .done)])))])])])]))))) (by kernel_rfl) (by kernel_rfl) ?_ ?_
                · (refine zc ?_; try exact trivial)
                  all_goals omega
                · (refine zc ?_; try exact trivial)
                  refine a_drawC (⟨[V.cell (.ptr (.arg 0) 0), .undef, .undef, V.cell (.ptr (.loc [3]) 0), V.int .i64 1, V.int .i64 (ps.length : Int), V.cell (.ptr (.loc [6]) 0), .undef, .undef, .undef, .undef, .undef, .undef, .undef, .undef, .undef, .undef, .undef, .undef, .undef, .undef, .undef, .undef, .undef, .undef, .undef, .undef, .undef, .undef, .undef, .undef, .undef, .undef, .undef, .undef, .undef, .undef, .undef, .undef, .undef, .undef, .undef, .undef, .undef, .undef, .undef, .undef, .undef, .undef, .undef, .undef, .undef, .undef, .undef, .undef, .undef, .undef, .undef, .undef, .undef, .undef, .undef, .undef, .undef, .undef, .undef, .undef, .undef, .undef, .undef, .undef, .undef, .undef, .undef, .undef, .undef, .undef, .undef, .undef, .undef, .undef, .undef, .undef, .undef, .undef, .undef, .undef, .undef, .undef, .undef, .undef, .undef, .undef, .undef, .undef, .undef, .undef, .undef, .undef, .undef, .undef, .undef, .undef, .undef, .undef, .undef, .undef, .undef, .undef, .undef, .undef], [(.loc [6], [.val (.int .u16 (U16 (a.getD ps.length 0))), .val (.int .u16 (U16 (b.getD ps.length 0)))]), (.loc [3], evC e), (.arg 0, ctC (.lst .no none 2 (ins code)) cap fuel p0 p1 seed l0 l1 (a.length : Int) (b.length : Int) over winner why opn (.lst (.tag (.cell (.arg 0) 14)) none 1 (ls fU (a))) (.lst (.tag (.cell (.arg 0) 15)) none 1 (ls fU (b))) (.lst (.tag (.cell (.arg 0) 16)) none 2 (prs (ps ++ [(a.getD ps.length 0, b.getD ps.length 0)]))) ((stepP code cap fuel sx (a.getD ps.length 0) (b.getD ps.length 0)).1) (.lst (.tag (.cell (.arg 0) 37)) none 6 (evs events)))]⟩) (.take 0 (.take 1 (.take 2 (.take 3 (.take 5 (.take 6 (.take 7 (.both [(4, .both [(8, .both [(9, .both [(10, .take 11 (.take 12 (.take 13 (.take 14 (.take 15 (.both [(16, .done)]))))))])]), (9, .both [(8, .both [(10, .take 11 (.take 12 (.take 13 (.take 14 (.take 15 (.both [(16, .done)]))))))])])]), (8, .both [(4, .both [(9, .both [(10, .take 11 (.take 12 (.take 13 (.take 14 (.take 15 (.both [(16, .done)]))))))])]), (9, .both [(4, .both [(10, .take 11 (.take 12 (.take 13 (.take 14 (.take 15 (.both [(16, .done)]))))))])])]), (9, .both [(4, .both [(8, .both [(10, .take 11 (.take 12 (.take 13 (.take 14 (.take 15 (.both [(16, .done)]))))))])]), (8, .both [(4, .both [(10, .take 11 (.take 12 (.take 13 (.take 14 (.take 15 (.both [(16, .done)]))))))])])])])))))))) (by kernel_rfl) (by kernel_rfl) ?_ ?_
                  · (refine zc ?_; try exact trivial)
                    have hst := step_h code cap fuel sx (a.getD ps.length 0) (b.getD ps.length 0) (by omega) hp2
                    refine a_call [] hst ok0 ?_ ?_ ?_
                    · (refine zs ?_; try exact trivial)
                    · (refine zs ?_; try exact trivial)
                    rintro _ _ ⟨rfl, rfl⟩
                    (refine zc ?_; try exact trivial)
                    all_goals exact leCs_refl _
                  · (refine zc ?_; try exact trivial)
                    refine ⟨(ps ++ [(a.getD ps.length 0, b.getD ps.length 0)], (stepP code cap fuel sx (a.getD ps.length 0) (b.getD ps.length 0)).1), ?_, ⟨?_, ?_, ?_⟩, ?_⟩
                    · simp; omega
                    · simp; omega
                    · exact step_B32 _ _ _ _ _ _ hp2
                    · simp only [List.length_append, List.length_cons, List.length_nil]
                      rw [show min a.length b.length - (ps.length + (0 + 1)) = m by omega]
                      exact hp3
                    · try (refine zs ?_; try exact trivial)
            · have e0 : cuP code cap fuel a b (min a.length b.length - ps.length) ps sx = (ps, sx) := by
                rw [show min a.length b.length - ps.length = 0 by omega]; rfl
              rw [e0] at hp3
              cases hp3
              (refine zs ?_; try exact trivial)
              all_goals exact ct_le ⟨leC_refl _, rfl, rfl, rfl, rfl, rfl, rfl, rfl, rfl, rfl, rfl, rfl, rfl, rfl, leC_refl _, leC_refl _, leC_refl _, rfl, leC_refl _⟩
end Go.Proofs.Ytamcjecgkfmjkaa

/- Chapter 18: a match is opened; an input ahead of the other's. -/
open Go Go.RowKit
namespace Go.Proofs.Ytamcjecgkfmjkaa
set_option linter.unusedSimpArgs false
set_option linter.unusedVariables false
def openP (c : Ct) (e : Ev) : Ct := { c with opn := true, p0 := e.player, p1 := e.other, seed := UInt32.ofNat e.n.toNat, st := startS (UInt32.ofNat e.n.toNat) }
attribute [-go_sem] e_both in
set_option maxHeartbeats 16000000 in
theorem open_h (c : Ct) (e : Ev) (hn : 0 ≤ e.n ∧ e.n ≤ 4294967295) : Holds Try.prog 37 [.ptr (.arg 0) 0, .ev e] [(.arg 0, ctB (.arg 0) c)] (fun r h' => r = .tup [] ∧ h' = [(.arg 0, ctB (.arg 0) (openP c e))]) := by
  have hU : ∀ z : Int, 0 ≤ z ∧ z ≤ 4294967295 → U32 (UInt32.ofNat z.toNat) = z := fun z hz => by unfold U32; rw [UInt32.toNat_ofNat']; omega
  have e0 := hU e.n hn
  refine holds_of_awp Try.func37 rfl (by decide +kernel) mixed Try.ntmps37 Try.results37 ?_
  simp only [entrySt, List.map_cons, List.map_nil, List.length_cons, List.length_nil, Nat.reduceAdd, Nat.reduceSub, List.replicate_succ, List.replicate_zero, List.cons_append, List.nil_append]
  (refine zs ?_; try exact trivial)
  refine a_drawC (⟨[V.cell (.ptr (.arg 0) 0), .undef, .undef, .undef, .undef, .undef, .undef, .undef, .undef, .undef, .undef, .undef, .undef, .undef, .undef, .undef, .undef, .undef, .undef, .undef, .undef, .undef, .undef, .undef, .undef, .undef, .undef, .undef, .undef, .undef, .undef, .undef, .undef], [(.arg 0, ctB (.arg 0) { c with opn := true, p0 := e.player, p1 := e.other, seed := UInt32.ofNat e.n.toNat })]⟩) (.take 0 (.take 1 (.take 2 (.take 3 (.take 5 (.take 8 (.take 11 (.take 12 (.take 13 (.both [(4, .both [(6, .both [(7, .both [(9, .take 10 (.both [(14, .take 15 (.take 16 (.take 17 (.both [(18, .take 19 (.take 20 (.take 21 (.both [(22, .done)]))))]))))])), (14, .take 15 (.take 16 (.take 17 (.both [(9, .take 10 (.both [(18, .take 19 (.take 20 (.take 21 (.both [(22, .done)]))))])), (18, .both [(9, .take 10 (.take 19 (.take 20 (.take 21 (.both [(22, .done)])))))])]))))]), (9, .take 10 (.both [(7, .both [(14, .take 15 (.take 16 (.take 17 (.both [(18, .take 19 (.take 20 (.take 21 (.both [(22, .done)]))))]))))]), (14, .both [(7, .take 15 (.take 16 (.take 17 (.both [(18, .take 19 (.take 20 (.take 21 (.both [(22, .done)]))))]))))])])), (14, .both [(7, .take 15 (.take 16 (.take 17 (.both [(9, .take 10 (.both [(18, .take 19 (.take 20 (.take 21 (.both [(22, .done)]))))])), (18, .both [(9, .take 10 (.take 19 (.take 20 (.take 21 (.both [(22, .done)])))))])])))), (9, .take 10 (.both [(7, .take 15 (.take 16 (.take 17 (.both [(18, .take 19 (.take 20 (.take 21 (.both [(22, .done)]))))]))))]))])]), (9, .take 10 (.both [(6, .both [(7, .both [(14, .take 15 (.take 16 (.take 17 (.both [(18, .take 19 (.take 20 (.take 21 (.both [(22, .done)]))))]))))]), (14, .both [(7, .take 15 (.take 16 (.take 17 (.both [(18, .take 19 (.take 20 (.take 21 (.both [(22, .done)]))))]))))])]), (14, .both [(6, .both [(7, .take 15 (.take 16 (.take 17 (.both [(18, .take 19 (.take 20 (.take 21 (.both [(22, .done)]))))]))))])])])), (14, .both [(6, .both [(7, .take 15 (.take 16 (.take 17 (.both [(9, .take 10 (.both [(18, .take 19 (.take 20 (.take 21 (.both [(22, .done)]))))])), (18, .both [(9, .take 10 (.take 19 (.take 20 (.take 21 (.both [(22, .done)])))))])])))), (9, .take 10 (.both [(7, .take 15 (.take 16 (.take 17 (.both [(18, .take 19 (.take 20 (.take 21 (.both [(22, .done)]))))]))))]))]), (9, .take 10 (.both [(6, .both [(7, .take 15 (.take 16 (.take 17 (.both [(18, .take 19 (.take 20 (.take 21 (.both [(22, .done)]))))]))))])]))])]), (6, .both [(4, .both [(7, .both [(9, .take 10 (.both [(14, .take 15 (.take 16 (.take 17 (.both [(18, .take 19 (.take 20 (.take 21 (.both [(22, .done)]))))]))))])), (14, .take 15 (.take 16 (.take 17 (.both [(9, .take 10 (.both [(18, .take 19 (.take 20 (.take 21 (.both [(22, .done)]))))])), (18, .both [(9, .take 10 (.take 19 (.take 20 (.take 21 (.both [(22, .done)])))))])]))))]), (9, .take 10 (.both [(7, .both [(14, .take 15 (.take 16 (.take 17 (.both [(18, .take 19 (.take 20 (.take 21 (.both [(22, .done)]))))]))))]), (14, .both [(7, .take 15 (.take 16 (.take 17 (.both [(18, .take 19 (.take 20 (.take 21 (.both [(22, .done)]))))]))))])])), (14, .both [(7, .take 15 (.take 16 (.take 17 (.both [(9, .take 10 (.both [(18, .take 19 (.take 20 (.take 21 (.both [(22, .done)]))))])), (18, .both [(9, .take 10 (.take 19 (.take 20 (.take 21 (.both [(22, .done)])))))])])))), (9, .take 10 (.both [(7, .take 15 (.take 16 (.take 17 (.both [(18, .take 19 (.take 20 (.take 21 (.both [(22, .done)]))))]))))]))])]), (9, .take 10 (.both [(4, .both [(7, .both [(14, .take 15 (.take 16 (.take 17 (.both [(18, .take 19 (.take 20 (.take 21 (.both [(22, .done)]))))]))))]), (14, .both [(7, .take 15 (.take 16 (.take 17 (.both [(18, .take 19 (.take 20 (.take 21 (.both [(22, .done)]))))]))))])]), (14, .both [(4, .both [(7, .take 15 (.take 16 (.take 17 (.both [(18, .take 19 (.take 20 (.take 21 (.both [(22, .done)]))))]))))])])])), (14, .both [(4, .both [(7, .take 15 (.take 16 (.take 17 (.both [(9, .take 10 (.both [(18, .take 19 (.take 20 (.take 21 (.both [(22, .done)]))))])), (18, .both [(9, .take 10 (.take 19 (.take 20 (.take 21 (.both [(22, .done)])))))])])))), (9, .take 10 (.both [(7, .take 15 (.take 16 (.take 17 (.both [(18, .take 19 (.take 20 (.take 21 (.both [(22, .done)]))))]))))]))]), (9, .take 10 (.both [(4, .both [(7, .take 15 (.take 16 (.take 17 (.both [(18, .take 19 (.take 20 (.take 21 (.both [(22, .done)]))))]))))])]))])]), (9, .take 10 (.both [(4, .both [(6, .both [(7, .both [(14, .take 15 (.take 16 (.take 17 (.both [(18, .take 19 (.take 20 (.take 21 (.both [(22, .done)]))))]))))]), (14, .both [(7, .take 15 (.take 16 (.take 17 (.both [(18, .take 19 (.take 20 (.take 21 (.both [(22, .done)]))))]))))])]), (14, .both [(6, .both [(7, .take 15 (.take 16 (.take 17 (.both [(18, .take 19 (.take 20 (.take 21 (.both [(22, .done)]))))]))))])])]), (6, .both [(4, .both [(7, .both [(14, .take 15 (.take 16 (.take 17 (.both [(18, .take 19 (.take 20 (.take 21 (.both [(22, .done)]))))]))))]), (14, .both [(7, .take 15 (.take 16 (.take 17 (.both [(18, .take 19 (.take 20 (.take 21 (.both [(22, .done)]))))]))))])]), (14, .both [(4, .both [(7, .take 15 (.take 16 (.take 17 (.both [(18, .take 19 (.take 20 (.take 21 (.both [(22, .done)]))))]))))])])]), (14, .both [(4, .both [(6, .both [(7, .take 15 (.take 16 (.take 17 (.both [(18, .take 19 (.take 20 (.take 21 (.both [(22, .done)]))))]))))])]), (6, .both [(4, .both [(7, .take 15 (.take 16 (.take 17 (.both [(18, .take 19 (.take 20 (.take 21 (.both [(22, .done)]))))]))))])])])])), (14, .both [(4, .both [(6, .both [(7, .take 15 (.take 16 (.take 17 (.both [(9, .take 10 (.both [(18, .take 19 (.take 20 (.take 21 (.both [(22, .done)]))))])), (18, .both [(9, .take 10 (.take 19 (.take 20 (.take 21 (.both [(22, .done)])))))])])))), (9, .take 10 (.both [(7, .take 15 (.take 16 (.take 17 (.both [(18, .take 19 (.take 20 (.take 21 (.both [(22, .done)]))))]))))]))]), (9, .take 10 (.both [(6, .both [(7, .take 15 (.take 16 (.take 17 (.both [(18, .take 19 (.take 20 (.take 21 (.both [(22, .done)]))))]))))])]))]), (6, .both [(4, .both [(7, .take 15 (.take 16 (.take 17 (.both [(9, .take 10 (.both [(18, .take 19 (.take 20 (.take 21 (.both [(22, .done)]))))])), (18, .both [(9, .take 10 (.take 19 (.take 20 (.take 21 (.both [(22, .done)])))))])])))), (9, .take 10 (.both [(7, .take 15 (.take 16 (.take 17 (.both [(18, .take 19 (.take 20 (.take 21 (.both [(22, .done)]))))]))))]))]), (9, .take 10 (.both [(4, .both [(7, .take 15 (.take 16 (.take 17 (.both [(18, .take 19 (.take 20 (.take 21 (.both [(22, .done)]))))]))))])]))]), (9, .take 10 (.both [(4, .both [(6, .both [(7, .take 15 (.take 16 (.take 17 (.both [(18, .take 19 (.take 20 (.take 21 (.both [(22, .done)]))))]))))])]), (6, .both [(4, .both [(7, .take 15 (.take 16 (.take 17 (.both [(18, .take 19 (.take 20 (.take 21 (.both [(22, .done)]))))]))))])])]))])])))))))))) (by kernel_rfl) (by kernel_rfl) ?_ ?_
  · (refine zs ?_; try exact trivial)
    iterate 9
      all_goals first
        | done
        | (simp only [e_both]
           (refine zs ?_; try exact trivial)
           repeat' (with_reducible apply And.intro))
        | skip
  · (refine zc ?_; try exact trivial)
    refine a_call [] (start_h (UInt32.ofNat e.n.toNat)) ok0 ?_ ?_ ?_
    · (refine zs ?_; try exact trivial)
    · (refine zs ?_; try exact trivial)
    rintro _ _ ⟨rfl, rfl⟩
    (refine zc ?_; try exact trivial)
    exact ct_le ⟨leC_refl _, rfl, rfl, rfl, rfl, rfl, rfl, rfl, rfl, rfl, rfl, rfl, rfl, rfl, leC_refl _, leC_refl _, leC_refl _, rfl, leC_refl _⟩
end Go.Proofs.Ytamcjecgkfmjkaa

/- The logic: states, events, numbers in a row compared. -/
open Go Go.RowKit
namespace Go.Proofs.Ytamcjecgkfmjkaa
set_option linter.unusedSimpArgs false
set_option linter.unusedVariables false
def eqS (s t : Sta) : Bool := decide (s.frame = t.frame) && decide (s.cells = t.cells) && decide (s.seed = t.seed) && (s.over == t.over) && decide (s.win = t.win)
theorem eqS_iff {s t : Sta} : eqS s t = true ↔ s = t := by
  unfold eqS
  simp only [Bool.and_eq_true, decide_eq_true_eq, beq_iff_eq]
  constructor
  · rintro ⟨⟨⟨⟨a, b⟩, c⟩, d⟩, e⟩; exact Sta.ext' a b c d e
  · rintro rfl; exact ⟨⟨⟨⟨rfl, rfl⟩, rfl⟩, rfl⟩, rfl⟩
@[go_sem] theorem eqS_refl {s : Sta} : eqS s s = true := eqS_iff.2 rfl
def uvS (s : Sta) : List Value := .int .i64 s.frame :: (s.cells.map (fun n => Value.int .i32 n) ++ [.int .u32 (U32 s.seed), .bool s.over, .int .i64 s.win])
theorem uvS_sd (s : Sta) : (sd s).map D.toC = (uvS s).map C.val := by
  simp [sd, uvS, c32, D.toC]
theorem val_inj : ∀ {us vs : List Value}, us.map C.val = vs.map C.val → us = vs
  | [], [], _ => rfl
  | [], _ :: _, h => by simp at h
  | _ :: _, [], h => by simp at h
  | u :: us, v :: vs, h => by
    simp only [List.map_cons, List.cons.injEq, C.val.injEq] at h
    rw [h.1, val_inj h.2]
theorem uvS_inj {s t : Sta} : uvS s = uvS t ↔ s = t := by
  constructor
  · intro h
    unfold uvS at h
    simp only [List.cons.injEq, Value.int.injEq, true_and] at h
    obtain ⟨h1, h2⟩ := h
    obtain ⟨h3, h4⟩ := List.append_inj h2 (by simp [s.len, t.len])
    simp only [List.cons.injEq, Value.int.injEq, Value.bool.injEq, true_and, and_true] at h4
    refine Sta.ext' h1 ?_ (U32_inj.1 h4.1) h4.2.1 h4.2.2
    exact List.map_inj_right (fun a b h => by simpa using h) |>.1 h3
  · rintro rfl; rfl
theorem All2.app {α β : Type} {R : α → β → Prop} {a c : List α} {b d : List β} (h1 : All2 R a b) (h2 : All2 R c d) : All2 R (a ++ c) (b ++ d) := by
  induction h1 with
  | nil => exact h2
  | cons h _ ih => exact .cons h ih
theorem ok_i32 : ∀ (l : List Int), All2 okK (List.replicate l.length (some .i32)) (l.map (fun n => Value.int .i32 n))
  | [] => .nil
  | x :: l => .cons ⟨_, rfl⟩ (ok_i32 l)
theorem uvS_ok (s : Sta) : All2 okK ([some .i64, some .i32, some .i32, some .i32, some .i32, some .i32, some .i32, some .i32, some .i32, some .i32, some .i32, some .i32, some .i32, some .i32, some .i32, some .i32, some .i32, some .u32, none, some .i64] : List (Option IntKind)) (uvS s) := by
  have h := ok_i32 s.cells
  rw [s.len] at h
  show All2 okK (some .i64 :: (List.replicate 16 (some .i32) ++ [some .u32, none, some .i64])) _
  exact .cons ⟨_, rfl⟩ (h.app (c := [some .u32, none, some .i64]) (.cons ⟨_, rfl⟩ (.cons ⟨_, rfl⟩ (.cons ⟨_, rfl⟩ .nil))))
@[congr] theorem cg_aEqA2 {q q' : Option (List (Option IntKind))} {cs ds cs' ds' : List C} {J : Bool → Prop} (h0 : q = q') (h1 : cs = cs') (h2 : ds = ds') : aEqA q cs ds J = aEqA q' cs' ds' J := by subst h0; subst h1; subst h2; rfl
@[go_sem] theorem e_eqS {s t : Sta} {K : Bool → Prop} : aEqA (some [some .i64, some .i32, some .i32, some .i32, some .i32, some .i32, some .i32, some .i32, some .i32, some .i32, some .i32, some .i32, some .i32, some .i32, some .i32, some .i32, some .i32, some .u32, none, some .i64]) ((sd s).map D.toC) ((sd t).map D.toC) K = K (eqS s t) := by
  refine propext ⟨?_, fun h => ?_⟩
  · rintro ⟨ks, us, vs, hq, hu, hv, _, _, h⟩
    refine h _ ?_
    rw [eqS_iff, ← uvS_inj]
    rw [uvS_sd] at hu hv
    rw [val_inj hu, val_inj hv]
  · refine ⟨_, _, _, rfl, uvS_sd s, uvS_sd t, uvS_ok s, uvS_ok t, fun b hb => ?_⟩
    rw [uvS_inj, ← eqS_iff] at hb
    rw [Bool.eq_iff_iff.2 hb]; exact h
@[go_sem] theorem e_eqSl {s : Sta} {f : Int} {K : Bool → Prop} : aEqA (some [some .i64, some .i32, some .i32, some .i32, some .i32, some .i32, some .i32, some .i32, some .i32, some .i32, some .i32, some .i32, some .i32, some .i32, some .i32, some .i32, some .i32, some .u32, none, some .i64]) ((sd s).map D.toC) [.val (.int .i64 f), .val (.int .i32 0), .val (.int .i32 0), .val (.int .i32 0), .val (.int .i32 0), .val (.int .i32 0), .val (.int .i32 0), .val (.int .i32 0), .val (.int .i32 0), .val (.int .i32 0), .val (.int .i32 0), .val (.int .i32 0), .val (.int .i32 0), .val (.int .i32 0), .val (.int .i32 0), .val (.int .i32 0), .val (.int .i32 0), .val (.int .u32 0), .val (.bool false), .val (.int .i64 0)] K = K (eqS s (stz f 0)) := e_eqS (t := stz f 0)
@[go_sem 1100] theorem e_eqEv {x0 y0 : Int} {x1 y1 : Int} {x2 y2 : Int} {x3 y3 : Int} {x4 y4 : Int} {x5 y5 : Int} {K : Bool → Prop} : aEqA (some [some .i64, some .i64, some .i64, some .i64, some .u16, some .i64]) [.val (.int .i64 x0), .val (.int .i64 x1), .val (.int .i64 x2), .val (.int .i64 x3), .val (.int .u16 x4), .val (.int .i64 x5)] [.val (.int .i64 y0), .val (.int .i64 y1), .val (.int .i64 y2), .val (.int .i64 y3), .val (.int .u16 y4), .val (.int .i64 y5)] K = K (decide (x0 = y0 ∧ x1 = y1 ∧ x2 = y2 ∧ x3 = y3 ∧ x4 = y4 ∧ x5 = y5)) := by
  have key : ([.int .i64 x0, .int .i64 x1, .int .i64 x2, .int .i64 x3, .int .u16 x4, .int .i64 x5] : List Value) = [.int .i64 y0, .int .i64 y1, .int .i64 y2, .int .i64 y3, .int .u16 y4, .int .i64 y5] ↔ (x0 = y0 ∧ x1 = y1 ∧ x2 = y2 ∧ x3 = y3 ∧ x4 = y4 ∧ x5 = y5) := by simp
  refine propext ⟨?_, fun h => ?_⟩
  · rintro ⟨ks, us, vs, hq, hu, hv, _, _, h⟩
    refine h _ ?_
    have hu' : us = [.int .i64 x0, .int .i64 x1, .int .i64 x2, .int .i64 x3, .int .u16 x4, .int .i64 x5] := val_inj (us := us) (vs := [.int .i64 x0, .int .i64 x1, .int .i64 x2, .int .i64 x3, .int .u16 x4, .int .i64 x5]) hu.symm
    have hv' : vs = [.int .i64 y0, .int .i64 y1, .int .i64 y2, .int .i64 y3, .int .u16 y4, .int .i64 y5] := val_inj (us := vs) (vs := [.int .i64 y0, .int .i64 y1, .int .i64 y2, .int .i64 y3, .int .u16 y4, .int .i64 y5]) hv.symm
    rw [hu', hv', decide_eq_true_eq, key]
  · refine ⟨_, [.int .i64 x0, .int .i64 x1, .int .i64 x2, .int .i64 x3, .int .u16 x4, .int .i64 x5], [.int .i64 y0, .int .i64 y1, .int .i64 y2, .int .i64 y3, .int .u16 y4, .int .i64 y5], rfl, rfl, rfl, (.cons ⟨_, rfl⟩ (.cons ⟨_, rfl⟩ (.cons ⟨_, rfl⟩ (.cons ⟨_, rfl⟩ (.cons ⟨_, rfl⟩ (.cons ⟨_, rfl⟩ .nil)))))), (.cons ⟨_, rfl⟩ (.cons ⟨_, rfl⟩ (.cons ⟨_, rfl⟩ (.cons ⟨_, rfl⟩ (.cons ⟨_, rfl⟩ (.cons ⟨_, rfl⟩ .nil)))))), fun b hb => ?_⟩
    rw [key] at hb
    have : b = decide (x0 = y0 ∧ x1 = y1 ∧ x2 = y2 ∧ x3 = y3 ∧ x4 = y4 ∧ x5 = y5) := by rw [Bool.eq_iff_iff, hb, decide_eq_true_eq]
    rw [this]; exact h
@[go_sem 1100] theorem e_eqSt {x0 y0 : Int} {x1 y1 : Int} {x2 y2 : Int} {x3 y3 : Int} {x4 y4 : Int} {x5 y5 : Int} {x6 y6 : Int} {x7 y7 : Bool} {x8 y8 : Int} {x9 y9 : Int} {x10 y10 : Bool} {K : Bool → Prop} : aEqA (some [some .i64, some .i64, some .u32, some .i64, some .i64, some .i64, some .i64, none, some .i64, some .i64, none]) [.val (.int .i64 x0), .val (.int .i64 x1), .val (.int .u32 x2), .val (.int .i64 x3), .val (.int .i64 x4), .val (.int .i64 x5), .val (.int .i64 x6), .val (.bool x7), .val (.int .i64 x8), .val (.int .i64 x9), .val (.bool x10)] [.val (.int .i64 y0), .val (.int .i64 y1), .val (.int .u32 y2), .val (.int .i64 y3), .val (.int .i64 y4), .val (.int .i64 y5), .val (.int .i64 y6), .val (.bool y7), .val (.int .i64 y8), .val (.int .i64 y9), .val (.bool y10)] K = K (decide (x0 = y0 ∧ x1 = y1 ∧ x2 = y2 ∧ x3 = y3 ∧ x4 = y4 ∧ x5 = y5 ∧ x6 = y6 ∧ x7 = y7 ∧ x8 = y8 ∧ x9 = y9 ∧ x10 = y10)) := by
  have key : ([.int .i64 x0, .int .i64 x1, .int .u32 x2, .int .i64 x3, .int .i64 x4, .int .i64 x5, .int .i64 x6, .bool x7, .int .i64 x8, .int .i64 x9, .bool x10] : List Value) = [.int .i64 y0, .int .i64 y1, .int .u32 y2, .int .i64 y3, .int .i64 y4, .int .i64 y5, .int .i64 y6, .bool y7, .int .i64 y8, .int .i64 y9, .bool y10] ↔ (x0 = y0 ∧ x1 = y1 ∧ x2 = y2 ∧ x3 = y3 ∧ x4 = y4 ∧ x5 = y5 ∧ x6 = y6 ∧ x7 = y7 ∧ x8 = y8 ∧ x9 = y9 ∧ x10 = y10) := by simp
  refine propext ⟨?_, fun h => ?_⟩
  · rintro ⟨ks, us, vs, hq, hu, hv, _, _, h⟩
    refine h _ ?_
    have hu' : us = [.int .i64 x0, .int .i64 x1, .int .u32 x2, .int .i64 x3, .int .i64 x4, .int .i64 x5, .int .i64 x6, .bool x7, .int .i64 x8, .int .i64 x9, .bool x10] := val_inj (us := us) (vs := [.int .i64 x0, .int .i64 x1, .int .u32 x2, .int .i64 x3, .int .i64 x4, .int .i64 x5, .int .i64 x6, .bool x7, .int .i64 x8, .int .i64 x9, .bool x10]) hu.symm
    have hv' : vs = [.int .i64 y0, .int .i64 y1, .int .u32 y2, .int .i64 y3, .int .i64 y4, .int .i64 y5, .int .i64 y6, .bool y7, .int .i64 y8, .int .i64 y9, .bool y10] := val_inj (us := vs) (vs := [.int .i64 y0, .int .i64 y1, .int .u32 y2, .int .i64 y3, .int .i64 y4, .int .i64 y5, .int .i64 y6, .bool y7, .int .i64 y8, .int .i64 y9, .bool y10]) hv.symm
    rw [hu', hv', decide_eq_true_eq, key]
  · refine ⟨_, [.int .i64 x0, .int .i64 x1, .int .u32 x2, .int .i64 x3, .int .i64 x4, .int .i64 x5, .int .i64 x6, .bool x7, .int .i64 x8, .int .i64 x9, .bool x10], [.int .i64 y0, .int .i64 y1, .int .u32 y2, .int .i64 y3, .int .i64 y4, .int .i64 y5, .int .i64 y6, .bool y7, .int .i64 y8, .int .i64 y9, .bool y10], rfl, rfl, rfl, (.cons ⟨_, rfl⟩ (.cons ⟨_, rfl⟩ (.cons ⟨_, rfl⟩ (.cons ⟨_, rfl⟩ (.cons ⟨_, rfl⟩ (.cons ⟨_, rfl⟩ (.cons ⟨_, rfl⟩ (.cons ⟨_, rfl⟩ (.cons ⟨_, rfl⟩ (.cons ⟨_, rfl⟩ (.cons ⟨_, rfl⟩ .nil))))))))))), (.cons ⟨_, rfl⟩ (.cons ⟨_, rfl⟩ (.cons ⟨_, rfl⟩ (.cons ⟨_, rfl⟩ (.cons ⟨_, rfl⟩ (.cons ⟨_, rfl⟩ (.cons ⟨_, rfl⟩ (.cons ⟨_, rfl⟩ (.cons ⟨_, rfl⟩ (.cons ⟨_, rfl⟩ (.cons ⟨_, rfl⟩ .nil))))))))))), fun b hb => ?_⟩
    rw [key] at hb
    have : b = decide (x0 = y0 ∧ x1 = y1 ∧ x2 = y2 ∧ x3 = y3 ∧ x4 = y4 ∧ x5 = y5 ∧ x6 = y6 ∧ x7 = y7 ∧ x8 = y8 ∧ x9 = y9 ∧ x10 = y10) := by rw [Bool.eq_iff_iff, hb, decide_eq_true_eq]
    rw [this]; exact h
@[go_sem 1100] theorem e_eqP2 {x0 y0 : Int} {x1 y1 : Int} {K : Bool → Prop} : aEqA (some [some .i64, some .i64]) [.val (.int .i64 x0), .val (.int .i64 x1)] [.val (.int .i64 y0), .val (.int .i64 y1)] K = K (decide (x0 = y0 ∧ x1 = y1)) := by
  have key : ([.int .i64 x0, .int .i64 x1] : List Value) = [.int .i64 y0, .int .i64 y1] ↔ (x0 = y0 ∧ x1 = y1) := by simp
  refine propext ⟨?_, fun h => ?_⟩
  · rintro ⟨ks, us, vs, hq, hu, hv, _, _, h⟩
    refine h _ ?_
    have hu' : us = [.int .i64 x0, .int .i64 x1] := val_inj (us := us) (vs := [.int .i64 x0, .int .i64 x1]) hu.symm
    have hv' : vs = [.int .i64 y0, .int .i64 y1] := val_inj (us := vs) (vs := [.int .i64 y0, .int .i64 y1]) hv.symm
    rw [hu', hv', decide_eq_true_eq, key]
  · refine ⟨_, [.int .i64 x0, .int .i64 x1], [.int .i64 y0, .int .i64 y1], rfl, rfl, rfl, (.cons ⟨_, rfl⟩ (.cons ⟨_, rfl⟩ .nil)), (.cons ⟨_, rfl⟩ (.cons ⟨_, rfl⟩ .nil)), fun b hb => ?_⟩
    rw [key] at hb
    have : b = decide (x0 = y0 ∧ x1 = y1) := by rw [Bool.eq_iff_iff, hb, decide_eq_true_eq]
    rw [this]; exact h
@[go_sem 1100] theorem e_eqU2 {x0 y0 : Int} {x1 y1 : Int} {K : Bool → Prop} : aEqA (some [some .u16, some .u16]) [.val (.int .u16 x0), .val (.int .u16 x1)] [.val (.int .u16 y0), .val (.int .u16 y1)] K = K (decide (x0 = y0 ∧ x1 = y1)) := by
  have key : ([.int .u16 x0, .int .u16 x1] : List Value) = [.int .u16 y0, .int .u16 y1] ↔ (x0 = y0 ∧ x1 = y1) := by simp
  refine propext ⟨?_, fun h => ?_⟩
  · rintro ⟨ks, us, vs, hq, hu, hv, _, _, h⟩
    refine h _ ?_
    have hu' : us = [.int .u16 x0, .int .u16 x1] := val_inj (us := us) (vs := [.int .u16 x0, .int .u16 x1]) hu.symm
    have hv' : vs = [.int .u16 y0, .int .u16 y1] := val_inj (us := vs) (vs := [.int .u16 y0, .int .u16 y1]) hv.symm
    rw [hu', hv', decide_eq_true_eq, key]
  · refine ⟨_, [.int .u16 x0, .int .u16 x1], [.int .u16 y0, .int .u16 y1], rfl, rfl, rfl, (.cons ⟨_, rfl⟩ (.cons ⟨_, rfl⟩ .nil)), (.cons ⟨_, rfl⟩ (.cons ⟨_, rfl⟩ .nil)), fun b hb => ?_⟩
    rw [key] at hb
    have : b = decide (x0 = y0 ∧ x1 = y1) := by rw [Bool.eq_iff_iff, hb, decide_eq_true_eq]
    rw [this]; exact h
end Go.Proofs.Ytamcjecgkfmjkaa

/- Chapter 18: how each kind of event is done. (written by gen18g.py) -/
open Go Go.RowKit
namespace Go.Proofs.Ytamcjecgkfmjkaa
set_option linter.unusedSimpArgs false
set_option linter.unusedVariables false
def howsC : List C := [.val .nilFunc, .val .nilFunc, .val .nilFunc,
  .fn (.func 36) [] [], .fn (.func 37) [] [], .fn (.func 38) [] [],
  .fn (.func 39) [] [], .fn (.func 40) [] [], .fn (.func 41) [] [],
  .fn (.func 42) [] [], .fn (.func 43) [] [], .fn (.func 44) [] [],
  .fn (.func 45) [] [], .fn (.func 46) [] [], .fn (.func 47) [] [],
  .fn (.func 48) [] [], .fn (.func 49) [] [], .fn (.func 50) [] []]
@[go_sem] theorem u16_0 : U16 0 = 0 := nr rfl
@[go_sem] theorem u32_0 : U32 0 = 0 := nr rfl
theorem not_t {b : Bool} (d : (!b) = true) : ¬ b = true := by cases b <;> simp_all
theorem not_f {b : Bool} (d : (!b) = false) : b = true := by cases b <;> simp_all
@[go_sem] theorem hw_k {bi : Id → Bool} {bt : Tag → Bool} : howsC.map (C.clean bi bt) = howsC := nr rfl
@[go_sem] theorem hw_r {ks : List Id} {d : Nat} : howsC.map (C.ren ks d) = howsC := nr rfl
@[go_sem] theorem hw_t {ta tb : Tag} : howsC.map (C.retag ta tb) = howsC := nr rfl
@[go_sem] theorem hw_n : howsC.all known = true := nr rfl
@[go_sem] theorem hw_l : howsC.length = 18 := nr rfl
@[go_sem 1300] theorem hw_1 : List.take 3 (List.drop 3 howsC) = [.fn (.func 36) [] [], .fn (.func 37) [] [], .fn (.func 38) [] []] := nr rfl
@[go_sem 1300] theorem hw_2 : List.take 3 (List.drop 6 howsC) = [.fn (.func 39) [] [], .fn (.func 40) [] [], .fn (.func 41) [] []] := nr rfl
@[go_sem 1300] theorem hw_3 : List.take 3 (List.drop 9 howsC) = [.fn (.func 42) [] [], .fn (.func 43) [] [], .fn (.func 44) [] []] := nr rfl
@[go_sem 1300] theorem hw_4 : List.take 3 (List.drop 12 howsC) = [.fn (.func 45) [] [], .fn (.func 46) [] [], .fn (.func 47) [] []] := nr rfl
@[go_sem 1300] theorem hw_5 : List.take 3 (List.drop 15 howsC) = [.fn (.func 48) [] [], .fn (.func 49) [] [], .fn (.func 50) [] []] := nr rfl
@[go_sem 1300] theorem hw_td : List.take 18 (List.drop 0 howsC) = howsC := nr rfl
@[go_sem ↓ 1300] theorem hw_le : leCs howsC howsC = True := eq_true (leCs_refl _)
theorem hows_h : Holds Try.prog 27 [] [] (fun r h' => r = .w (.agg howsC) ∧ h' = []) := by
  refine holds_of_awp Try.func27 rfl (by decide +kernel) mixed Try.ntmps27 Try.results27 ?_
  simp only [entrySt, List.map_cons, List.map_nil, List.length_cons, List.length_nil, Nat.reduceAdd, Nat.reduceSub, List.replicate_succ, List.replicate_zero, List.cons_append, List.nil_append]
  unfold howsC
  (refine zs ?_; try exact trivial)
  exact leCs_refl _
theorem may0_h (e : Ev) : Holds Try.prog 20 [.c (.val (.pointer none)), .ev e] [] (fun r h' => r = .int .i64 1 ∧ h' = []) := by
  refine holds_of_awp Try.func20 rfl (by decide +kernel) mixed Try.ntmps20 Try.results20 ?_
  simp only [entrySt, List.map_cons, List.map_nil, List.length_cons, List.length_nil, Nat.reduceAdd, Nat.reduceSub, List.replicate_succ, List.replicate_zero, List.cons_append, List.nil_append]
  (refine zs ?_; try exact trivial)
theorem apply0_h (e : Ev) : Holds Try.prog 13 [.c (.val (.pointer none)), .ev e] [] (fun r h' => r = .int .i64 1 ∧ h' = []) := by
  refine holds_of_awp Try.func13 rfl (by decide +kernel) mixed Try.ntmps13 Try.results13 ?_
  simp only [entrySt, List.map_cons, List.map_nil, List.length_cons, List.length_nil, Nat.reduceAdd, Nat.reduceSub, List.replicate_succ, List.replicate_zero, List.cons_append, List.nil_append]
  (refine zs ?_; try exact trivial)
  refine a_call [] (may0_h e) ok0 ?_ ?_ ?_
  · (refine zs ?_; try exact trivial)
  · (refine zs ?_; try exact trivial)
  rintro _ _ ⟨rfl, rfl⟩
  (refine zc ?_; try exact trivial)
/-- has an event nothing but what its kind names? -/
def bareB (e : Ev) : Bool :=
  if e.kind = 1 then decide (e.frame = 0 ∧ U16 e.inp = 0)
  else if e.kind = 3 then decide (e.other = 0 ∧ e.n = 0)
  else if e.kind = 5 then decide (e.other = 0 ∧ e.frame = 0 ∧ U16 e.inp = 0)
  else decide (e.other = 0 ∧ e.frame = 0 ∧ U16 e.inp = 0 ∧ e.n = 0)
def may1P (c : Ct) (e : Ev) : Int :=
  if e.kind = 1 then mayOpenP c e else if e.kind = 2 then mayJoinP c e else if e.kind = 3 then mayInputP c e else if e.kind = 4 then actP c e.player else mayResultP c e
def mayP18 (c : Ct) (e : Ev) : Int := if e.kind < 1 ∨ 6 ≤ e.kind then 3 else if bareB e = true then may1P c e else 3
abbrev fnR1 : List C := [.fn (.func 36) [] [], .fn (.func 37) [] [], .fn (.func 38) [] []]
abbrev fnR2 : List C := [.fn (.func 39) [] [], .fn (.func 40) [] [], .fn (.func 41) [] []]
abbrev fnR3 : List C := [.fn (.func 42) [] [], .fn (.func 43) [] [], .fn (.func 44) [] []]
abbrev fnR4 : List C := [.fn (.func 45) [] [], .fn (.func 46) [] [], .fn (.func 47) [] []]
abbrev fnR5 : List C := [.fn (.func 48) [] [], .fn (.func 49) [] [], .fn (.func 50) [] []]
set_option maxHeartbeats 4000000 in
theorem may1_h (c : Ct) (player other frame n : Int) (inp : UInt16) : Holds Try.prog 20 [.ptr (.arg 0) 0, .ev ⟨1, player, other, frame, inp, n⟩] [(.arg 0, ctB (.arg 0) c)] (fun r h' => r = .int .i64 (mayP18 c ⟨1, player, other, frame, inp, n⟩) ∧ h' = [(.arg 0, ctB (.arg 0) c)]) := by
  have eb : bareB ⟨1, player, other, frame, inp, n⟩ = decide (frame = 0 ∧ U16 inp = 0) := rfl
  have em : mayP18 c ⟨1, player, other, frame, inp, n⟩ = if decide (frame = 0 ∧ U16 inp = 0) = true then mayOpenP c ⟨1, player, other, frame, inp, n⟩ else 3 := by
    unfold mayP18
    rw [if_neg (by simp only; omega), eb]
    rfl
  rw [em]
  refine holds_of_awp Try.func20 rfl (by decide +kernel) mixed Try.ntmps20 Try.results20 ?_
  simp only [entrySt, List.map_cons, List.map_nil, List.length_cons, List.length_nil, Nat.reduceAdd, Nat.reduceSub, List.replicate_succ, List.replicate_zero, List.cons_append, List.nil_append]
  (refine zc ?_; try exact trivial)
  refine a_drawC (⟨[V.cell (.ptr (.arg 0) 0), .undef, .undef, V.cell (.ptr (.loc [3]) 0), .undef, V.cell (.ptr (.loc [5]) 0), .undef, .undef, .undef, .undef, .undef, .undef, .undef, .undef, .undef, .undef, .undef, .undef, .undef, .undef, .undef, .undef, .undef, .undef, .undef, .undef, .undef, .undef, .undef, .undef, .undef, .undef, .undef], [(.loc [5], fnR1), (.loc [3], evC ⟨1, player, other, frame, inp, n⟩), (.arg 0, ctB (.arg 0) c)]⟩) (.take 1 (.both [(0, .both [(2, .take 3 (.both [(4, .both [(5, .done)])])), (4, .both [(2, .take 3 (.both [(5, .done)]))])]), (2, .both [(0, .take 3 (.both [(4, .both [(5, .done)])])), (4, .both [(0, .take 3 (.both [(5, .done)]))])]), (4, .both [(0, .both [(2, .take 3 (.both [(5, .done)]))]), (2, .both [(0, .take 3 (.both [(5, .done)]))])])])) (by kernel_rfl) (by kernel_rfl) ?_ ?_
  · (refine zc ?_; try exact trivial)
    repeat' (with_reducible apply And.intro)
    all_goals (
      refine a_call [] (hows_h) ok0 ?_ ?_ ?_
      · (refine zs ?_; try exact trivial)
      · (refine zs ?_; try exact trivial)
      rintro _ _ ⟨rfl, rfl⟩
      (refine zc ?_; try exact trivial))
  · (refine zc ?_; try exact trivial)
    refine a_drawC (⟨[V.cell (.ptr (.arg 0) 0), .undef, .undef, V.cell (.ptr (.loc [3]) 0), .undef, V.cell (.ptr (.loc [5]) 0), .undef, .undef, .undef, .undef, .undef, .undef, .undef, .undef, .undef, .undef, .undef, .undef, .undef, .undef, .undef, .undef, .undef, .undef, .undef, .undef, .undef, V.bool (!decide (frame = 0 ∧ U16 inp = 0)), .undef, .undef, .undef, .undef, .undef], [(.loc [5], fnR1), (.loc [3], evC ⟨1, player, other, frame, inp, n⟩), (.arg 0, ctB (.arg 0) c)]⟩) (.take 0 (.take 4 (.both [(1, .both [(2, .both [(3, .both [(5, .both [(6, .take 7 (.done))])]), (5, .both [(3, .both [(6, .take 7 (.done))]), (6, .both [(3, .take 7 (.done))])])]), (5, .both [(2, .both [(3, .both [(6, .take 7 (.done))]), (6, .both [(3, .take 7 (.done))])]), (6, .both [(2, .both [(3, .take 7 (.done))])])])]), (2, .both [(1, .both [(3, .both [(5, .both [(6, .take 7 (.done))])]), (5, .both [(3, .both [(6, .take 7 (.done))]), (6, .both [(3, .take 7 (.done))])])]), (5, .both [(1, .both [(3, .both [(6, .take 7 (.done))]), (6, .both [(3, .take 7 (.done))])]), (6, .both [(1, .both [(3, .take 7 (.done))])])])]), (5, .both [(1, .both [(2, .both [(3, .both [(6, .take 7 (.done))]), (6, .both [(3, .take 7 (.done))])]), (6, .both [(2, .both [(3, .take 7 (.done))])])]), (2, .both [(1, .both [(3, .both [(6, .take 7 (.done))]), (6, .both [(3, .take 7 (.done))])]), (6, .both [(1, .both [(3, .take 7 (.done))])])]), (6, .both [(1, .both [(2, .both [(3, .take 7 (.done))])]), (2, .both [(1, .both [(3, .take 7 (.done))])])])])]))) (by kernel_rfl) (by kernel_rfl) ?_ ?_
    · (refine zc ?_; try exact trivial)
      repeat' (with_reducible apply And.intro)
      all_goals (
        refine a_call [] (bare1_h ⟨1, player, other, frame, inp, n⟩) ok0 ?_ ?_ ?_
        · (refine zs ?_; try exact trivial)
        · (refine zs ?_; try exact trivial)
        rintro _ _ ⟨rfl, rfl⟩
        (refine zc ?_; try exact trivial))
    · (refine zs ?_; try exact trivial)
      refine c_b (fun d => ?_) (fun d => ?_)
      · have d' : ¬ decide (frame = 0 ∧ U16 inp = 0) = true := not_t d
        rw [if_neg d']
        (refine zs ?_; try exact trivial)
      · have d' : decide (frame = 0 ∧ U16 inp = 0) = true := not_f d
        rw [if_pos d']
        (refine zs ?_; try exact trivial)
        refine a_call [.arg 0] (mayOpen_h c ⟨1, player, other, frame, inp, n⟩) (ok1 rfl) ?_ ?_ ?_
        · (refine zs ?_; try exact trivial)
        · (refine zs ?_; try exact trivial)
        rintro _ _ ⟨rfl, rfl⟩
        (refine zs ?_; try exact trivial)
set_option maxHeartbeats 4000000 in
theorem may2_h (c : Ct) (player other frame n : Int) (inp : UInt16) : Holds Try.prog 20 [.ptr (.arg 0) 0, .ev ⟨2, player, other, frame, inp, n⟩] [(.arg 0, ctB (.arg 0) c)] (fun r h' => r = .int .i64 (mayP18 c ⟨2, player, other, frame, inp, n⟩) ∧ h' = [(.arg 0, ctB (.arg 0) c)]) := by
  have eb : bareB ⟨2, player, other, frame, inp, n⟩ = decide (other = 0 ∧ frame = 0 ∧ U16 inp = 0 ∧ n = 0) := rfl
  have em : mayP18 c ⟨2, player, other, frame, inp, n⟩ = if decide (other = 0 ∧ frame = 0 ∧ U16 inp = 0 ∧ n = 0) = true then mayJoinP c ⟨2, player, other, frame, inp, n⟩ else 3 := by
    unfold mayP18
    rw [if_neg (by simp only; omega), eb]
    rfl
  rw [em]
  refine holds_of_awp Try.func20 rfl (by decide +kernel) mixed Try.ntmps20 Try.results20 ?_
  simp only [entrySt, List.map_cons, List.map_nil, List.length_cons, List.length_nil, Nat.reduceAdd, Nat.reduceSub, List.replicate_succ, List.replicate_zero, List.cons_append, List.nil_append]
  (refine zc ?_; try exact trivial)
  refine a_drawC (⟨[V.cell (.ptr (.arg 0) 0), .undef, .undef, V.cell (.ptr (.loc [3]) 0), .undef, V.cell (.ptr (.loc [5]) 0), .undef, .undef, .undef, .undef, .undef, .undef, .undef, .undef, .undef, .undef, .undef, .undef, .undef, .undef, .undef, .undef, .undef, .undef, .undef, .undef, .undef, .undef, .undef, .undef, .undef, .undef, .undef], [(.loc [5], fnR2), (.loc [3], evC ⟨2, player, other, frame, inp, n⟩), (.arg 0, ctB (.arg 0) c)]⟩) (.take 1 (.both [(0, .both [(2, .take 3 (.both [(4, .both [(5, .done)])])), (4, .both [(2, .take 3 (.both [(5, .done)]))])]), (2, .both [(0, .take 3 (.both [(4, .both [(5, .done)])])), (4, .both [(0, .take 3 (.both [(5, .done)]))])]), (4, .both [(0, .both [(2, .take 3 (.both [(5, .done)]))]), (2, .both [(0, .take 3 (.both [(5, .done)]))])])])) (by kernel_rfl) (by kernel_rfl) ?_ ?_
  · (refine zc ?_; try exact trivial)
    repeat' (with_reducible apply And.intro)
    all_goals (
      refine a_call [] (hows_h) ok0 ?_ ?_ ?_
      · (refine zs ?_; try exact trivial)
      · (refine zs ?_; try exact trivial)
      rintro _ _ ⟨rfl, rfl⟩
      (refine zc ?_; try exact trivial))
  · (refine zc ?_; try exact trivial)
    refine a_drawC (⟨[V.cell (.ptr (.arg 0) 0), .undef, .undef, V.cell (.ptr (.loc [3]) 0), .undef, V.cell (.ptr (.loc [5]) 0), .undef, .undef, .undef, .undef, .undef, .undef, .undef, .undef, .undef, .undef, .undef, .undef, .undef, .undef, .undef, .undef, .undef, .undef, .undef, .undef, .undef, V.bool (!decide (other = 0 ∧ frame = 0 ∧ U16 inp = 0 ∧ n = 0)), .undef, .undef, .undef, .undef, .undef], [(.loc [5], fnR2), (.loc [3], evC ⟨2, player, other, frame, inp, n⟩), (.arg 0, ctB (.arg 0) c)]⟩) (.take 0 (.take 4 (.both [(1, .both [(2, .both [(3, .both [(5, .both [(6, .take 7 (.done))])]), (5, .both [(3, .both [(6, .take 7 (.done))]), (6, .both [(3, .take 7 (.done))])])]), (5, .both [(2, .both [(3, .both [(6, .take 7 (.done))]), (6, .both [(3, .take 7 (.done))])]), (6, .both [(2, .both [(3, .take 7 (.done))])])])]), (2, .both [(1, .both [(3, .both [(5, .both [(6, .take 7 (.done))])]), (5, .both [(3, .both [(6, .take 7 (.done))]), (6, .both [(3, .take 7 (.done))])])]), (5, .both [(1, .both [(3, .both [(6, .take 7 (.done))]), (6, .both [(3, .take 7 (.done))])]), (6, .both [(1, .both [(3, .take 7 (.done))])])])]), (5, .both [(1, .both [(2, .both [(3, .both [(6, .take 7 (.done))]), (6, .both [(3, .take 7 (.done))])]), (6, .both [(2, .both [(3, .take 7 (.done))])])]), (2, .both [(1, .both [(3, .both [(6, .take 7 (.done))]), (6, .both [(3, .take 7 (.done))])]), (6, .both [(1, .both [(3, .take 7 (.done))])])]), (6, .both [(1, .both [(2, .both [(3, .take 7 (.done))])]), (2, .both [(1, .both [(3, .take 7 (.done))])])])])]))) (by kernel_rfl) (by kernel_rfl) ?_ ?_
    · (refine zc ?_; try exact trivial)
      repeat' (with_reducible apply And.intro)
      all_goals (
        refine a_call [] (bare2_h ⟨2, player, other, frame, inp, n⟩) ok0 ?_ ?_ ?_
        · (refine zs ?_; try exact trivial)
        · (refine zs ?_; try exact trivial)
        rintro _ _ ⟨rfl, rfl⟩
        (refine zc ?_; try exact trivial))
    · (refine zs ?_; try exact trivial)
      refine c_b (fun d => ?_) (fun d => ?_)
      · have d' : ¬ decide (other = 0 ∧ frame = 0 ∧ U16 inp = 0 ∧ n = 0) = true := not_t d
        rw [if_neg d']
        (refine zs ?_; try exact trivial)
      · have d' : decide (other = 0 ∧ frame = 0 ∧ U16 inp = 0 ∧ n = 0) = true := not_f d
        rw [if_pos d']
        (refine zs ?_; try exact trivial)
        refine a_call [.arg 0] (mayJoin_h c ⟨2, player, other, frame, inp, n⟩) (ok1 rfl) ?_ ?_ ?_
        · (refine zs ?_; try exact trivial)
        · (refine zs ?_; try exact trivial)
        rintro _ _ ⟨rfl, rfl⟩
        (refine zs ?_; try exact trivial)
set_option maxHeartbeats 4000000 in
theorem may3_h (c : Ct) (player other frame n : Int) (inp : UInt16) (h0 : c.in0.length ≤ 1000000) (h1 : c.in1.length ≤ 1000000) : Holds Try.prog 20 [.ptr (.arg 0) 0, .ev ⟨3, player, other, frame, inp, n⟩] [(.arg 0, ctB (.arg 0) c)] (fun r h' => r = .int .i64 (mayP18 c ⟨3, player, other, frame, inp, n⟩) ∧ h' = [(.arg 0, ctB (.arg 0) c)]) := by
  have eb : bareB ⟨3, player, other, frame, inp, n⟩ = decide (other = 0 ∧ n = 0) := rfl
  have em : mayP18 c ⟨3, player, other, frame, inp, n⟩ = if decide (other = 0 ∧ n = 0) = true then mayInputP c ⟨3, player, other, frame, inp, n⟩ else 3 := by
    unfold mayP18
    rw [if_neg (by simp only; omega), eb]
    rfl
  rw [em]
  refine holds_of_awp Try.func20 rfl (by decide +kernel) mixed Try.ntmps20 Try.results20 ?_
  simp only [entrySt, List.map_cons, List.map_nil, List.length_cons, List.length_nil, Nat.reduceAdd, Nat.reduceSub, List.replicate_succ, List.replicate_zero, List.cons_append, List.nil_append]
  (refine zc ?_; try exact trivial)
  refine a_drawC (⟨[V.cell (.ptr (.arg 0) 0), .undef, .undef, V.cell (.ptr (.loc [3]) 0), .undef, V.cell (.ptr (.loc [5]) 0), .undef, .undef, .undef, .undef, .undef, .undef, .undef, .undef, .undef, .undef, .undef, .undef, .undef, .undef, .undef, .undef, .undef, .undef, .undef, .undef, .undef, .undef, .undef, .undef, .undef, .undef, .undef], [(.loc [5], fnR3), (.loc [3], evC ⟨3, player, other, frame, inp, n⟩), (.arg 0, ctB (.arg 0) c)]⟩) (.take 1 (.both [(0, .both [(2, .take 3 (.both [(4, .both [(5, .done)])])), (4, .both [(2, .take 3 (.both [(5, .done)]))])]), (2, .both [(0, .take 3 (.both [(4, .both [(5, .done)])])), (4, .both [(0, .take 3 (.both [(5, .done)]))])]), (4, .both [(0, .both [(2, .take 3 (.both [(5, .done)]))]), (2, .both [(0, .take 3 (.both [(5, .done)]))])])])) (by kernel_rfl) (by kernel_rfl) ?_ ?_
  · (refine zc ?_; try exact trivial)
    repeat' (with_reducible apply And.intro)
    all_goals (
      refine a_call [] (hows_h) ok0 ?_ ?_ ?_
      · (refine zs ?_; try exact trivial)
      · (refine zs ?_; try exact trivial)
      rintro _ _ ⟨rfl, rfl⟩
      (refine zc ?_; try exact trivial))
  · (refine zc ?_; try exact trivial)
    refine a_drawC (⟨[V.cell (.ptr (.arg 0) 0), .undef, .undef, V.cell (.ptr (.loc [3]) 0), .undef, V.cell (.ptr (.loc [5]) 0), .undef, .undef, .undef, .undef, .undef, .undef, .undef, .undef, .undef, .undef, .undef, .undef, .undef, .undef, .undef, .undef, .undef, .undef, .undef, .undef, .undef, V.bool (!decide (other = 0 ∧ n = 0)), .undef, .undef, .undef, .undef, .undef], [(.loc [5], fnR3), (.loc [3], evC ⟨3, player, other, frame, inp, n⟩), (.arg 0, ctB (.arg 0) c)]⟩) (.take 0 (.take 4 (.both [(1, .both [(2, .both [(3, .both [(5, .both [(6, .take 7 (.done))])]), (5, .both [(3, .both [(6, .take 7 (.done))]), (6, .both [(3, .take 7 (.done))])])]), (5, .both [(2, .both [(3, .both [(6, .take 7 (.done))]), (6, .both [(3, .take 7 (.done))])]), (6, .both [(2, .both [(3, .take 7 (.done))])])])]), (2, .both [(1, .both [(3, .both [(5, .both [(6, .take 7 (.done))])]), (5, .both [(3, .both [(6, .take 7 (.done))]), (6, .both [(3, .take 7 (.done))])])]), (5, .both [(1, .both [(3, .both [(6, .take 7 (.done))]), (6, .both [(3, .take 7 (.done))])]), (6, .both [(1, .both [(3, .take 7 (.done))])])])]), (5, .both [(1, .both [(2, .both [(3, .both [(6, .take 7 (.done))]), (6, .both [(3, .take 7 (.done))])]), (6, .both [(2, .both [(3, .take 7 (.done))])])]), (2, .both [(1, .both [(3, .both [(6, .take 7 (.done))]), (6, .both [(3, .take 7 (.done))])]), (6, .both [(1, .both [(3, .take 7 (.done))])])]), (6, .both [(1, .both [(2, .both [(3, .take 7 (.done))])]), (2, .both [(1, .both [(3, .take 7 (.done))])])])])]))) (by kernel_rfl) (by kernel_rfl) ?_ ?_
    · (refine zc ?_; try exact trivial)
      repeat' (with_reducible apply And.intro)
      all_goals (
        refine a_call [] (bare3_h ⟨3, player, other, frame, inp, n⟩) ok0 ?_ ?_ ?_
        · (refine zs ?_; try exact trivial)
        · (refine zs ?_; try exact trivial)
        rintro _ _ ⟨rfl, rfl⟩
        (refine zc ?_; try exact trivial))
    · (refine zs ?_; try exact trivial)
      refine c_b (fun d => ?_) (fun d => ?_)
      · have d' : ¬ decide (other = 0 ∧ n = 0) = true := not_t d
        rw [if_neg d']
        (refine zs ?_; try exact trivial)
      · have d' : decide (other = 0 ∧ n = 0) = true := not_f d
        rw [if_pos d']
        (refine zs ?_; try exact trivial)
        refine a_call [.arg 0] (mayInput_h c ⟨3, player, other, frame, inp, n⟩ h0 h1) (ok1 rfl) ?_ ?_ ?_
        · (refine zs ?_; try exact trivial)
        · (refine zs ?_; try exact trivial)
        rintro _ _ ⟨rfl, rfl⟩
        (refine zs ?_; try exact trivial)
set_option maxHeartbeats 4000000 in
theorem may4_h (c : Ct) (player other frame n : Int) (inp : UInt16) : Holds Try.prog 20 [.ptr (.arg 0) 0, .ev ⟨4, player, other, frame, inp, n⟩] [(.arg 0, ctB (.arg 0) c)] (fun r h' => r = .int .i64 (mayP18 c ⟨4, player, other, frame, inp, n⟩) ∧ h' = [(.arg 0, ctB (.arg 0) c)]) := by
  have eb : bareB ⟨4, player, other, frame, inp, n⟩ = decide (other = 0 ∧ frame = 0 ∧ U16 inp = 0 ∧ n = 0) := rfl
  have em : mayP18 c ⟨4, player, other, frame, inp, n⟩ = if decide (other = 0 ∧ frame = 0 ∧ U16 inp = 0 ∧ n = 0) = true then actP c player else 3 := by
    unfold mayP18
    rw [if_neg (by simp only; omega), eb]
    rfl
  rw [em]
  refine holds_of_awp Try.func20 rfl (by decide +kernel) mixed Try.ntmps20 Try.results20 ?_
  simp only [entrySt, List.map_cons, List.map_nil, List.length_cons, List.length_nil, Nat.reduceAdd, Nat.reduceSub, List.replicate_succ, List.replicate_zero, List.cons_append, List.nil_append]
  (refine zc ?_; try exact trivial)
  refine a_drawC (⟨[V.cell (.ptr (.arg 0) 0), .undef, .undef, V.cell (.ptr (.loc [3]) 0), .undef, V.cell (.ptr (.loc [5]) 0), .undef, .undef, .undef, .undef, .undef, .undef, .undef, .undef, .undef, .undef, .undef, .undef, .undef, .undef, .undef, .undef, .undef, .undef, .undef, .undef, .undef, .undef, .undef, .undef, .undef, .undef, .undef], [(.loc [5], fnR4), (.loc [3], evC ⟨4, player, other, frame, inp, n⟩), (.arg 0, ctB (.arg 0) c)]⟩) (.take 1 (.both [(0, .both [(2, .take 3 (.both [(4, .both [(5, .done)])])), (4, .both [(2, .take 3 (.both [(5, .done)]))])]), (2, .both [(0, .take 3 (.both [(4, .both [(5, .done)])])), (4, .both [(0, .take 3 (.both [(5, .done)]))])]), (4, .both [(0, .both [(2, .take 3 (.both [(5, .done)]))]), (2, .both [(0, .take 3 (.both [(5, .done)]))])])])) (by kernel_rfl) (by kernel_rfl) ?_ ?_
  · (refine zc ?_; try exact trivial)
    repeat' (with_reducible apply And.intro)
    all_goals (
      refine a_call [] (hows_h) ok0 ?_ ?_ ?_
      · (refine zs ?_; try exact trivial)
      · (refine zs ?_; try exact trivial)
      rintro _ _ ⟨rfl, rfl⟩
      (refine zc ?_; try exact trivial))
  · (refine zc ?_; try exact trivial)
    refine a_drawC (⟨[V.cell (.ptr (.arg 0) 0), .undef, .undef, V.cell (.ptr (.loc [3]) 0), .undef, V.cell (.ptr (.loc [5]) 0), .undef, .undef, .undef, .undef, .undef, .undef, .undef, .undef, .undef, .undef, .undef, .undef, .undef, .undef, .undef, .undef, .undef, .undef, .undef, .undef, .undef, V.bool (!decide (other = 0 ∧ frame = 0 ∧ U16 inp = 0 ∧ n = 0)), .undef, .undef, .undef, .undef, .undef], [(.loc [5], fnR4), (.loc [3], evC ⟨4, player, other, frame, inp, n⟩), (.arg 0, ctB (.arg 0) c)]⟩) (.take 0 (.take 4 (.both [(1, .both [(2, .both [(3, .both [(5, .both [(6, .take 7 (.done))])]), (5, .both [(3, .both [(6, .take 7 (.done))]), (6, .both [(3, .take 7 (.done))])])]), (5, .both [(2, .both [(3, .both [(6, .take 7 (.done))]), (6, .both [(3, .take 7 (.done))])]), (6, .both [(2, .both [(3, .take 7 (.done))])])])]), (2, .both [(1, .both [(3, .both [(5, .both [(6, .take 7 (.done))])]), (5, .both [(3, .both [(6, .take 7 (.done))]), (6, .both [(3, .take 7 (.done))])])]), (5, .both [(1, .both [(3, .both [(6, .take 7 (.done))]), (6, .both [(3, .take 7 (.done))])]), (6, .both [(1, .both [(3, .take 7 (.done))])])])]), (5, .both [(1, .both [(2, .both [(3, .both [(6, .take 7 (.done))]), (6, .both [(3, .take 7 (.done))])]), (6, .both [(2, .both [(3, .take 7 (.done))])])]), (2, .both [(1, .both [(3, .both [(6, .take 7 (.done))]), (6, .both [(3, .take 7 (.done))])]), (6, .both [(1, .both [(3, .take 7 (.done))])])]), (6, .both [(1, .both [(2, .both [(3, .take 7 (.done))])]), (2, .both [(1, .both [(3, .take 7 (.done))])])])])]))) (by kernel_rfl) (by kernel_rfl) ?_ ?_
    · (refine zc ?_; try exact trivial)
      repeat' (with_reducible apply And.intro)
      all_goals (
        refine a_call [] (bare4_h ⟨4, player, other, frame, inp, n⟩) ok0 ?_ ?_ ?_
        · (refine zs ?_; try exact trivial)
        · (refine zs ?_; try exact trivial)
        rintro _ _ ⟨rfl, rfl⟩
        (refine zc ?_; try exact trivial))
    · (refine zs ?_; try exact trivial)
      refine c_b (fun d => ?_) (fun d => ?_)
      · have d' : ¬ decide (other = 0 ∧ frame = 0 ∧ U16 inp = 0 ∧ n = 0) = true := not_t d
        rw [if_neg d']
        (refine zs ?_; try exact trivial)
      · have d' : decide (other = 0 ∧ frame = 0 ∧ U16 inp = 0 ∧ n = 0) = true := not_f d
        rw [if_pos d']
        (refine zs ?_; try exact trivial)
        refine a_call [.arg 0] (mayForfeit_h c ⟨4, player, other, frame, inp, n⟩) (ok1 rfl) ?_ ?_ ?_
        · (refine zs ?_; try exact trivial)
        · (refine zs ?_; try exact trivial)
        rintro _ _ ⟨rfl, rfl⟩
        (refine zs ?_; try exact trivial)
set_option maxHeartbeats 4000000 in
theorem may5_h (c : Ct) (player other frame n : Int) (inp : UInt16) (hw : 0 ≤ c.st.win ∧ c.st.win ≤ 2) : Holds Try.prog 20 [.ptr (.arg 0) 0, .ev ⟨5, player, other, frame, inp, n⟩] [(.arg 0, ctB (.arg 0) c)] (fun r h' => r = .int .i64 (mayP18 c ⟨5, player, other, frame, inp, n⟩) ∧ h' = [(.arg 0, ctB (.arg 0) c)]) := by
  have eb : bareB ⟨5, player, other, frame, inp, n⟩ = decide (other = 0 ∧ frame = 0 ∧ U16 inp = 0) := rfl
  have em : mayP18 c ⟨5, player, other, frame, inp, n⟩ = if decide (other = 0 ∧ frame = 0 ∧ U16 inp = 0) = true then mayResultP c ⟨5, player, other, frame, inp, n⟩ else 3 := by
    unfold mayP18
    rw [if_neg (by simp only; omega), eb]
    rfl
  rw [em]
  refine holds_of_awp Try.func20 rfl (by decide +kernel) mixed Try.ntmps20 Try.results20 ?_
  simp only [entrySt, List.map_cons, List.map_nil, List.length_cons, List.length_nil, Nat.reduceAdd, Nat.reduceSub, List.replicate_succ, List.replicate_zero, List.cons_append, List.nil_append]
  (refine zc ?_; try exact trivial)
  refine a_drawC (⟨[V.cell (.ptr (.arg 0) 0), .undef, .undef, V.cell (.ptr (.loc [3]) 0), .undef, V.cell (.ptr (.loc [5]) 0), .undef, .undef, .undef, .undef, .undef, .undef, .undef, .undef, .undef, .undef, .undef, .undef, .undef, .undef, .undef, .undef, .undef, .undef, .undef, .undef, .undef, .undef, .undef, .undef, .undef, .undef, .undef], [(.loc [5], fnR5), (.loc [3], evC ⟨5, player, other, frame, inp, n⟩), (.arg 0, ctB (.arg 0) c)]⟩) (.take 1 (.both [(0, .both [(2, .take 3 (.both [(4, .both [(5, .done)])])), (4, .both [(2, .take 3 (.both [(5, .done)]))])]), (2, .both [(0, .take 3 (.both [(4, .both [(5, .done)])])), (4, .both [(0, .take 3 (.both [(5, .done)]))])]), (4, .both [(0, .both [(2, .take 3 (.both [(5, .done)]))]), (2, .both [(0, .take 3 (.both [(5, .done)]))])])])) (by kernel_rfl) (by kernel_rfl) ?_ ?_
  · (refine zc ?_; try exact trivial)
    repeat' (with_reducible apply And.intro)
    all_goals (
      refine a_call [] (hows_h) ok0 ?_ ?_ ?_
      · (refine zs ?_; try exact trivial)
      · (refine zs ?_; try exact trivial)
      rintro _ _ ⟨rfl, rfl⟩
      (refine zc ?_; try exact trivial))
  · (refine zc ?_; try exact trivial)
    refine a_drawC (⟨[V.cell (.ptr (.arg 0) 0), .undef, .undef, V.cell (.ptr (.loc [3]) 0), .undef, V.cell (.ptr (.loc [5]) 0), .undef, .undef, .undef, .undef, .undef, .undef, .undef, .undef, .undef, .undef, .undef, .undef, .undef, .undef, .undef, .undef, .undef, .undef, .undef, .undef, .undef, V.bool (!decide (other = 0 ∧ frame = 0 ∧ U16 inp = 0)), .undef, .undef, .undef, .undef, .undef], [(.loc [5], fnR5), (.loc [3], evC ⟨5, player, other, frame, inp, n⟩), (.arg 0, ctB (.arg 0) c)]⟩) (.take 0 (.take 4 (.both [(1, .both [(2, .both [(3, .both [(5, .both [(6, .take 7 (.done))])]), (5, .both [(3, .both [(6, .take 7 (.done))]), (6, .both [(3, .take 7 (.done))])])]), (5, .both [(2, .both [(3, .both [(6, .take 7 (.done))]), (6, .both [(3, .take 7 (.done))])]), (6, .both [(2, .both [(3, .take 7 (.done))])])])]), (2, .both [(1, .both [(3, .both [(5, .both [(6, .take 7 (.done))])]), (5, .both [(3, .both [(6, .take 7 (.done))]), (6, .both [(3, .take 7 (.done))])])]), (5, .both [(1, .both [(3, .both [(6, .take 7 (.done))]), (6, .both [(3, .take 7 (.done))])]), (6, .both [(1, .both [(3, .take 7 (.done))])])])]), (5, .both [(1, .both [(2, .both [(3, .both [(6, .take 7 (.done))]), (6, .both [(3, .take 7 (.done))])]), (6, .both [(2, .both [(3, .take 7 (.done))])])]), (2, .both [(1, .both [(3, .both [(6, .take 7 (.done))]), (6, .both [(3, .take 7 (.done))])]), (6, .both [(1, .both [(3, .take 7 (.done))])])]), (6, .both [(1, .both [(2, .both [(3, .take 7 (.done))])]), (2, .both [(1, .both [(3, .take 7 (.done))])])])])]))) (by kernel_rfl) (by kernel_rfl) ?_ ?_
    · (refine zc ?_; try exact trivial)
      repeat' (with_reducible apply And.intro)
      all_goals (
        refine a_call [] (bare5_h ⟨5, player, other, frame, inp, n⟩) ok0 ?_ ?_ ?_
        · (refine zs ?_; try exact trivial)
        · (refine zs ?_; try exact trivial)
        rintro _ _ ⟨rfl, rfl⟩
        (refine zc ?_; try exact trivial))
    · (refine zs ?_; try exact trivial)
      refine c_b (fun d => ?_) (fun d => ?_)
      · have d' : ¬ decide (other = 0 ∧ frame = 0 ∧ U16 inp = 0) = true := not_t d
        rw [if_neg d']
        (refine zs ?_; try exact trivial)
      · have d' : decide (other = 0 ∧ frame = 0 ∧ U16 inp = 0) = true := not_f d
        rw [if_pos d']
        (refine zs ?_; try exact trivial)
        refine a_call [.arg 0] (mayResult_h c ⟨5, player, other, frame, inp, n⟩ hw) (ok1 rfl) ?_ ?_ ?_
        · (refine zs ?_; try exact trivial)
        · (refine zs ?_; try exact trivial)
        rintro _ _ ⟨rfl, rfl⟩
        (refine zs ?_; try exact trivial)
end Go.Proofs.Ytamcjecgkfmjkaa
