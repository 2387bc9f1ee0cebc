/- The laws of chapter 2, walked. -/
import Derived.Test.YtfjcflmhboepmaaProg
import Derived.Test.YtfjcflmhboepmaaLw2
import Derived.Test.YtfjcflmhboepmaaKnow
import Derived.Test.YtfjcflmhboepmaaEqA
import Derived.Test.YtfjcflmhboepmaaDigU
open Go Go.RowKit
namespace Go.Proofs.Ytfjcflmhboepmaa

theorem eqStrT (t : TypeId) (x : ByteArray) : binOp .eql t (.string x) (.string x) = pure (.bool true) := by
  rw [binOp_string_eql]; simp
theorem wpBS' {P : Program} {ops : Array Oper} {rest : List Oper} {o : Oper} {a : Act} {w : World} {Q : Exit → Act → World → Prop} (t : TypeId) (n : Nat) (parts : Array (Nat × Operand)) (ho : o.op = .buildSlice t n parts) (cs : Array Value) (e : TypeId)
    (vs : Array (Nat × Value)) (hvs : (parts.map fun (i, x) => (i, a.eval x)) = vs) (hrun : ∀ w, (Instr.buildSlice t n vs).run P w = .ok (.slice (some ⟨w.heap.size, 0, none⟩) n n) (w.alloc (.cells cs e))) (hw : Region.wanted o (yielded ops a.tmps) = true)
    (h : ∀ (g : Nat) (w' : World), w.heap.size ≤ g → Blk w' g e cs → Kept [] w w' → wpList P ops Q rest (a.put o.dst (.slice (some ⟨g, 0, none⟩) n n)) w') : wpList P ops Q (o :: rest) a w :=
  wpList_step fun _ hK => by
    rw [if_pos hw]
    unfold Oper.wp execOp
    simp only [ho, hvs, Sem.run_bind, hrun]
    exact hK _ _ (h _ _ (Nat.le_refl _) (Blk.new w e cs) ((Kept.refl [] w).alloc _))
/-- a conversion of a byte slice to its own type marks the row and keeps its cells -/
theorem run_conv_mark {P : Program} (w : World) (t e : TypeId) (g n c : Nat) (cs : Array Value) (ht : P.underlying t = some (.slice e)) (he : P.underlying e = some (.int .u8)) (hb : Blk w g e cs) :
    ∃ w', (convert t t (.slice (some ⟨g, 0, none⟩) n c)).run P w = .ok (.slice (some ⟨g, 0, none⟩) n c) w' ∧ Rd w' (some ⟨g, 0, none⟩) cs.toList ∧ Kept [g] w w' := by
  have hsh : w.shape? g = some (e, cs.size) := by unfold World.shape?; rw [show w.heap[g]? = _ from hb]
  refine ⟨w.freeze ⟨g, cs.size, none⟩ 1, ?_, ?_, ?_⟩
  · simp [convert, run_underlying ht, run_underlying he, markStringish, hsh]
  · have hg : (w.freeze ⟨g, cs.size, none⟩ 1).heap[g]? = some (.cells cs e (cs.size, cs.size + 1)) := by
      unfold World.freeze
      rw [if_neg (by decide)]
      show (w.heap.modify g _)[g]? = _
      rw [Array.getElem?_modify, if_pos rfl, show w.heap[g]? = _ from hb]
      rfl
    intro _
    refine ⟨_, rfl, fun i v hv => ?_⟩
    rw [add_mk, cell_of_row _ g _ cs e _ hg]
    simpa using hv
  · unfold World.freeze
    rw [if_neg (by decide)]
    refine ⟨rfl, rfl, rfl, by simp, fun k _ hk => ?_⟩
    show (w.heap.modify g _)[k]? = _
    rw [Array.getElem?_modify, if_neg (by intro h; subst h; simp at hk)]
theorem wpCv {ops : Array Oper} {rest : List Oper} {o : Oper} {a : Act} {w : World} {Q : Exit → Act → World → Prop} (x : Operand)
    (ho : o.op = .convert 22 22 x) (w0 : World) (g n c : Nat) (xs : List UInt8) (hx : a.eval x = .slice (some ⟨g, 0, none⟩) n c) (hb : Blk w g 5 (bcells xs)) (hk : Kept [] w0 w) (hg : w0.heap.size ≤ g) (hw : Region.wanted o (yielded ops a.tmps) = true)
    (h : ∀ (w' : World), Rd w' (some ⟨g, 0, none⟩) (xs.map BV) → Kept [] w0 w' → wpList Try.prog ops Q rest (a.put o.dst (.slice (some ⟨g, 0, none⟩) n c)) w') : wpList Try.prog ops Q (o :: rest) a w :=
  wpList_step fun _ hK => by
    rw [if_pos hw]
    obtain ⟨w', hrun, hr, hk'⟩ := run_conv_mark (P := Try.prog) w 22 5 g n c _ Try.underlying22 Try.underlying5 hb
    unfold Oper.wp execOp
    simp only [ho, hx, Sem.run_bind, hrun]
    exact hK _ _ (h _ hr (hk.then_ hk' (by intro i hi; simp at hi; subst hi; exact .inr hg)))
set_option maxRecDepth 100000 in
set_option maxHeartbeats 2000000 in
theorem known2 (w : World) : Calls Try.prog 19 #[] w fun e w' => e = .returned (.bool true) ∧ Kept [] w w' := by
  go_enter Try.func19, Try.ntmps19
  go_wp2_with (first
    | (change wpList _ _ _ ({ dst := some 1, op := .buildSlice _ _ _, type := _, pos := _, after := _, guard := _ } :: _) _ _
       refine wpBS' _ _ _ rfl (bcells [97, 98, 99]) 5 #[(0, .int .u8 97), (1, .int .u8 98), (2, .int .u8 99)] (by simp only [List.map_toArray, List.map_cons, List.map_nil] <;> rfl) (by intro w; go_simp; rfl) rfl ?_
       intro B1 w1 hB1 hbB1 hkw1)
    | (change wpList _ _ _ ({ dst := some 2, op := .convert _ _ _, type := _, pos := _, after := _, guard := _ } :: _) _ _
       refine wpCv (.tmp 1) rfl w B1 _ _ [97, 98, 99] rfl hbB1 hkw1 hB1 rfl ?_
       clear hbB1 hkw1
       intro w1c hrB1 hkw1c))
  (with_reducible refine (dSumN _ (some ⟨B1, 0, none⟩) 3 3 [97, 98, 99] rfl hrB1 (by omega) (by omega)).mono ?_)
  rintro e w2 ⟨rfl, hk2⟩
  go_wp2_with fail
  (with_reducible refine (dHex _ (sha [97, 98, 99]) (sha_len _)).mono ?_)
  rintro e w3 ⟨rfl, hk3⟩
  rw [abcHex]
  have hk3' := hide ((hkw1c.trans hk2).trans hk3)
  clear hkw1c hk2 hk3 hrB1 hB1
  go_wp2_with (first
    | (change wpList _ _ _ ({ dst := some 7, op := .buildSlice _ _ _, type := _, pos := _, after := _, guard := _ } :: _) _ _
       refine wpBS' _ _ _ rfl (bcells [107, 101, 121]) 5 #[(0, .int .u8 107), (1, .int .u8 101), (2, .int .u8 121)] (by simp only [List.map_toArray, List.map_cons, List.map_nil] <;> rfl) (by intro w; go_simp; rfl) rfl ?_
       intro B2 w4 hB2 hbB2 hkw4)
    | (change wpList _ _ _ ({ dst := some 8, op := .convert _ _ _, type := _, pos := _, after := _, guard := _ } :: _) _ _
       refine wpCv (.tmp 7) rfl w3 B2 _ _ [107, 101, 121] rfl hbB2 hkw4 hB2 rfl ?_
       clear hbB2 hkw4
       intro w4c hrB2 hkw4c)
    | (change wpList _ _ _ ({ dst := some 9, op := .buildSlice _ _ _, type := _, pos := _, after := _, guard := _ } :: _) _ _
       refine wpBS' _ _ _ rfl (bcells foxP) 5 #[(0, .int .u8 84), (1, .int .u8 104), (2, .int .u8 101), (3, .int .u8 32), (4, .int .u8 113), (5, .int .u8 117), (6, .int .u8 105), (7, .int .u8 99), (8, .int .u8 107), (9, .int .u8 32), (10, .int .u8 98), (11, .int .u8 114), (12, .int .u8 111), (13, .int .u8 119), (14, .int .u8 110), (15, .int .u8 32), (16, .int .u8 102), (17, .int .u8 111), (18, .int .u8 120), (19, .int .u8 32), (20, .int .u8 106), (21, .int .u8 117), (22, .int .u8 109), (23, .int .u8 112), (24, .int .u8 115), (25, .int .u8 32), (26, .int .u8 111), (27, .int .u8 118), (28, .int .u8 101), (29, .int .u8 114), (30, .int .u8 32), (31, .int .u8 116), (32, .int .u8 104), (33, .int .u8 101), (34, .int .u8 32), (35, .int .u8 108), (36, .int .u8 97), (37, .int .u8 122), (38, .int .u8 121), (39, .int .u8 32), (40, .int .u8 100), (41, .int .u8 111), (42, .int .u8 103)] (by simp only [List.map_toArray, List.map_cons, List.map_nil] <;> rfl) (by intro w; go_simp; rfl) rfl ?_
       intro B3 w5 hB3 hbB3 hkw5)
    | (change wpList _ _ _ ({ dst := some 10, op := .convert _ _ _, type := _, pos := _, after := _, guard := _ } :: _) _ _
       refine wpCv (.tmp 9) rfl w4c B3 _ _ foxP rfl hbB3 hkw5 hB3 rfl ?_
       clear hbB3 hkw5
       intro w5c hrB3 hkw5c))
  (with_reducible refine (dMac _ (some ⟨B2, 0, none⟩) (some ⟨B3, 0, none⟩) 3 3 43 43 [107, 101, 121] foxP rfl (hrB2.kept hkw5c (by simp)) (by omega) (by omega) rfl hrB3 (by omega)).mono ?_)
  rintro e w6 ⟨rfl, hk6⟩
  go_wp2_with fail
  (with_reducible refine (dHex _ (macS [107, 101, 121] foxP) (macS_len _ _)).mono ?_)
  rintro e w7 ⟨rfl, hk7⟩
  rw [foxHex]
  have KK := (((hk3'.out.trans hkw4c).trans hkw5c).trans hk6).trans hk7
  clear hk3' hkw4c hkw5c hk6 hk7
  go_wp2
  go_ret
  exact ⟨rfl, KK⟩

theorem Rd.front {w : World} {A : Option Addr} {p q : List UInt8} (h : Rd w A ((p ++ q).map BV)) : Rd w A (p.map BV) := by
  have := Rd.take h p.length
  rwa [← List.map_take, List.take_left] at this
theorem eqSame (xs : List UInt8) (hx : xs.length = 32) (w : World) : (binOp .eql 25 (.agg (bcells xs)) (.agg (bcells xs))).run Try.prog w = .ok (.bool true) w := by
  rw [eqHash w xs xs hx hx]; simp

section
attribute [local go_sem high] run_cutH8
set_option maxRecDepth 100000 in
set_option maxHeartbeats 2000000 in
theorem digestSums (w : World) (A : Option Addr) (n c : Nat) (p : List UInt8) (hn : p.length = n) (hr : Rd w A (p.map BV)) (hc : n ≤ c) :
    Calls Try.prog 3 #[.slice A n c] w fun e w' => e = .returned (.bool true) ∧ Kept [] w w' := by
  have HR := hide hr; have HN := hide hn; have HC := hide hc
  clear hr hn hc
  go_enter Try.func3, Try.ntmps3
  by_cases hbig : 1500 < n
  · go_wp2
    go_ret
    exact ⟨rfl, Kept.refl _ _⟩
  · go_wp2_with fail
    (with_reducible refine (L2.roomy _ A n c p HN.out HR.out (by omega)).mono ?_)
    rintro e w1 ⟨A1, c1, rfl, hr1, hc1, hk1⟩
    have HR1 := hide hr1; have HC1 := hide hc1; have HK1 := hide hk1
    clear hr1 hc1 hk1
    have hnc : n ≤ c1 := by have := HC1.out; omega
    have HS := eqSame (sha p) (sha_len p)
    go_wp2_with fail
    (with_reducible refine (dSumN _ A1 n c1 p HN.out HR1.out.front (by have := HC1.out; omega) (by omega)).mono ?_)
    rintro e w2 ⟨rfl, hk2⟩
    have HK2 := hide (HK1.out.trans hk2)
    go_wp2_with fail
    (with_reducible refine (rSum _ A n c p HN.out (HR.out.kept HK2.out (by simp)) (by omega)).mono ?_)
    rintro e w3 ⟨rfl, hk3⟩
    have HK3 := hide (HK2.out.trans hk3); have HR3 := hide (HR1.out.kept (hk2.trans hk3) (by simp))
    clear hk2 hk3 HK1 HK2 HR1
    go_wp2_with fail
    (with_reducible refine (L2.stands _ A1 A n c1 (n + 1) c p HN.out rfl HR3.out (HR.out.kept HK3.out (by simp)) HC1.out (by omega)).mono ?_)
    rintro e w4 ⟨rfl, hk4⟩
    have HK4 := hide (HK3.out.trans hk4)
    clear hk4 HK3
    go_wp2_with fail
    (with_reducible refine (known2 _).mono ?_)
    rintro e w5 ⟨rfl, hk5⟩
    have HK5 := HK4.out.trans hk5
    go_wp2
    go_ret
    exact ⟨rfl, HK5⟩
end
end Go.Proofs.Ytfjcflmhboepmaa
