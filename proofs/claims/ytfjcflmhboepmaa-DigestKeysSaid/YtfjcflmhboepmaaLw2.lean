/- law package 2: same, roomy, stands. -/
import Derived.Test.YtfjcflmhboepmaaProg
import Derived.Test.YtfjcflmhboepmaaApp
open Go Go.RowKit
namespace Go.Proofs.Ytfjcflmhboepmaa
namespace L2

theorem beqU8 (a b : UInt8) : (U8 a == U8 b) = decide (a = b) := by
  rw [Bool.eq_iff_iff]; simp [U8_inj]
theorem bneU8 (a b : UInt8) : (U8 a != U8 b) = !decide (a = b) := by
  rw [bne, beqU8]
theorem rdAt {w : World} {a : Addr} {bs : List UInt8} (h : ∀ i v, (bs.map BV)[i]? = some v → w.cell? (a.add i) = some v) (i : Nat) (hi : i < bs.length) :
    w.cell? (a.add i) = some (.int .u8 (U8 bs[i])) := h i _ (by simp [BV, hi])
theorem take_next {xs ys : List UInt8} {k : Nat} (hx : k < xs.length) (hy : k < ys.length) (h : xs.take k = ys.take k) (e : xs[k] = ys[k]) : xs.take (k + 1) = ys.take (k + 1) := by
  rw [List.take_succ_eq_append_getElem hx, List.take_succ_eq_append_getElem hy, h, e]

set_option maxRecDepth 100000 in
set_option maxHeartbeats 1000000 in
theorem same (w : World) (A B : Option Addr) (n c m d : Nat) (xs ys : List UInt8) (hx : xs.length = n) (hy : ys.length = m) (ha : Rd w A (xs.map BV)) (hb : Rd w B (ys.map BV)) (hn : n ≤ 1099511627776) :
    Calls Try.prog 53 #[.slice A n c, .slice B m d] w fun e w' => e = .returned (.bool (decide (xs = ys))) ∧ Kept [] w w' := by
  have HA := hide ha; have HB := hide hb; have HX := hide hx; have HY := hide hy
  clear ha hb
  by_cases hnm : n = m
  · clear hx hy
    subst hnm
    go_enter Try.func53, Try.ntmps53
    go_wp2
    go_loopw [5] (fun s wr => ∃ k : Nat, k ≤ n ∧ s = .int .i64 (k : Int) ∧ Hid (xs.take k = ys.take k) ∧ Kept [] w wr) (fun s _ => n - (intOf s).toNat)
    case atStart => exact ⟨0, by omega, rfl, hide rfl, Kept.refl _ _⟩
    case round =>
      obtain ⟨k, hk, rfl, HE, hkw⟩ := hrel
      have HKW := hide hkw; clear hkw
      by_cases hlt : k < n
      · obtain ⟨a, rfl, hca⟩ := (HA.out.kept HKW.out (by simp)) (by rw [List.length_map, HX.out]; omega)
        obtain ⟨b, rfl, hcb⟩ := (HB.out.kept HKW.out (by simp)) (by rw [List.length_map, HY.out]; omega)
        have c1 := rdAt hca k (by rw [HX.out]; omega)
        have c2 := rdAt hcb k (by rw [HY.out]; omega)
        obtain ⟨x, hx⟩ : ∃ x, xs[k]'(by rw [HX.out]; omega) = x := ⟨_, rfl⟩
        obtain ⟨y, hy⟩ : ∃ y, ys[k]'(by rw [HY.out]; omega) = y := ⟨_, rfl⟩
        rw [hx] at c1
        rw [hy] at c2
        have HXK := hide hx; have HYK := hide hy
        clear hx hy hca hcb
        have l1 : (k : Int) < (n : Int) := by omega
        by_cases hxy : x = y
        · have hb0 : (U8 x != U8 y) = false := by rw [bneU8]; simp [hxy]
          have HXY := hide hxy; clear hxy
          go_wp2
          refine wp_region_still_lit (by kernel_rfl) (by kernel_rfl) ?_
          repeat still_step
          refine wpStill_nil ?_
          change Exit.then _ _ Exit.normal _ wr.drew
          have HK2 := hide HKW.out.drew
          clear c1 c2
          generalize wr.drew = wd at *
          go_wp2
          go_roundw
          case rel => exact ⟨k + 1, by omega, by go_num, hide (take_next (by rw [HX.out]; omega) (by rw [HY.out]; omega) HE.out (HXK.out.trans (HXY.out.trans HYK.out.symm))), HK2.out⟩
          case measure => simp [intOf]; omega
        · have hb0 : (U8 x != U8 y) = true := by rw [bneU8]; simp [hxy]
          have HXY := hide hxy; clear hxy
          have HF := hide (p := decide (xs = ys) = false) (by
            rw [decide_eq_false_iff_not]
            intro e
            refine HXY.out ?_
            rw [← HXK.out, ← HYK.out]
            simp [e])
          go_wp2
          refine wp_region_still_lit (by kernel_rfl) (by kernel_rfl) ?_
          repeat still_step
          refine wpStill_nil ?_
          change Exit.then _ _ Exit.normal _ wr.drew
          have HK2 := hide HKW.out.drew
          clear c1 c2
          generalize wr.drew = wd at *
          go_wp2
          go_ret
          exact ⟨by rw [HF.out]; rfl, HK2.out⟩
      · have HF := hide (p := decide (xs = ys) = true) (by
          have hkn : k = n := by omega
          have := HE.out
          rw [hkn, List.take_of_length_le (by rw [HX.out]; omega), List.take_of_length_le (by rw [HY.out]; omega)] at this
          simp [this])
        have hd9 : decide ((k : Int) < (n : Int)) = false := by simp; omega
        go_wp2
        go_ret
        exact ⟨by rw [HF.out]; rfl, HKW.out⟩
  · have HF := hide (p := decide (xs = ys) = false) (by
      rw [decide_eq_false_iff_not]
      intro e
      subst e
      exact hnm (hx.symm.trans hy))
    have hb0 : ((n : Int) != (m : Int)) = true := by rw [bne_iff_ne]; omega
    clear hx hy
    go_enter Try.func53, Try.ntmps53
    go_wp2
    go_ret
    exact ⟨by rw [HF.out]; rfl, Kept.refl _ _⟩

attribute [local go_sem high] run_cutH8
set_option maxRecDepth 100000 in
set_option maxHeartbeats 1000000 in
theorem roomy (w : World) (A : Option Addr) (n c : Nat) (p : List UInt8) (hn : p.length = n) (hr : Rd w A (p.map BV)) (hm : n ≤ 1099511627776) :
    Calls Try.prog 15 #[.slice A n c] w fun e w' => ∃ A' c', e = .returned (.slice A' (n + 1) c') ∧ Rd w' A' ((p ++ [171]).map BV) ∧ n + 1 ≤ c' ∧ Kept [] w w' := by
  subst hn
  have HR := hide hr.bound; clear hr
  go_enter Try.func15, Try.ntmps15
  have y3 : IntKind.i64.wrap ((p.length : Int) + 1) = p.length + 1 := IntWalk.i64_in _ (by omega)
  have y4 : ((p.length : Int) + 1).toNat = p.length + 1 := by omega
  have y5 : 0 ≤ (p.length : Int) + 1 := by omega
  go_wp2_with (first
    | (change wpList _ _ _ ({ dst := some 3, op := .buildSlice _ _ _, type := _, pos := _, after := _, guard := _ } :: _) _ _
       refine wpBS rfl _ _ _ rfl #[] _ _ (by simp only [List.map_toArray, List.map_nil] <;> rfl) bs0 ?_; intro M0 w3 hM hbM hk3
       have own3 : OwnS w.heap.size w3 (.slice (some ⟨M0, 0, none⟩) 0 0) [] := OwnS.of_blk (xs := []) hbM hM (by simp))
    | (change wpList _ _ _ ({ dst := some 5, op := _, type := _, pos := _, after := _, guard := _ } :: _) _ _
       refine wpAp rfl _ _ rfl w.heap.size (.slice (some ⟨M0, 0, none⟩) 0 0) [] rfl own3 A p.length c p rfl rfl (HR.out.kept hk3 (by simp)).rd (by simp; omega) hk3.size ?_
       intro v4 w4 own4 hk4 _)
    | (change wpList _ _ _ ({ dst := some 6, op := .buildSlice _ _ _, type := _, pos := _, after := _, guard := _ } :: _) _ _
       refine wpBS rfl _ _ _ rfl #[.int .u8 (U8 171)] _ _ (by simp only [List.map_toArray, List.map_cons, List.map_nil] <;> rfl) (bs1 171) ?_; intro T5 w5 hT5 hbT5 hk5)
    | (change wpList _ _ _ ({ dst := some 7, op := _, type := _, pos := _, after := _, guard := _ } :: _) _ _
       refine wpAp rfl _ _ rfl w.heap.size v4 ([] ++ p) rfl (own4.keptLo hk5 (by simp)) _ 1 _ [171] rfl rfl (Blk.rd (xs := [BV 171]) hbT5) (by simp; omega) (Nat.le_trans hk3.size (Nat.le_trans hk4.size hk5.size)) ?_
       intro v6 w6 own6 hk6 _)
    | (change wpList _ _ _ ({ dst := some 8, op := .buildSlice _ _ _, type := _, pos := _, after := _, guard := _ } :: _) _ _
       refine wpBS rfl _ _ _ rfl #[.int .u8 (U8 171)] _ _ (by simp only [List.map_toArray, List.map_cons, List.map_nil] <;> rfl) (bs1 171) ?_; intro T7 w7 hT7 hbT7 hk7)
    | (change wpList _ _ _ ({ dst := some 9, op := _, type := _, pos := _, after := _, guard := _ } :: _) _ _
       refine wpAp rfl _ _ rfl w.heap.size v6 ([] ++ p ++ [171]) rfl (own6.keptLo hk7 (by simp)) _ 1 _ [171] rfl rfl (Blk.rd (xs := [BV 171]) hbT7) (by simp; omega) (Nat.le_trans hk3.size (Nat.le_trans hk4.size (Nat.le_trans hk5.size (Nat.le_trans hk6.size hk7.size)))) ?_
       intro v8 w8 own8 hk8 _
       have HK := hide ((((((hk3.then_ hk4 (own3.inKept (Nat.le_refl _))).trans hk5).then_ hk6 (own4.inKept (Nat.le_refl _))).trans hk7).then_ hk8 (own6.inKept (Nat.le_refl _))))
       obtain ⟨A8, c8, e8, hrd8, hlc8, hcm8, _⟩ := own8.form
       have y2 : (p.length : Int) + 1 ≤ (c8 : Int) := by simp at hlc8; omega
       have HLC := hide hlc8; have HRD := hide hrd8
       clear own8 hrd8 hlc8 hk3 hk4 hk5 hk6 hk7 hk8 own3 own4 own6 hbM hbT5 hbT7 hM hT5 hT7
       subst e8))
  go_ret
  refine ⟨A8, c8, rfl, ?_, by have := HLC.out; simp at this; omega, HK.out⟩
  have h := HRD.out.take (p.length + 1)
  rw [← List.map_take] at h
  have e : ([] ++ p ++ [171] ++ [171]).take (p.length + 1) = p ++ [(171 : UInt8)] := by
    rw [List.nil_append, List.take_append_of_le_length (by simp)]
    exact List.take_of_length_le (by simp)
  rwa [e] at h

theorem rd_take {w : World} {A : Option Addr} {p q : List UInt8} (h : Rd w A ((p ++ q).map BV)) : Rd w A (p.map BV) := by
  have h2 := h.take p.length
  rwa [List.map_append, List.take_left' (by simp)] at h2

set_option maxRecDepth 100000 in
set_option maxHeartbeats 1000000 in
theorem stands (w : World) (A B : Option Addr) (n c m d : Nat) (p : List UInt8) (hn : p.length = n) (hm : n + 1 = m) (ha : Rd w A ((p ++ [171]).map BV)) (hb : Rd w B (p.map BV)) (hc : m ≤ c) (hl : n ≤ 1099511627776) :
    Calls Try.prog 18 #[.slice A m c, .slice B n d] w fun e w' => e = .returned (.bool true) ∧ Kept [] w w' := by
  subst hm
  obtain ⟨a, rfl, hca⟩ := ha (by simp)
  have hlast := rdAt (bs := p ++ [171]) hca n (by simp [hn])
  have hl171 : (p ++ [171])[n]'(by simp [hn]) = 171 := by subst hn; simp
  rw [hl171] at hlast
  clear hl171
  have HA := hide (rd_take (w := w) (A := some a) (p := p) (q := [171]) (fun _ => ⟨a, rfl, hca⟩)); have HB := hide hb; have HN := hide hn
  clear ha hb hca hn
  go_enter Try.func18, Try.ntmps18
  have y1 : IntKind.i64.wrap ((n : Int) + 1) = n + 1 := IntWalk.i64_in _ (by omega)
  have y2 : (n : Int) < (n : Int) + 1 := by omega
  have y3 : (n : Int) ≤ (c : Int) := by omega
  have y4 : (((n + 1 : Nat) : Int) == (n : Int) + 1) = true := by rw [beq_iff_eq]; omega
  have y5 : ((n : Int) < ((n + 1 : Nat) : Int)) := by omega
  have y6 : (U8 171 == 171) = true := by rfl
  have HLS := hide hlast
  clear hlast
  go_wp2_with (go_at_call 53; refine (same _ (some a) B n _ n d p p HN.out HN.out HA.out HB.out hl).mono ?_; rintro e w2 ⟨rfl, hk2⟩
               have hl2 := hk2.cell_some HLS.out (by simp)
               have hdt : decide (p = p) = true := by simp)
  go_ret
  exact ⟨rfl, hk2⟩
end L2
end Go.Proofs.Ytfjcflmhboepmaa
