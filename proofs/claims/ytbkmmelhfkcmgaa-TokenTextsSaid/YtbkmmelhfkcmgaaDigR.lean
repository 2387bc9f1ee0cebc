/- the reference's digest: r, k, block. -/
import Derived.Test.YtbkmmelhfkcmgaaProg
import Derived.Test.YtbkmmelhfkcmgaaDigC
open Go Go.RowKit
namespace Go.Proofs.Ytbkmmelhfkcmgaa

set_option maxHeartbeats 400000 in
theorem rR (w : World) (x : UInt32) (n : Int) (h0 : 0 ≤ n) (hn : n ≤ 32) :
    Calls Try.prog 48 #[.int .u32 (U32 x), .int .u64 n] w fun e w' => e = .returned (.int .u32 (U32 (rot x n.toNat))) ∧ w = w' := by
  obtain ⟨n, rfl⟩ := Int.eq_ofNat_of_zero_le h0
  go_enter Try.func48, Try.ntmps48
  have h2 : IntKind.u64.wrap (32 - (n : Int)) = 32 - (n : Int) := IntWalk.u64_in _ (by omega)
  have h3 : (32 - (n : Int)).toNat = 32 - n := by omega
  go_wp2
  go_ret
  exact ⟨rfl, rfl⟩
set_option maxHeartbeats 400000 in
set_option maxRecDepth 100000 in
theorem rKs (w : World) :
    Calls Try.prog 38 #[] w fun e w' => e = .returned (.agg (wcells shaK)) ∧ Kept [] w w' := by
  go_enter Try.func38, Try.ntmps38
  go_wp2_with (first
    | (refine wpList_alloc_row rfl _ rfl _ info64 ?_; intro w1 hb1 hg1 hz1 hd1)
    | (refine wpList_store_row rfl _ _ _ rfl _ _ rfl _ rfl _ _ hb1 size64 (Nat.le_of_eq (by kernel_rfl)) oneK ?_
       intro w2 hb2 hg2 hz2 hd2))
  rw [splice_all _ _ (by kernel_rfl)] at hb2
  refine bodyPost_ret (results_cell_row rfl _ _ _ _ _ _ _ rfl hb2 Try.underlying75 rfl size64) rfl ⟨?_, ?_⟩
  · show Ending.returned (.agg _) = _
    rw [wcells, litK]; rfl
  · exact (Kept.of_grown hg1 (by simp)).then_ (Kept.of_grown (S := [w.heap.size]) hg2 (by simp)) (by simp)

theorem size8r {s : List UInt32} (h : s.length = 8) : (Try.prog.info? 73).map (·.size) = some (wcells s).size := by
  rw [wcells_size, h]; kernel_rfl
theorem info8r : (Try.prog.info? 73).bind (·.zero) = some (.agg (wcells (List.replicate 8 0))) := by kernel_rfl

set_option maxRecDepth 100000 in
set_option maxHeartbeats 4000000 in
theorem rBlock (w : World) (kb : Nat) (s : List UInt32) (a : Addr) (n c : Nat) (bs : List UInt8) (hs8 : s.length = 8)
    (hk : Blk w kb 75 (wcells shaK)) (hr : ∀ i v, (bs.map BV)[i]? = some v → w.cell? (a.add i) = some v)
    (hn : bs.length = n) (hl : 64 ≤ n) (hm : n ≤ 140737488355328) :
    Calls Try.prog 39 #[.agg (wcells s), .slice (some a) n c, .pointer (some ⟨kb, 0, none⟩)] w
      fun e w' => e = .returned (.agg (wcells (shaBlock s bs))) ∧ Kept [] w w' := by
  subst hn
  have HS8 := hide hs8; clear hs8
  have HK := hide hk; have HR := hide hr; clear hk hr
  go_enter Try.func39, Try.ntmps39
  go_wp2_with (first
    | (change wpList _ _ _ ({ dst := some 3, op := .box _ _, type := _, pos := _, after := _, guard := _ } :: _) _ _
       refine wpB rfl _ _ rfl (.agg (wcells s)) rfl ?_; intro S0 w1 hS0 hbs1 hk1)
    | (change wpList _ _ _ ({ dst := some 6, op := .alloc _, type := _, pos := _, after := _, guard := _ } :: _) _ _
       refine wpA rfl _ rfl _ info8r ?_; intro R0 w2 hR0 hbr2 hk2)
    | (change wpList _ _ _ ({ dst := some 7, op := .alloc _, type := _, pos := _, after := _, guard := _ } :: _) _ _
       refine wpA rfl _ rfl _ info64 ?_; intro W0 w3 hW0 hbw3 hk3))
  have o1 : S0 < R0 := Nat.lt_of_lt_of_le hbs1.lt hR0
  have o2 : R0 < W0 := Nat.lt_of_lt_of_le hbr2.lt hW0
  have HB := hide (p := Blk w3 W0 75 (wcells (shaFill bs 0))) hbw3
  have HSB := hide (p := Blk w3 S0 73 (wcells s)) ((hbs1.kept hk2 (by simp)).kept hk3 (by simp))
  have HRB := hide (p := Blk w3 R0 73 (wcells (List.replicate 8 0))) (hbr2.kept hk3 (by simp))
  have HG := hide ((hk1.trans hk2).trans hk3)
  clear hbw3 hbs1 hbr2 hk1 hk2 hk3 hR0 hW0
  go_loopw [8] (fun i wr => ∃ k : Nat, k ≤ 16 ∧ i = .int .i64 k ∧ Blk wr W0 75 (wcells (shaFill bs k)) ∧ Kept [W0] w3 wr) (fun i _ => 16 - (intOf i).toNat)
  case atStart => exact ⟨0, by omega, rfl, HB.out, Kept.refl _ _⟩
  case round =>
    obtain ⟨k, hk16, rfl, hbk, hkk⟩ := hrel
    have HBK := hide hbk; have HKK := hide hkk; clear hbk hkk HB
    have HWK := hide (HG.out.then_ HKK.out (by simp; omega))
    by_cases hlt : k < 16
    ·
      -- <<
      have c0 := HWK.out.cell_some (rd_byte HR.out (4 * k) (by omega)) (by simp)
      have c1 := HWK.out.cell_some (rd_byteS HR.out (4 * k + 1) (by omega) (by omega)) (by simp)
      have c2 := HWK.out.cell_some (rd_byteS HR.out (4 * k + 2) (by omega) (by omega)) (by simp)
      have c3 := HWK.out.cell_some (rd_byteS HR.out (4 * k + 3) (by omega) (by omega)) (by simp)
      have cw := HBK.out.word (i := k) (by rw [shaFill_len]; omega)
      have fw := HBK.out.frozen k
      have w0 : IntKind.i64.wrap (4 * (k : Int)) = 4 * (k : Int) := IntWalk.i64_in _ (by omega)
      have l0 : 0 ≤ 4 * (k : Int) := by omega
      have u0 : 4 * (k : Int) < (bs.length : Int) := by omega
      have n0 : (4 * (k : Int)).toNat = 4 * k := by omega
      have w1 : IntKind.i64.wrap (4 * (k : Int) + 1) = 4 * (k : Int) + 1 := IntWalk.i64_in _ (by omega)
      have l1 : 0 ≤ 4 * (k : Int) + 1 := by omega
      have u1 : 4 * (k : Int) + 1 < (bs.length : Int) := by omega
      have n1 : (4 * (k : Int) + 1).toNat = 4 * k + 1 := by omega
      have w2 : IntKind.i64.wrap (4 * (k : Int) + 2) = 4 * (k : Int) + 2 := IntWalk.i64_in _ (by omega)
      have l2 : 0 ≤ 4 * (k : Int) + 2 := by omega
      have u2 : 4 * (k : Int) + 2 < (bs.length : Int) := by omega
      have n2 : (4 * (k : Int) + 2).toNat = 4 * k + 2 := by omega
      have w3 : IntKind.i64.wrap (4 * (k : Int) + 3) = 4 * (k : Int) + 3 := IntWalk.i64_in _ (by omega)
      have l3 : 0 ≤ 4 * (k : Int) + 3 := by omega
      have u3 : 4 * (k : Int) + 3 < (bs.length : Int) := by omega
      have n3 : (4 * (k : Int) + 3).toNat = 4 * k + 3 := by omega
      have k64 : (k : Int) < 64 := by omega
      go_wp2
      go_still_tail 35, (by kernel_rfl)
      change wpList _ _ _ _ _ wr.drew
      go_wp2
      go_roundw
      case rel => exact ⟨k + 1, by omega, by go_num, (HBK.out.setWord k _).drew, (HKK.out.setCell (.inl (by simp)) _).drew⟩
      case measure => simp [intOf]; omega
      -- >>
    · have hk16 : k = 16 := by omega
      obtain ⟨ws0, hws0⟩ : ∃ ws0, shaFill bs k = ws0 := ⟨_, rfl⟩
      have HW0' := hide (p := ws0 = shaFill bs 16) (by rw [← hws0, hk16])
      have hw0l := hide (p := ws0.length = 64) (by rw [← hws0]; exact shaFill_len _ _)
      have hd : decide ((k : Int) < 16) = false := by simp; omega
      rw [hws0] at HBK
      clear hws0 hk16
      have HSB2 := hide (HSB.out.kept HKK.out (by simp; omega)); have HRB2 := hide (HRB.out.kept HKK.out (by simp; omega))
      clear HSB HRB HG
      go_wp2
      obtain ⟨wo, rfl⟩ : ∃ wo : World, wo = wr := ⟨_, rfl⟩
      go_loopw [9] (fun i wq => ∃ k : Nat, 16 ≤ k ∧ k ≤ 64 ∧ i = .int .i64 k ∧ Blk wq W0 75 (wcells (shaExt ws0 (k - 16))) ∧ Kept [W0] wo wq) (fun i _ => 64 - (intOf i).toNat)
      case atStart => exact ⟨16, by omega, by omega, rfl, HBK.out, Kept.refl _ _⟩
      case round =>
        obtain ⟨k, hk1, hk2, rfl, hbk, hkk⟩ := hrel
        have HBK := hide hbk; have HKQ := hide hkk; clear hbk hkk
        by_cases hlt : k < 64
        ·
          -- <<
          have hlen : (shaExt ws0 (k - 16)).length = 64 := shaExt_len _ hw0l.out _
          have d0 := HBK.out.word' (i := k - 16) (o := k - 16) (by omega) rfl
          have d1 := HBK.out.word' (i := k - 16 + 1) (o := k - 15) (by omega) (by omega)
          have d2 := HBK.out.word' (i := k - 16 + 9) (o := k - 7) (by omega) (by omega)
          have d3 := HBK.out.word' (i := k - 16 + 14) (o := k - 2) (by omega) (by omega)
          have d4 := HBK.out.word' (i := k) (o := k) (by omega) rfl
          have fw := HBK.out.frozen k
          have HLEN := hide hlen; clear hlen
          have q16 : IntKind.i64.wrap ((k : Int) - 16) = k - 16 := IntWalk.i64_in _ (by omega)
          have q15 : IntKind.i64.wrap ((k : Int) - 15) = k - 15 := IntWalk.i64_in _ (by omega)
          have q7 : IntKind.i64.wrap ((k : Int) - 7) = k - 7 := IntWalk.i64_in _ (by omega)
          have q2 : IntKind.i64.wrap ((k : Int) - 2) = k - 2 := IntWalk.i64_in _ (by omega)
          have p16 : (16 : Int) ≤ k := by omega
          have p15 : (15 : Int) ≤ k := by omega
          have p7 : (7 : Int) ≤ k := by omega
          have p2 : (2 : Int) ≤ k := by omega
          have r16 : (k : Int) - 16 < 64 := by omega
          have r15 : (k : Int) - 15 < 64 := by omega
          have r7 : (k : Int) - 7 < 64 := by omega
          have r2 : (k : Int) - 2 < 64 := by omega
          have k64 : (k : Int) < 64 := by omega
          have t16 : ((k : Int) - 16).toNat = k - 16 := by omega
          have t15 : ((k : Int) - 15).toNat = k - 15 := by omega
          have t7 : ((k : Int) - 7).toNat = k - 7 := by omega
          have t2 : ((k : Int) - 2).toNat = k - 2 := by omega
          go_wp2
          go_still_tail 29, (by kernel_rfl)
          still_call (flip_ (rR _ _ _ (by omega) (by omega)) rfl)
          repeat still_step
          still_call (flip_ (rR _ _ _ (by omega) (by omega)) rfl)
          repeat still_step
          still_call (flip_ (rR _ _ _ (by omega) (by omega)) rfl)
          repeat still_step
          still_call (flip_ (rR _ _ _ (by omega) (by omega)) rfl)
          repeat still_step
          refine wpStill_nil ?_
          change wpList _ _ _ _ _ wr.drew
          go_wp2
          go_roundw
          case rel => exact ⟨k + 1, by omega, by omega, by go_num, by rw [shaExt_step _ _ hk1]; exact (HBK.out.setWord k _).drew, (HKQ.out.setCell (.inl (by simp)) _).drew⟩
          case measure => simp [intOf]; omega
          -- >>
        · have hk64 : k = 64 := by omega
          obtain ⟨ws, hws⟩ : ∃ ws, shaExt ws0 (k - 16) = ws := ⟨_, rfl⟩
          have HWS := hide (p := ws = shaExt ws0 48) (by rw [← hws, hk64])
          have HWL := hide (p := ws.length = 64) (by rw [← hws]; exact shaExt_len _ hw0l.out _)
          rw [hws] at HBK
          have hd2 : decide ((k : Int) < 64) = false := by simp; omega
          clear hws hk64
          have HSB3 := hide (HSB2.out.kept HKQ.out (by simp; omega)); have HRB3 := hide (HRB2.out.kept HKQ.out (by simp; omega))
          have HWQ := hide (HWK.out.then_ HKQ.out (by simp; omega))
          clear HSB2 HRB2 HWK HKQ HKK
          go_wp2_with (first
            | (change wpList _ _ _ ({ dst := some 99, op := .load _ _, type := _, pos := _, after := _, guard := _ } :: _) _ _
               refine wpL rfl _ _ rfl S0 rfl _ _ _ HSB3.out Try.underlying73 rfl (size8r HS8.out) ?_)
            | (change wpList _ _ _ ({ dst := some 12, op := .alloc _, type := _, pos := _, after := _, guard := _ } :: _) _ _
               refine wpA rfl _ rfl _ info8r ?_; intro V0 w5 hV0 hbv5 hk5)
            | (change wpList _ _ _ ({ dst := none, op := .store _ _ _, type := _, pos := _, after := _, guard := _ } :: _) _ _
               refine wpS rfl _ _ _ rfl V0 rfl (.agg (wcells s)) rfl _ _ hbv5 (size8r HS8.out) (by rw [Value.cells, Value.cells, wcells_size, wcells_size, HS8.out]; rfl) (wcells_one s) ?_
               intro w6 hbv6 hk6))
          have o3 : W0 < V0 := Nat.lt_of_lt_of_le HBK.out.lt hV0
          have k6 := hk5.then_ hk6 (by simp; omega)
          have HV := hide (p := Blk w6 V0 73 (wcells (shaRounds ws s 0))) hbv6
          have HWB := hide (HBK.out.kept k6 (by simp)); have HSB4 := hide (HSB3.out.kept k6 (by simp)); have HRB4 := hide (HRB3.out.kept k6 (by simp))
          have HW6 := hide (HWQ.out.then_ k6 (by simp))
          clear hbv5 hbv6 hk5 hk6 k6 hV0 HSB3 HRB3 HWQ HBK
          go_loopw [13] (fun i wv => ∃ j : Nat, j ≤ 64 ∧ i = .int .i64 j ∧ Blk wv V0 73 (wcells (shaRounds ws s j)) ∧ Kept [V0] w6 wv) (fun i _ => 64 - (intOf i).toNat)
          case atStart => exact ⟨0, by omega, rfl, HV.out, Kept.refl _ _⟩
          case round =>
            obtain ⟨j, hj, rfl, hbv, hkv⟩ := hrel
            by_cases hlt : j < 64
            ·
              have hvl : (shaRounds ws s j).length = 8 := shaRounds_len _ _ HS8.out _
              have HSR := hide (p := shaRounds ws s (j + 1) = shaStep ws (shaRounds ws s j) j) rfl
              generalize shaRounds ws s j = v at *
              have HBV := hide hbv; have HKV := hide hkv; have HVL := hide hvl
              clear hbv hkv hvl HV
              have j64 : (j : Int) < 64 := by omega
              obtain ⟨c0, c1, c2, c3, c4, c5, c6, c7⟩ := HBV.out.words8 HVL.out
              go_wp2
              refine wp_region_still_lit (by kernel_rfl) (by kernel_rfl) ?_
              repeat still_step
              refine wpStill_nil ?_
              change Exit.then _ _ Exit.normal _ wr.drew
              have HBV1 := hide HBV.out.drew; have HKV1 := hide HKV.out.drew
              clear c0 c1 c2 c3 c4 c5 c6 c7 HBV HKV
              generalize wr.drew = wd at *
              obtain ⟨c0, c1, c2, c3, c4, c5, c6, c7⟩ := HBV1.out.words8 HVL.out
              have cw := (HWB.out.kept HKV1.out (by simp; omega)).word (i := j) (by rw [HWL.out]; omega)
              have ck := ((HK.out.kept HW6.out (by simp)).kept HKV1.out (by simp; have := HK.out.lt; omega)).word (i := j) (by show j < 64; omega)
              go_wp2
              refine wp_region_still_lit (by kernel_rfl) (by kernel_rfl) ?_
              repeat still_step
              still_call (flip_ (rR _ _ _ (by omega) (by omega)) rfl)
              repeat still_step
              still_call (flip_ (rR _ _ _ (by omega) (by omega)) rfl)
              repeat still_step
              still_call (flip_ (rR _ _ _ (by omega) (by omega)) rfl)
              repeat still_step
              refine wpStill_nil ?_
              change Exit.then _ _ Exit.normal _ wd.drew
              have HBV2 := hide HBV1.out.drew; have HKV2 := hide HKV1.out.drew
              clear c0 c1 c2 c3 c4 c5 c6 c7 cw ck HBV1 HKV1
              generalize wd.drew = we at *
              obtain ⟨c0, c1, c2, c3, c4, c5, c6, c7⟩ := HBV2.out.words8 HVL.out
              go_wp2
              refine wp_region_still_lit (by kernel_rfl) (by kernel_rfl) ?_
              repeat still_step
              still_call (flip_ (rR _ _ _ (by omega) (by omega)) rfl)
              repeat still_step
              still_call (flip_ (rR _ _ _ (by omega) (by omega)) rfl)
              repeat still_step
              still_call (flip_ (rR _ _ _ (by omega) (by omega)) rfl)
              repeat still_step
              refine wpStill_nil ?_
              change Exit.then _ _ Exit.normal _ we.drew
              have HBV3 := hide HBV2.out.drew; have HKV3 := hide HKV2.out.drew
              clear c0 c1 c2 c3 c4 c5 c6 c7 HBV2 HKV2
              generalize we.drew = wf at *
              obtain ⟨c0, c1, c2, c3, c4, c5, c6, c7⟩ := HBV3.out.words8 HVL.out
              go_wp2_with (change wpList _ _ _ ({ dst := none, op := .store _ _ _, type := _, pos := _, after := _, guard := _ } :: _) _ _
                           refine wpS rfl _ _ _ rfl V0 rfl (.agg (wcells (shaStep ws v j))) rfl _ _ HBV3.out (size8r rfl) (by rw [Value.cells, wcells_size, wcells_size, HVL.out]; rfl) (wcells_one _) ?_
                           intro w9 hb9 hk9)
              have HB9 := hide hb9
              clear hb9 c0 c1 c2 c3 c4 c5 c6 c7
              go_roundw
              case rel => exact ⟨j + 1, by omega, by go_num, by rw [HSR.out]; exact HB9.out, HKV3.out.then_ hk9 (by simp)⟩
              case measure => simp [intOf]; omega
            · have hj64 : j = 64 := by omega
              have HADD := hide (p := shaAdd (shaRounds ws s 64) s 8 = shaBlock s bs) (by unfold shaBlock; rw [← HW0'.out, ← HWS.out])
              have hvl : (shaRounds ws s j).length = 8 := shaRounds_len _ _ HS8.out _
              rw [← hj64] at HADD
              generalize shaRounds ws s j = v at *
              have hd3 : decide ((j : Int) < 64) = false := by simp; omega
              clear hj64
              have HBV := hide hbv; have HVL := hide hvl
              have HSB5 := hide (HSB4.out.kept hkv (by simp; omega)); have HRB5 := hide (HRB4.out.kept hkv (by simp; omega))
              have HW7 := hide (HW6.out.then_ hkv (by simp; omega))
              clear hbv hvl hkv HV HWB HW6 HSB4 HRB4
              go_wp2
              obtain ⟨wp, rfl⟩ : ∃ wo : World, wo = wr := ⟨_, rfl⟩
              go_loopw [18] (fun i wz => ∃ j : Nat, j ≤ 8 ∧ i = .int .i64 j ∧ Blk wz S0 73 (wcells (shaAdd v s j)) ∧ Kept [S0] wp wz) (fun i _ => 8 - (intOf i).toNat)
              case atStart => exact ⟨0, by omega, rfl, HSB5.out, Kept.refl _ _⟩
              case round =>
                obtain ⟨j, hj, rfl, hbs, hkv⟩ := hrel
                have hal : (shaAdd v s j).length = 8 := shaAdd_len _ _ HS8.out _
                by_cases hlt : j < 8
                · have cv := (HBV.out.kept hkv (by simp; omega)).word (i := j) (by rw [HVL.out]; omega)
                  have cs := hbs.word (i := j) (by rw [hal]; omega)
                  have fs := hbs.frozen j
                  have j8 : (j : Int) < 8 := by omega
                  have HBS2 := hide hbs; have HKV2 := hide hkv
                  clear hbs hkv hal HSB5
                  go_wp2
                  go_still_tail 9, (by kernel_rfl)
                  change wpList _ _ _ _ _ wr.drew
                  go_wp2
                  go_roundw
                  case rel => exact ⟨j + 1, by omega, by go_num, (HBS2.out.setWord j _).drew, (HKV2.out.setCell (.inl (by simp)) _).drew⟩
                  case measure => simp [intOf]; omega
                · have hj8 : j = 8 := by omega
                  rw [hj8, HADD.out] at hbs
                  have HBS2 := hide hbs
                  have HRB6 := hide (HRB5.out.kept hkv (by simp; omega))
                  have HW8 := hide (HW7.out.then_ hkv (by simp; omega))
                  have hd4 : decide ((j : Int) < 8) = false := by simp; omega
                  clear hj8 hbs hkv hal
                  have HOL := hide (p := (shaBlock s bs).length = 8) (shaBlock_len _ _ HS8.out)
                  go_wp2_with (first
                    | (change wpList _ _ _ ({ dst := some 195, op := .load _ _, type := _, pos := _, after := _, guard := _ } :: _) _ _
                       refine wpL rfl _ _ rfl S0 rfl _ _ _ HBS2.out Try.underlying73 rfl (size8r HOL.out) ?_)
                    | (change wpList _ _ _ ({ dst := none, op := .store _ _ _, type := _, pos := _, after := _, guard := _ } :: _) _ _
                       refine wpS rfl _ _ _ rfl R0 rfl (.agg (wcells (shaBlock s bs))) rfl _ _ HRB6.out (size8r HOL.out) (by rw [Value.cells, wcells_size, wcells_size, HOL.out]; rfl) (wcells_one _) ?_
                       intro w11 hb11 hk11))
                  refine bodyPost_ret (results_cell_row rfl _ _ _ _ _ _ _ rfl hb11 Try.underlying73 rfl (size8r HOL.out)) rfl ⟨rfl, ?_⟩
                  exact HW8.out.then_ hk11 (by simp; omega)
end Go.Proofs.Ytbkmmelhfkcmgaa
