/- digest: a block is taken in. -/
import Derived.Test.YtbkmmelhfkcmgaaProg
import Derived.Test.YtbkmmelhfkcmgaaDigA
open Go Go.RowKit
namespace Go.Proofs.Ytbkmmelhfkcmgaa

theorem rd_byte {w : World} {a : Addr} {bs : List UInt8} (h : ∀ i v, (bs.map BV)[i]? = some v → w.cell? (a.add i) = some v) (i : Nat) (hi : i < bs.length) :
    w.cell? (a.add i) = some (.int .u8 (U8 (b8 bs i))) := by
  have := h i (.int .u8 (U8 (b8 bs i)))
  simp [BV, hi, b8] at this
  simpa [b8, hi] using this
theorem flip_ {P : Program} {f : FuncId} {args : Array Value} {w w0 : World} {E : Ending} (h : Calls P f args w fun e w' => e = E ∧ w = w') (hw : w = w0) : Calls P f args w fun e w' => e = E ∧ w' = w0 :=
  h.mono fun _ _ ⟨a, b⟩ => ⟨a, b ▸ hw⟩
theorem Blk.word' {w : World} {g : Nat} {t : TypeId} {xs : List UInt32} (h : Blk w g t (wcells xs)) {i o : Nat} (hi : i < xs.length) (ho : o = i) :
    w.cell? ⟨g, o, none⟩ = some (.int .u32 (U32 (w32 xs i))) := by subst ho; exact h.word hi
theorem Blk.words8 {w : World} {g : Nat} {t : TypeId} {xs : List UInt32} (h : Blk w g t (wcells xs)) (hl : xs.length = 8) :
    w.cell? ⟨g, 0, none⟩ = some (.int .u32 (U32 (w32 xs 0))) ∧ w.cell? ⟨g, 1, none⟩ = some (.int .u32 (U32 (w32 xs 1))) ∧
    w.cell? ⟨g, 2, none⟩ = some (.int .u32 (U32 (w32 xs 2))) ∧ w.cell? ⟨g, 3, none⟩ = some (.int .u32 (U32 (w32 xs 3))) ∧
    w.cell? ⟨g, 4, none⟩ = some (.int .u32 (U32 (w32 xs 4))) ∧ w.cell? ⟨g, 5, none⟩ = some (.int .u32 (U32 (w32 xs 5))) ∧
    w.cell? ⟨g, 6, none⟩ = some (.int .u32 (U32 (w32 xs 6))) ∧ w.cell? ⟨g, 7, none⟩ = some (.int .u32 (U32 (w32 xs 7))) :=
  ⟨h.word (by omega), h.word (by omega), h.word (by omega), h.word (by omega), h.word (by omega), h.word (by omega), h.word (by omega), h.word (by omega)⟩
theorem shaExt_step (w0 : List UInt32) (k : Nat) (hk : 16 ≤ k) : shaExt w0 (k + 1 - 16) = (shaExt w0 (k - 16)).set k (extVal (shaExt w0 (k - 16)) (k - 16)) := by
  obtain ⟨j, rfl⟩ : ∃ j, k = j + 16 := ⟨k - 16, by omega⟩
  rw [show j + 16 + 1 - 16 = j + 1 by omega, show j + 16 - 16 = j by omega]; rfl
theorem size8 {s : List UInt32} (h : s.length = 8) : (Try.prog.info? 74).map (·.size) = some (wcells s).size := by
  rw [wcells_size, h]; kernel_rfl
theorem info8 : (Try.prog.info? 74).bind (·.zero) = some (.agg (wcells (List.replicate 8 0))) := by kernel_rfl
theorem fit8 {s : List UInt32} (h : s.length = 8) : 0 + (wcells s).size ≤ (wcells (List.replicate 8 0)).size := by
  rw [wcells_size, wcells_size, h]; decide
theorem fit88 {s s' : List UInt32} (h : s.length = 8) (h' : s'.length = 8) : 0 + (wcells s).size ≤ (wcells s').size := by
  rw [wcells_size, wcells_size, h, h']; decide
theorem rd_byteS {w : World} {a : Addr} {bs : List UInt8} (h : ∀ i v, (bs.map BV)[i]? = some v → w.cell? (a.add i) = some v) (i : Nat) (hi : i < bs.length) (h0 : i ≠ 0) :
    w.cell? ⟨a.block, a.off + i, none⟩ = some (.int .u8 (U8 (b8 bs i))) := by
  have := rd_byte h i hi
  simpa [Addr.add, h0] using this

set_option maxRecDepth 100000 in
set_option maxHeartbeats 4000000 in
theorem dTake (w : World) (sb kb : Nat) (s : List UInt32) (a : Addr) (c : Nat) (bs : List UInt8) (hs8 : s.length = 8)
    (hs : Blk w sb 74 (wcells s)) (hk : Blk w kb 75 (wcells shaK)) (hr : ∀ i v, (bs.map BV)[i]? = some v → w.cell? (a.add i) = some v)
    (hl : 64 ≤ bs.length) (hm : bs.length ≤ maxLen) :
    Calls Try.prog 37 #[.pointer (some ⟨sb, 0, none⟩), .slice (some a) bs.length c, .pointer (some ⟨kb, 0, none⟩)] w
      fun e w' => e = .returned (.tuple #[]) ∧ Blk w' sb 74 (wcells (shaBlock s bs)) ∧ Kept [sb] w w' := by
  unfold maxLen at hm
  have HS8 := hide hs8; clear hs8
  have HS := hide hs; have HK := hide hk; have HR := hide hr; clear hs hk hr
  go_enter Try.func37, Try.ntmps37
  go_wp2_with (first
    | (refine wpList_alloc_row rfl _ rfl _ info64 ?_; intro w1 hb1 hg1 hz1 hd1))
  have HB := hide (p := Blk w1 w.heap.size 75 (wcells (shaFill bs 0))) hb1
  have HG := hide (Kept.of_grown (S := []) hg1 (by simp))
  clear hb1 hg1 hd1 hz1
  go_loopw [14] (fun i wr => ∃ k : Nat, k ≤ 16 ∧ i = .int .i64 k ∧ Blk wr w.heap.size 75 (wcells (shaFill bs k)) ∧ Kept [] w wr) (fun i _ => 16 - (intOf i).toNat)
  case atStart => exact ⟨0, by omega, rfl, HB.out, HG.out⟩
  case round =>
    obtain ⟨k, hk16, rfl, hbk, hkk⟩ := hrel
    have HBK := hide hbk; have HKK := hide hkk; clear hbk hkk HB HG
    by_cases hlt : k < 16
    ·
      -- <<
      have hsz : wr.heap.size ≥ w.heap.size := HKK.out.size
      have c0 := HKK.out.cell_some (rd_byte HR.out (4 * k) (by omega)) (by simp)
      have c1 := HKK.out.cell_some (rd_byteS HR.out (4 * k + 1) (by omega) (by omega)) (by simp)
      have c2 := HKK.out.cell_some (rd_byteS HR.out (4 * k + 2) (by omega) (by omega)) (by simp)
      have c3 := HKK.out.cell_some (rd_byteS HR.out (4 * k + 3) (by omega) (by omega)) (by simp)
      have cw := HBK.out.word (i := k) (by rw [shaFill_len]; omega)
      have fw := HBK.out.frozen k
      have w0 : IntKind.i64.wrap (4 * (k : Int)) = 4 * (k : Int) := IntWalk.i64_in _ (by omega)
      have l0 : 0 ≤ 4 * (k : Int) := by omega
      have u0 : 4 * (k : Int) < (bs.length : Int) := by omega
      have n0 : (4 * (k : Int)).toNat = 4 * k := by omega
      have w1 : IntKind.i64.wrap (4 * (k : Int) + 1) = 4 * (k : Int) + 1 := IntWalk.i64_in _ (by omega)
      have l1 : 0 ≤ 4 * (k : Int) + 1 := by omega
      have u1 : 4 * (k : Int) + 1 < (bs.length : Int) := by omega
      have n1 : (4 * (k : Int) + 1).toNat = 4 * k + 1 := by omega
      have w2 : IntKind.i64.wrap (4 * (k : Int) + 2) = 4 * (k : Int) + 2 := IntWalk.i64_in _ (by omega)
      have l2 : 0 ≤ 4 * (k : Int) + 2 := by omega
      have u2 : 4 * (k : Int) + 2 < (bs.length : Int) := by omega
      have n2 : (4 * (k : Int) + 2).toNat = 4 * k + 2 := by omega
      have w3 : IntKind.i64.wrap (4 * (k : Int) + 3) = 4 * (k : Int) + 3 := IntWalk.i64_in _ (by omega)
      have l3 : 0 ≤ 4 * (k : Int) + 3 := by omega
      have u3 : 4 * (k : Int) + 3 < (bs.length : Int) := by omega
      have n3 : (4 * (k : Int) + 3).toNat = 4 * k + 3 := by omega
      have k64 : (k : Int) < 64 := by omega
      go_wp2
      go_still_tail 35, (by kernel_rfl)
      change wpList _ _ _ _ _ wr.drew
      go_wp2
      go_roundw
      case rel => exact ⟨k + 1, by omega, by go_num, (HBK.out.setWord k _).drew, (HKK.out.setCell (.inr (Nat.le_refl _)) _).drew⟩
      case measure => simp [intOf]; omega
      -- >>
    · have hk16 : k = 16 := by omega
      have HBX := hide (p := Blk wr w.heap.size 75 (wcells (shaExt (shaFill bs 16) 0))) (hk16 ▸ HBK.out)
      have hd : decide ((k : Int) < 16) = false := by simp; omega
      clear hk16
      go_wp2
      generalize HW0 : shaFill bs 16 = ws0 at *
      have hw0l : Hid (ws0.length = 64) := hide (by rw [← HW0]; exact shaFill_len _ _)
      have HW0' := hide HW0; clear HW0 HBK
      obtain ⟨wo, rfl⟩ : ∃ wo : World, wo = wr := ⟨_, rfl⟩
      go_loopw [8] (fun i wq => ∃ k : Nat, 16 ≤ k ∧ k ≤ 64 ∧ i = .int .i64 k ∧ Blk wq w.heap.size 75 (wcells (shaExt ws0 (k - 16))) ∧ Kept [] w wq) (fun i _ => 64 - (intOf i).toNat)
      case atStart => exact ⟨16, by omega, by omega, rfl, HBX.out, HKK.out⟩
      case round =>
        obtain ⟨k, hk1, hk2, rfl, hbk, hkk⟩ := hrel
        have HBK := hide hbk; have HKQ := hide hkk; clear hbk hkk HBX
        by_cases hlt : k < 64
        ·
          -- <<
          have hlen : (shaExt ws0 (k - 16)).length = 64 := shaExt_len _ hw0l.out _
          have d0 := HBK.out.word' (i := k - 16) (o := k - 16) (by omega) rfl
          have d1 := HBK.out.word' (i := k - 16 + 1) (o := k - 15) (by omega) (by omega)
          have d2 := HBK.out.word' (i := k - 16 + 9) (o := k - 7) (by omega) (by omega)
          have d3 := HBK.out.word' (i := k - 16 + 14) (o := k - 2) (by omega) (by omega)
          have d4 := HBK.out.word' (i := k) (o := k) (by omega) rfl
          have fw := HBK.out.frozen k
          have HLEN := hide hlen; clear hlen
          have q16 : IntKind.i64.wrap ((k : Int) - 16) = k - 16 := IntWalk.i64_in _ (by omega)
          have q15 : IntKind.i64.wrap ((k : Int) - 15) = k - 15 := IntWalk.i64_in _ (by omega)
          have q7 : IntKind.i64.wrap ((k : Int) - 7) = k - 7 := IntWalk.i64_in _ (by omega)
          have q2 : IntKind.i64.wrap ((k : Int) - 2) = k - 2 := IntWalk.i64_in _ (by omega)
          have p16 : (16 : Int) ≤ k := by omega
          have p15 : (15 : Int) ≤ k := by omega
          have p7 : (7 : Int) ≤ k := by omega
          have p2 : (2 : Int) ≤ k := by omega
          have r16 : (k : Int) - 16 < 64 := by omega
          have r15 : (k : Int) - 15 < 64 := by omega
          have r7 : (k : Int) - 7 < 64 := by omega
          have r2 : (k : Int) - 2 < 64 := by omega
          have k64 : (k : Int) < 64 := by omega
          have t16 : ((k : Int) - 16).toNat = k - 16 := by omega
          have t15 : ((k : Int) - 15).toNat = k - 15 := by omega
          have t7 : ((k : Int) - 7).toNat = k - 7 := by omega
          have t2 : ((k : Int) - 2).toNat = k - 2 := by omega
          go_wp2
          go_still_tail 23, (by kernel_rfl)
          still_call (flip_ (dS0 _ _) rfl)
          repeat still_step
          still_call (flip_ (dS1 _ _) rfl)
          repeat still_step
          refine wpStill_nil ?_
          change wpList _ _ _ _ _ wr.drew
          go_wp2
          go_roundw
          case rel => exact ⟨k + 1, by omega, by omega, by go_num, by rw [shaExt_step _ _ hk1]; exact (HBK.out.setWord k _).drew, (HKQ.out.setCell (.inr (Nat.le_refl _)) _).drew⟩
          case measure => simp [intOf]; omega
          -- >>
        · have hk64 : k = 64 := by omega
          generalize hws : shaExt ws0 (k - 16) = ws at *
          have HWS := hide (p := ws = shaExt ws0 48) (by rw [← hws, hk64]); clear hws
          have hd2 : decide ((k : Int) < 64) = false := by simp; omega
          clear hk64
          have HSQ := hide (HS.out.kept HKQ.out (by simp))
          have HWL := hide (p := ws.length = 64) (by rw [HWS.out]; exact shaExt_len _ hw0l.out _)
          go_wp2_with (first
            | (refine wpList_load_row rfl 74 _ rfl sb rfl _ _ _ _ HSQ.out Try.underlying74 rfl (size8 HS8.out) ?_)
            | (refine wpList_alloc_row rfl _ rfl _ info8 ?_; intro w2 hb2 hg2 hz2 hd2)
            | (refine wpList_store_row rfl _ _ _ rfl _ _ rfl (.agg (wcells s)) rfl _ _ hb2 (size8 HS8.out) (fit8 HS8.out) (wcells_one s) ?_
               intro w3 hb3 hg3 hz3 hd3))
          rw [splice_all _ _ (by rw [Value.cells, Value.cells, wcells_size, wcells_size, HS8.out]; rfl)] at hb3
          have HV := hide (p := Blk w3 wr.heap.size 74 (wcells (shaRounds ws s 0))) hb3
          have K13 : Kept [] wr w3 := (Kept.of_grown hg2 (by simp)).then_ (Kept.of_grown (S := [wr.heap.size]) hg3 (by simp)) (by simp)
          have HKW := hide (HKQ.out.then_ K13 (by simp))
          have HWB := hide (HBK.out.kept K13 (by simp))
          have hv0 : w.heap.size < wr.heap.size := HBK.out.lt
          clear hb3 hb2 hg2 hz2 hd2 hg3 hz3 hd3 K13
          generalize wr.heap.size = V0 at *
          go_loopw [83] (fun i wv => ∃ j : Nat, j ≤ 64 ∧ i = .int .i64 j ∧ Blk wv V0 74 (wcells (shaRounds ws s j)) ∧ Blk wv w.heap.size 75 (wcells ws) ∧ Kept [] w wv) (fun i _ => 64 - (intOf i).toNat)
          case atStart => exact ⟨0, by omega, rfl, HV.out, HWB.out, HKW.out⟩
          case round =>
            obtain ⟨j, hj, rfl, hbv, hbw, hkv⟩ := hrel
            by_cases hlt : j < 64
            ·
              -- <<
              have hvl : (shaRounds ws s j).length = 8 := shaRounds_len _ _ HS8.out _
              have HSR := hide (p := shaRounds ws s (j + 1) = shaStep ws (shaRounds ws s j) j) rfl
              generalize shaRounds ws s j = v at *
              obtain ⟨c0, c1, c2, c3, c4, c5, c6, c7⟩ := hbv.words8 hvl
              have cw := hbw.word (i := j) (by rw [HWL.out]; omega)
              have ck := (HK.out.kept hkv (by simp)).word (i := j) (by show j < 64; omega)
              have j64 : (j : Int) < 64 := by omega
              have HBV := hide hbv; have HBW := hide hbw; have HKV := hide hkv; have HVL := hide hvl
              clear hbv hbw hkv hvl HV HWB HKW HKQ HSQ
              go_wp2
              refine wp_region_still_lit (by kernel_rfl) (by kernel_rfl) ?_
              repeat still_step
              still_call (flip_ (dB1 _ _) rfl)
              repeat still_step
              still_call (flip_ (dCh _ _ _ _) rfl)
              repeat still_step
              refine wpStill_nil ?_
              change Exit.then _ _ Exit.normal _ wr.drew
              have HBV1 := hide HBV.out.drew; have HBW1 := hide HBW.out.drew; have HKV1 := hide HKV.out.drew
              clear c0 c1 c2 c3 c4 c5 c6 c7 cw ck HBV HBW HKV
              generalize wr.drew = wd at *
              obtain ⟨c0, c1, c2, c3, c4, c5, c6, c7⟩ := HBV1.out.words8 HVL.out
              go_wp2
              refine wp_region_still_lit (by kernel_rfl) (by kernel_rfl) ?_
              repeat still_step
              still_call (flip_ (dB0 _ _) rfl)
              repeat still_step
              still_call (flip_ (dMaj _ _ _ _) rfl)
              repeat still_step
              refine wpStill_nil ?_
              change Exit.then _ _ Exit.normal _ wd.drew
              have HBV2 := hide HBV1.out.drew; have HBW2 := hide HBW1.out.drew; have HKV2 := hide HKV1.out.drew
              clear c0 c1 c2 c3 c4 c5 c6 c7 HBV1 HBW1 HKV1
              generalize wd.drew = we at *
              obtain ⟨c0, c1, c2, c3, c4, c5, c6, c7⟩ := HBV2.out.words8 HVL.out
              go_wp2_with (change wpList _ _ _ ({ dst := none, op := .store _ _ _, type := _, pos := _, after := _, guard := _ } :: _) _ _
                           generalize hG : wpList _ _ _ _ _ _ = G)
              rw [← hG]; clear hG G
              refine wpList_store_row rfl _ _ _ rfl V0 0 rfl (.agg (wcells (shaStep ws v j))) rfl _ _ HBV2.out (size8 rfl) (fit88 rfl HVL.out) (wcells_one _) ?_
              intro w3 hb3 hg3 hz3 hd3
              rw [splice_all _ _ (by rw [Value.cells, wcells_size, wcells_size, HVL.out]; rfl)] at hb3
              have K13 : Kept [V0] we w3 := Kept.of_grown hg3 (by simp)
              have HB3 := hide hb3
              clear hb3 hg3 hz3 hd3 c0 c1 c2 c3 c4 c5 c6 c7
              go_wp2
              go_roundw
              case rel => exact ⟨j + 1, by omega, by go_num, by rw [HSR.out]; exact HB3.out, HBW2.out.kept K13 (by simp; omega), HKV2.out.then_ K13 (by simp; omega)⟩
              case measure => simp [intOf]; omega
              -- >>
            · have hj64 : j = 64 := by omega
              have HADD := hide (p := shaAdd (shaRounds ws s 64) s 8 = shaBlock s bs) (by unfold shaBlock; rw [HW0'.out, ← HWS.out])
              have hvl : (shaRounds ws s j).length = 8 := shaRounds_len _ _ HS8.out _
              rw [← hj64] at HADD
              generalize shaRounds ws s j = v at *
              have hd3 : decide ((j : Int) < 64) = false := by simp; omega
              clear hj64
              have HBV := hide hbv; have HVL := hide hvl
              have HSB := hide (HS.out.kept hkv (by simp))
              have HKV := hide (hkv.mono (S' := [sb]) (by simp))
              have hsb0 : sb < w.heap.size := HS.out.lt
              clear hbv hvl hbw hkv HV HWB HKW HKQ HSQ
              go_wp2
              obtain ⟨wp, rfl⟩ : ∃ wo : World, wo = wr := ⟨_, rfl⟩
              go_loopw [142] (fun i wz => ∃ j : Nat, j ≤ 8 ∧ i = .int .i64 j ∧ Blk wz V0 74 (wcells v) ∧ Blk wz sb 74 (wcells (shaAdd v s j)) ∧ Kept [sb] w wz) (fun i _ => 8 - (intOf i).toNat)
              case atStart => exact ⟨0, by omega, rfl, HBV.out, HSB.out, HKV.out⟩
              case round =>
                obtain ⟨j, hj, rfl, hbv, hbs, hkv⟩ := hrel
                have hal : (shaAdd v s j).length = 8 := shaAdd_len _ _ HS8.out _
                by_cases hlt : j < 8
                · have cv := hbv.word (i := j) (by rw [HVL.out]; omega)
                  have cs := hbs.word (i := j) (by rw [hal]; omega)
                  have fs := hbs.frozen j
                  have j8 : (j : Int) < 8 := by omega
                  have HBV2 := hide hbv; have HBS2 := hide hbs; have HKV2 := hide hkv
                  clear hbv hbs hkv hal HBV HSB HKV
                  go_wp2
                  go_still_tail 11, (by kernel_rfl)
                  change wpList _ _ _ _ _ wr.drew
                  go_wp2
                  go_roundw
                  case rel => exact ⟨j + 1, by omega, by go_num, (HBV2.out.far (by simp; omega) _).drew, (HBS2.out.setWord j _).drew, (HKV2.out.setCell (.inl (by simp)) _).drew⟩
                  case measure => simp [intOf]; omega
                · have hj8 : j = 8 := by omega
                  have HBS2 := hide hbs; have HKV2 := hide hkv
                  rw [hj8, HADD.out] at HBS2
                  clear hbv hbs hkv hal HBV HSB HKV
                  have hd4 : decide ((j : Int) < 8) = false := by simp; omega
                  clear hj8
                  go_wp2
                  go_end0
                  exact ⟨rfl, HBS2.out, HKV2.out⟩
end Go.Proofs.Ytbkmmelhfkcmgaa
