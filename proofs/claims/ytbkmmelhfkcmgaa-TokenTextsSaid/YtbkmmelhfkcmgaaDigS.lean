/- the reference's Sum. -/
import Derived.Test.YtbkmmelhfkcmgaaProg
import Derived.Test.YtbkmmelhfkcmgaaDigR
import Derived.Test.YtbkmmelhfkcmgaaApp
import Derived.Test.YtbkmmelhfkcmgaaShaEq
open Go Go.RowKit
namespace Go.Proofs.Ytbkmmelhfkcmgaa
attribute [local go_sem high] run_cut8

theorem wcells8 (s : List UInt32) (h : s.length = 8) : wcells s = #[.int .u32 (U32 (w32 s 0)), .int .u32 (U32 (w32 s 1)), .int .u32 (U32 (w32 s 2)), .int .u32 (U32 (w32 s 3)), .int .u32 (U32 (w32 s 4)), .int .u32 (U32 (w32 s 5)), .int .u32 (U32 (w32 s 6)), .int .u32 (U32 (w32 s 7))] := by
  match s, h with
  | [a, b, c, d, e, f, g, i], _ => rfl
set_option maxRecDepth 100000 in
set_option maxHeartbeats 4000000 in
theorem rSum (w : World) (A : Option Addr) (n c : Nat) (p : List UInt8) (hn : p.length = n) (hr : Rd w A (p.map BV)) (hm : n ≤ 1099511627776) :
    Calls Try.prog 33 #[.slice A n c] w fun e w' => e = .returned (.agg (bcells (sha p))) ∧ Kept [] w w' := by
  subst hn
  have HR := hide hr.bound; clear hr
  go_enter Try.func33, Try.ntmps33
  go_wp2_with (first
    | (change wpList _ _ _ ({ dst := some 2, op := .alloc _, type := _, pos := _, after := _, guard := _ } :: _) _ _
       refine wpA rfl _ rfl _ infoHash ?_; intro H0 w1 hH hbH hk1)
    | (change wpList _ _ _ ({ dst := some 11, op := .buildSlice _ _ _, type := _, pos := _, after := _, guard := _ } :: _) _ _
       refine wpBS rfl _ _ _ rfl #[] _ _ (by simp only [List.map_toArray, List.map_cons, List.map_nil] <;> rfl) bs0 ?_; intro M0 w2 hM hbM hk2
       have own2 : OwnS (H0 + 1) w2 (.slice (some ⟨M0, 0, none⟩) 0 0) [] := OwnS.of_blk (xs := []) hbM (by have := hbH.lt; omega) (by simp))
    | (change wpList _ _ _ ({ dst := some 13, op := _, type := _, pos := _, after := _, guard := _ } :: _) _ _
       refine wpAp rfl _ _ rfl (H0 + 1) (.slice (some ⟨M0, 0, none⟩) 0 0) [] rfl own2 A p.length c p rfl rfl (HR.out.rd.kept (hk1.trans hk2) (by simp)) (by simp; omega) (by have := hbH.lt; have := hk2.size; omega) ?_
       intro v3 w3 own3 hk3 _)
    | (change wpList _ _ _ ({ dst := some 14, op := .buildSlice _ _ _, type := _, pos := _, after := _, guard := _ } :: _) _ _
       refine wpBS rfl _ _ _ rfl #[.int .u8 (U8 0x80)] _ _ (by simp only [List.map_toArray, List.map_cons, List.map_nil] <;> rfl) (bs1 0x80) ?_; intro T0 w4 hT hbT hk4)
    | (change wpList _ _ _ ({ dst := some 15, op := _, type := _, pos := _, after := _, guard := _ } :: _) _ _
       refine wpAp rfl _ _ rfl (H0 + 1) v3 _ rfl (own3.kept hk4 (by simp)) _ 1 _ [0x80] rfl rfl (Blk.rd (xs := [BV 0x80]) hbT) (by simp; omega) (by have := hbH.lt; have := hk2.size; have := hk3.size; have := hk4.size; omega) ?_
       intro v5 w5 own5 hk5 _))
  have hH5 : H0 < w2.heap.size := by have := hbH.lt; have := hk2.size; omega
  have bH := hide ((((hbH.kept hk2 (by simp)).kept hk3 (by simp [Value.ownBlock]; have := hbH.lt; omega)).kept hk4 (by simp)).kept hk5 (by intro hm; have := own3.lo (by simpa using hm); omega))
  have KW := hide ((((hk1.trans hk2).then_ hk3 (own2.inKept (by omega))).trans hk4).then_ hk5 (own3.inKept (by omega)))
  have OW := hide (p := OwnS (H0 + 1) w5 v5 (p ++ [0x80] ++ List.replicate 0 0)) (by simpa using own5)
  clear hbH hk1 hk2 hk3 hk4 hk5 own2 own3 own5 hbM hbT hM hT hH5
  have hzz : refZ p.length < 64 := by unfold refZ; omega
  have hz56 : Hid ((p.length + 1 + refZ p.length) % 64 = 56) := hide (by unfold refZ; omega)
  have hzlt : ∀ z, z < refZ p.length → (p.length + 1 + z) % 64 ≠ 56 := by intro z hz; unfold refZ at hz; omega
  have HZ := hide hzlt; clear hzlt
  go_loopw [3] (fun s3 wr => ∃ z, z ≤ refZ p.length ∧ OwnS (H0 + 1) wr s3 (p ++ [0x80] ++ List.replicate z 0) ∧ Blk wr H0 49 (bcells (List.replicate 32 0)) ∧ Kept [] w wr) (fun v _ => refZ p.length + p.length + 1 - lenV v)
  case atStart => exact ⟨0, by omega, OW.out, bH.out, KW.out⟩
  case round =>
    rename_i s3
    obtain ⟨z, hz, hown, hbh, hkw⟩ := hrel
    clear OW bH KW
    obtain ⟨A3, c3, rfl, hrd, hlc, hcm, hab⟩ := hown.form
    obtain ⟨m, hm⟩ : ∃ m, p ++ [0x80] ++ List.replicate z 0 = m := ⟨_, rfl⟩
    have HM := hide hm
    have hml : m.length = p.length + 1 + z := by rw [← hm]; simp; omega
    rw [hm] at hown hrd hlc ⊢
    clear hm
    obtain ⟨l, hl⟩ : ∃ l, m.length = l := ⟨_, rfl⟩
    rw [hl] at hml hown hlc ⊢
    have HL := hide hl; clear hl
    have OW := hide hown; have RD := hide hrd; have BH := hide hbh; have KW := hide hkw; have HAB := hide hab; have HML := hide hml; have HLC := hide hlc
    clear hown hrd hbh hkw hab hml hlc
    by_cases hlt : z < refZ p.length
    · have hb : ((l : Int) % 64 != 56) = true := by have := HZ.out z hlt; rw [bne_iff_ne]; rw [HML.out]; omega
      have k1 : p.length + 1 + refZ p.length ≤ 1099511627776 + 100 := by omega
      go_wp2_with (first
        | (change wpList _ _ _ ({ dst := some 21, op := .buildSlice _ _ _, type := _, pos := _, after := _, guard := _ } :: _) _ _
           refine wpBS rfl _ _ _ rfl #[.int .u8 (U8 0)] _ _ (by simp only [List.map_toArray, List.map_cons, List.map_nil] <;> rfl) (bs1 0) ?_; intro T1 w6 hT1 hbT1 hk6)
        | (change wpList _ _ _ ({ dst := some 22, op := _, type := _, pos := _, after := _, guard := _ } :: _) _ _
           refine wpAp rfl _ _ rfl (H0 + 1) (.slice A3 l c3) m rfl (OW.out.keptLo hk6 (by simp)) _ 1 _ [0] rfl rfl (Blk.rd (xs := [BV 0]) hbT1) (by rw [HL.out, HML.out]; show _ + 1 ≤ _; omega) (by have := BH.out.lt; have := hk6.size; omega) ?_
           intro v7 w7 own7 hk7 _))
      have HO := hide (show OwnS (H0 + 1) w7 v7 (p ++ [0x80] ++ List.replicate (z + 1) 0) by rw [List.replicate_succ', ← List.append_assoc, HM.out]; exact own7)
      have hbl : ∀ g, g ∈ (Value.slice A3 l c3).ownBlock.toList → H0 < g := by intro g hg; have := OW.out.lo (by simpa using hg); omega
      have HBH7 := hide ((BH.out.kept hk6 (by simp)).kept hk7 (by intro hm; have := hbl _ hm; omega))
      have HK7 := hide ((KW.out.trans hk6).then_ hk7 (by intro g hg; have := hbl _ hg; omega))
      obtain ⟨A7, c7, e7, _, _, _, _⟩ := HO.out.form
      have hlen7 : lenV v7 = p.length + 1 + (z + 1) := by rw [e7]; simp [lenV]; omega
      have HLEN7 := hide hlen7
      clear own7 hk6 hk7 hbl hlen7 e7 hbT1 hT1
      go_roundw
      case rel => exact ⟨z + 1, by omega, HO.out, HBH7.out, HK7.out⟩
      case measure => rw [HLEN7.out]; simp only [lenV]; have := HML.out; omega
    · have hze : z = refZ p.length := by omega
      have hb : ((l : Int) % 64 != 56) = false := by have := hz56.out; rw [bne_eq_false_iff_eq]; rw [HML.out, hze]; omega
      have hconv : IntKind.u64.wrap (p.length : Int) = U64 (UInt64.ofNat p.length) := by
        rw [U64_lit _ (by omega)]; exact IntWalk.u64_in _ (by omega)
      have HZE := hide hze; clear hze
      go_wp2
      clear hconv hb
      obtain ⟨N8, hN8⟩ : ∃ N8, N8 = mul64 (UInt64.ofNat p.length) 8 := ⟨_, rfl⟩
      rw [← hN8]
      have HN8 := hide hN8; clear hN8
      have OW2 := hide (p := OwnS (H0 + 1) wr (.slice A3 l c3) (m ++ lenB N8 (8 - 8))) (by rw [show lenB N8 (8 - 8) = [] by rfl, List.append_nil]; exact OW.out)
      obtain ⟨wo, rfl⟩ : ∃ wo : World, wo = wr := ⟨_, rfl⟩
      have hH0 := BH.out.lt
      go_loopw [3, 5] (fun s3 s5 wq => ∃ k : Nat, k ≤ 8 ∧ s5 = .int .i64 ((k : Int) - 1) ∧ OwnS (H0 + 1) wq s3 (m ++ lenB N8 (8 - k)) ∧ Blk wq H0 49 (bcells (List.replicate 32 0)) ∧ Kept [] w wq) (fun _ s5 _ => (intOf s5 + 1).toNat)
      case atStart => exact ⟨8, by omega, rfl, OW2.out, BH.out, KW.out⟩
      case round =>
        rename_i s3 s5
        obtain ⟨k, hk8, rfl, hown, hbh, hkw⟩ := hrel
        obtain ⟨A4, c4, rfl, hrd4, hlc4, hcm4, hab4⟩ := hown.form
        obtain ⟨m4, hm4⟩ : ∃ m4, m ++ lenB N8 (8 - k) = m4 := ⟨_, rfl⟩
        have HM4 := hide hm4
        rw [hm4] at hown hrd4 hlc4 ⊢
        have hml4 : m4.length = l + (8 - k) := by rw [← hm4, List.length_append, HL.out]; simp [lenB]
        clear hm4
        obtain ⟨l4, hl4⟩ : ∃ l4, m4.length = l4 := ⟨_, rfl⟩
        rw [hl4] at hml4 hlc4 hown ⊢
        have HL4 := hide hl4; have HML4 := hide hml4; have OW4 := hide hown; have RD4 := hide hrd4; have BH4 := hide hbh; have KW4 := hide hkw; have HLC4 := hide hlc4; have HAB4 := hide hab4
        clear hown hrd4 hbh hkw hlc4 hml4 hl4 OW2 BH KW hab4
        by_cases hlt : 0 < k
        · obtain ⟨i, rfl⟩ : ∃ i, k = i + 1 := ⟨k - 1, by omega⟩
          have x0 : ((i + 1 : Nat) : Int) - 1 = (i : Int) := by omega
          rw [x0]
          clear x0
          have x1 : (0 : Int) ≤ 8 * (i : Int) := by omega
          have x2 : IntKind.i64.wrap (8 * (i : Int)) = 8 * i := IntWalk.i64_in _ (by omega)
          have x3 : IntKind.u64.wrap (8 * (i : Int)) = 8 * i := IntWalk.u64_in _ (by omega)
          have x4 : (8 * (i : Int)).toNat = 8 * i := by omega
          have x5 : IntKind.i64.wrap ((i : Int) - 1) = i - 1 := IntWalk.i64_in _ (by omega)
          have x6 : p.length + 1 + refZ p.length ≤ 1099511627776 + 100 := by omega
          go_wp2_with (first
            | (change wpList _ _ _ ({ dst := some 38, op := .buildSlice _ _ _, type := _, pos := _, after := _, guard := _ } :: _) _ _
               refine wpBS rfl _ _ _ rfl #[.int .u8 (U8 (c64to8 (shr64 N8 (8 * i))))] _ _ (by simp only [List.map_toArray, List.map_cons, List.map_nil] <;> rfl) (bs1 _) ?_; intro T1 w6 hT1 hbT1 hk6)
            | (change wpList _ _ _ ({ dst := some 39, op := _, type := _, pos := _, after := _, guard := _ } :: _) _ _
               refine wpAp rfl _ _ rfl (H0 + 1) (.slice A4 l4 c4) m4 rfl (OW4.out.keptLo hk6 (by simp)) _ 1 _ [c64to8 (shr64 N8 (8 * i))] rfl rfl (Blk.rd (xs := [BV _]) hbT1) (by rw [HL4.out, HML4.out]; show _ + 1 ≤ _; have := HML.out; omega) (by have := BH4.out.lt; have := hk6.size; omega) ?_
               intro v7 w7 own7 hk7 _))
          have HO := hide (show OwnS (H0 + 1) w7 v7 (m ++ lenB N8 (8 - i)) by
            rw [show 8 - i = (8 - (i + 1)) + 1 by omega, lenB_succ, ← List.append_assoc, HM4.out, show 8 * (7 - (8 - (i + 1))) = 8 * i by omega]; exact own7)
          have hbl : ∀ g, g ∈ (Value.slice A4 l4 c4).ownBlock.toList → H0 < g := by intro g hg; have := OW4.out.lo (by simpa using hg); omega
          have HBH7 := hide ((BH4.out.kept hk6 (by simp)).kept hk7 (by intro hm; have := hbl _ hm; omega))
          have HK7 := hide ((KW4.out.trans hk6).then_ hk7 (by intro g hg; have := hbl _ hg; omega))
          clear own7 hk6 hk7 hbl hbT1 hT1
          go_roundw
          case rel => exact ⟨i, by omega, rfl, HO.out, HBH7.out, HK7.out⟩
          case measure => simp [intOf]
        · have hk0 : k = 0 := by omega
          have x0 : decide ((0 : Int) ≤ (k : Int) - 1) = false := by simp; omega
          have HMF := hide (p := m4 = refPad p) (by rw [← HM4.out, ← HM.out, HZE.out, hk0, HN8.out]; rfl)
          clear hk0
          go_wp2_with (first
            | (change wpList _ _ _ ({ dst := some 6, op := .alloc _, type := _, pos := _, after := _, guard := _ } :: _) _ _
               refine wpA rfl _ rfl _ info8r ?_; intro S0 w8 hS0 hbS8 hk8)
            | (change wpList _ _ _ ({ dst := none, op := .store 73 _ _, type := _, pos := _, after := _, guard := _ } :: _) _ _
               refine wpS rfl _ _ _ rfl S0 rfl (.agg (wcells shaInit)) initCellsV _ _ hbS8 (size8r rfl) rfl (wcells_one _) ?_
               intro w9 hbS9 hk9)
            | (go_at_call 38; refine (rKs _).mono ?_; rintro e w10 ⟨rfl, hk10⟩)
            | (change wpList _ _ _ ({ dst := some 7, op := .alloc _, type := _, pos := _, after := _, guard := _ } :: _) _ _
               refine wpA rfl _ rfl _ info64 ?_; intro K0 w11 hK0 hbK hk11)
            | (change wpList _ _ _ ({ dst := none, op := .store 75 _ _, type := _, pos := _, after := _, guard := _ } :: _) _ _
               refine wpS rfl _ _ _ rfl K0 rfl (.agg (wcells shaK)) rfl _ _ hbK size64 rfl (wcells_one _) ?_
               intro w12 hbK12 hk12))
          have hHS : H0 < S0 := Nat.lt_of_lt_of_le BH4.out.lt hS0
          have hSK : S0 < K0 := Nat.lt_of_lt_of_le (Nat.lt_of_lt_of_le hbS9.lt hk10.size) hK0
          have hob : ∀ g, (Value.slice A4 l4 c4).ownBlock = some g → g < S0 := by intro g hg; have := (OW4.out.lt g hg).2; omega
          have BH5 := hide (((((BH4.out.kept hk8 (by simp)).kept hk9 (by simp; omega)).kept hk10 (by simp)).kept hk11 (by simp)).kept hk12 (by simp; omega))
          have BS5 := hide (p := Blk w12 S0 73 (wcells (shaRun 0 shaInit m4))) (((hbS9.kept hk10 (by simp)).kept hk11 (by simp)).kept hk12 (by simp; omega))
          have BK5 := hide hbK12
          have OW5 := hide (((((OW4.out.kept hk8 (by simp)).kept hk9 (by intro g hg; have := hob g hg; simp; omega)).kept hk10 (by simp)).kept hk11 (by simp)).kept hk12 (by intro g hg; have := hob g hg; simp; omega))
          have hws := KW4.out.size
          have KW5 := hide (((((KW4.out.trans hk8).then_ hk9 (by simp; omega)).trans hk10).trans hk11).then_ hk12 (by simp; omega))
          have HOB := hide hob
          clear hbS8 hbS9 hbK hbK12 hk8 hk9 hk10 hk11 hk12 hS0 hK0 hob BH4 KW4 OW4 RD4 x0
          have hl64 : Hid (l4 % 64 = 0) := hide (by have h1 := HML4.out; have h2 := HML.out; have h3 := HZE.out; have h4 := hz56.out; omega)
          have hl4b : l4 ≤ 1099511627776 + 200 := by have h1 := HML4.out; have h2 := HML.out; omega
          obtain ⟨wo2, rfl⟩ : ∃ wo : World, wo = w12 := ⟨_, rfl⟩
          go_loopw [8] (fun s8 wq => ∃ j : Nat, 64 * j ≤ l4 ∧ s8 = .int .i64 (64 * (j : Int)) ∧ Blk wq S0 73 (wcells (shaRun j shaInit m4)) ∧ Kept [S0] wo2 wq) (fun s8 _ => l4 - (intOf s8).toNat)
          case atStart => exact ⟨0, by omega, rfl, BS5.out, Kept.refl _ _⟩
          case round =>
            rename_i s8
            obtain ⟨j, hj, rfl, hbs, hks⟩ := hrel
            have hsl := hide (shaRun_len j shaInit m4 rfl)
            by_cases hlt : 64 * j < l4
            · have hj64 : 64 * j + 64 ≤ l4 := by have := hl64.out; omega
              have RD5 := hide ((OW5.out.kept hks (by intro g hg; have := HOB.out g hg; simp; omega)).form)
              obtain ⟨A5, c5, e5, hrd5, _, _, _⟩ := RD5.out
              simp only [Value.slice.injEq] at e5
              obtain ⟨e51, e52, e53⟩ := e5
              clear e52
              subst e51 e53
              obtain ⟨a4, rfl, hcell⟩ := hrd5 (by rw [List.length_map, HL4.out]; omega)
              have HC := hide hcell; clear hcell hrd5 RD5
              obtain ⟨sv, hsv⟩ : ∃ sv, shaRun j shaInit m4 = sv := ⟨_, rfl⟩
              have HSV := hide hsv
              rw [hsv] at hsl hbs
              clear hsv
              obtain ⟨c0, c1, c2, c3, c4', c5', c6, c7⟩ := hbs.words8 hsl.out
              have HBS := hide hbs; have HKS := hide hks
              have BK6 := hide (BK5.out.kept hks (by simp; omega))
              clear hbs hks
              have y1 : 64 * (j : Int) < (l4 : Int) := by omega
              have y2 : 0 ≤ 64 * (j : Int) := by omega
              have y3 : IntKind.i64.wrap (64 * (j : Int) + 64) = 64 * j + 64 := IntWalk.i64_in _ (by omega)
              have y4 : (64 * (j : Int)).toNat = 64 * j := by omega
              have y5 : (64 * (j : Int) + 64).toNat = 64 * j + 64 := by omega
              have y6 : 64 * (j : Int) + 64 ≤ (l4 : Int) := by omega
              have y7 : 64 * j + 64 ≤ c4 := by have := HLC4.out; omega
              have y8 : 64 * (j : Int) + 64 ≤ (c4 : Int) := by omega
              have y9 : 64 * (j : Int) ≤ 64 * (j : Int) + 64 := by omega
              have y10 : 64 * j + 64 - 64 * j = 64 := by omega
              go_wp2
              go_still_tail 6, (by kernel_rfl)
              change wpList _ _ _ _ _ wr.drew
              have RD6 := hide (((OW5.out.kept HKS.out (by intro g hg; have := HOB.out g hg; simp; omega)).form))
              have HC6 : Rd wr.drew (cutA (some a4) c4 (64 * j) 1) (((m4.drop (64 * j)).take 64).map BV) := by
                have h1 : Rd wr.drew (some a4) (m4.map BV) := fun _ => ⟨a4, rfl, HC.out⟩
                have h2 := (h1.cut c4 (64 * j) (by rw [List.length_map, HL4.out]; exact HLC4.out)).take 64
                rwa [← List.map_drop, ← List.map_take] at h2
              obtain ⟨a5, ha5, hc5⟩ := HC6 (by rw [List.length_map, List.length_take, List.length_drop, HL4.out]; omega)
              have HBS1 := hide HBS.out.drew; have HKS1 := hide HKS.out.drew; have BK7 := hide BK6.out.drew; have HC5 := hide hc5
              clear HC6 hc5 HBS HKS BK6 RD6 c0 c1 c2 c3 c4' c5' c6 c7
              generalize wr.drew = wd at *
              rw [ha5, ← wcells8 sv hsl.out]
              clear ha5
              go_wp2_with fail
              (with_reducible refine (rBlock _ _ sv a5 64 _ ((m4.drop (64 * j)).take 64) hsl.out BK7.out HC5.out (by rw [List.length_take, List.length_drop, HL4.out]; omega) (by omega) (by omega)).mono ?_)
              rintro e w13 ⟨rfl, hk13⟩
              have HB13 := hide (HBS1.out.kept hk13 (by simp))
              have HK13 := hide (HKS1.out.then_ hk13 (by simp))
              clear hk13
              go_wp2_with (change wpList _ _ _ ({ dst := none, op := .store _ _ _, type := _, pos := _, after := _, guard := _ } :: _) _ _
                           refine wpS rfl _ _ _ rfl S0 rfl (.agg (wcells (shaBlock sv ((m4.drop (64 * j)).take 64)))) rfl _ _ HB13.out (size8r (shaBlock_len _ _ hsl.out)) (by rw [Value.cells, wcells_size, wcells_size, shaBlock_len _ _ hsl.out, hsl.out]) (wcells_one _) ?_
                           intro w14 hb14 hk14)
              have HB14 := hide (show Blk w14 S0 73 (wcells (shaRun (j + 1) shaInit m4)) by rw [shaRun_succ, HSV.out, ← shaBlock_take]; exact hb14)
              have HK14 := hide (HK13.out.then_ hk14 (by simp))
              clear hb14 hk14
              go_roundw
              case rel => exact ⟨j + 1, by omega, by rw [show 64 * ((j + 1 : Nat) : Int) = 64 * (j : Int) + 64 by omega], HB14.out, HK14.out⟩
              case measure => simp [intOf]; omega
            · have hje : j = l4 / 64 := by have := hl64.out; omega
              have HSV := hide (p := shaRun j shaInit m4 = shaRun ((refPad p).length / 64) shaInit (refPad p)) (by rw [← HMF.out, HL4.out, hje])
              obtain ⟨sv, hsv⟩ : ∃ sv, shaRun j shaInit m4 = sv := ⟨_, rfl⟩
              rw [hsv] at hsl hbs HSV
              have HBS := hide hbs
              have BH6 := hide (BH5.out.kept hks (by simp; omega))
              have KW6 := hide (KW5.out.then_ hks (by simp; have := KW5.out.size; have := BH5.out.lt; omega))
              have x1 : decide (64 * (j : Int) < (l4 : Int)) = false := by simp; omega
              have hSW : S0 < wr.heap.size := hbs.lt
              clear hsv hbs hks hje BS5 BK5 OW5 KW5 BH5
              go_wp2_with (change wpList _ _ _ ({ dst := some 9, op := .alloc _, type := _, pos := _, after := _, guard := _ } :: _) _ _
                           refine wpA rfl _ rfl _ infoHash ?_; intro R0 w15 hR hbR hk15)
              have hSR : S0 < R0 := by omega
              have BR := hide hbR
              have HBS2 := hide (HBS.out.kept hk15 (by simp)); have BH7 := hide (BH6.out.kept hk15 (by simp)); have KW7 := hide (KW6.out.trans hk15)
              clear hbR hk15 hR HBS BH6 KW6
              obtain ⟨wo3, rfl⟩ : ∃ wo : World, wo = w15 := ⟨_, rfl⟩
              go_loopw [10] (fun v wq => ∃ i : Nat, i ≤ 32 ∧ v = .int .i64 (i : Int) ∧ Blk wq R0 49 (bcells (refOut sv i (List.replicate 32 0))) ∧ Kept [R0] wo3 wq) (fun v _ => 32 - (intOf v).toNat)
              case atStart => exact ⟨0, by omega, rfl, BR.out, Kept.refl _ _⟩
              case round =>
                obtain ⟨i, hi, rfl, hbr, hkr⟩ := hrel
                have hol : (refOut sv i (List.replicate 32 0)).length = 32 := by rw [refOut_len, List.length_replicate]
                by_cases hlt : i < 32
                · have cr := hbr.byte' (i := i) (o := i) (by omega) rfl
                  have fr := hbr.frozen i
                  have cs := (HBS2.out.kept hkr (by simp; omega)).word' (i := i / 4) (o := i / 4) (by rw [hsl.out]; omega) rfl
                  have z1 : (0 : Int) ≤ (i : Int) / 4 := by omega
                  have z2 : (i : Int) / 4 < 8 := by omega
                  have z3 : ((i : Int) / 4).toNat = i / 4 := by omega
                  have z4 : IntKind.i64.wrap (8 * ((i : Int) % 4)) = 8 * (i % 4) := IntWalk.i64_in _ (by omega)
                  have z5 : IntKind.i64.wrap (24 - 8 * ((i : Int) % 4)) = 24 - 8 * (i % 4) := IntWalk.i64_in _ (by omega)
                  have z6 : IntKind.u64.wrap (24 - 8 * ((i : Int) % 4)) = 24 - 8 * (i % 4) := IntWalk.u64_in _ (by omega)
                  have z7 : (0 : Int) ≤ 24 - 8 * ((i : Int) % 4) := by omega
                  have z7' : 8 * ((i : Int) % 4) ≤ 24 := by omega
                  have z8 : (24 - 8 * ((i : Int) % 4)).toNat = 24 - 8 * (i % 4) := by omega
                  have z9 : (i : Int) < 32 := by omega
                  have HBR := hide hbr; have HKR := hide hkr; clear hbr hkr hol
                  go_wp2
                  go_roundw
                  case rel => exact ⟨i + 1, by omega, by go_num, HBR.out.setByte _ _, HKR.out.setCell (.inl (by simp)) _⟩
                  case measure => simp [intOf]; omega
                · have hie : i = 32 := by omega
                  have HE := hide (p := refOut sv i (List.replicate 32 0) = sha p) (by rw [← sha_eq, refSha, ← HSV.out, hie])
                  rw [HE.out] at hbr
                  have HBR := hide hbr
                  have BH8 := hide (BH7.out.kept hkr (by simp; omega))
                  have KW8 := hide (KW7.out.then_ hkr (by simp; have := KW7.out.size; omega))
                  have x2 : decide ((i : Int) < 32) = false := by simp; omega
                  clear hie hbr hkr hol
                  go_wp2_with (first
                    | (change wpList _ _ _ ({ dst := some 72, op := .load _ _, type := _, pos := _, after := _, guard := _ } :: _) _ _
                       refine wpL rfl _ _ rfl R0 rfl _ _ _ HBR.out Try.underlying49 rfl (by rw [bcells_size, sha_len]; exact sizeHash) ?_)
                    | (change wpList _ _ _ ({ dst := none, op := .store 49 _ _, type := _, pos := _, after := _, guard := _ } :: _) _ _
                       refine wpS rfl _ _ _ rfl H0 rfl (.agg (bcells (sha p))) rfl _ _ BH8.out (by rw [Value.cells, bcells_size, sha_len]; exact sizeHash) (by rw [Value.cells, bcells_size, bcells_size, sha_len]; rfl) (bcells_one _) ?_
                       intro w16 hb16 hk16))
                  refine bodyPost_ret (results_cell_row rfl _ _ _ _ _ _ _ rfl hb16 Try.underlying49 rfl (by rw [Value.cells, bcells_size, sha_len]; exact sizeHash)) rfl ⟨rfl, ?_⟩
                  exact KW8.out.then_ hk16 (by simp; omega)
end Go.Proofs.Ytbkmmelhfkcmgaa
