/- Hex. -/
import Derived.Test.YtfjcflmhboepmaaProg
import Derived.Test.YtfjcflmhboepmaaApp
import Derived.Test.YtfjcflmhboepmaaDigC
import Derived.Deep.RegionLaw
import Derived.Lib.ConvBytes
open Go Go.RowKit
namespace Go.Proofs.Ytfjcflmhboepmaa

def hexDigits : List UInt8 := [48, 49, 50, 51, 52, 53, 54, 55, 56, 57, 97, 98, 99, 100, 101, 102]
def hexD (v : UInt8) : UInt8 := hexDigits.getD v.toNat 0
def hexS (h : List UInt8) : List UInt8 := h.flatMap fun c => [hexD (shr8 c 4), hexD (and8 c 15)]
theorem shr4_lt (c : UInt8) : (shr8 c 4).toNat < 16 := by
  unfold shr8; rw [UInt8.toNat_ofNat']; have := c.toNat_lt; omega
theorem and15_lt (c : UInt8) : (and8 c 15).toNat < 16 := by
  unfold and8; rw [UInt8.toNat_and]; exact Nat.lt_of_le_of_lt Nat.and_le_right (by decide)
theorem idxHash (s : List UInt8) (hs : s.length = 32) (j : Nat) (hj : j < 32) (w : World) :
    (Instr.index 25 (.agg (bcells s)) (.int .i64 (j : Int))).run Try.prog w = .ok (.int .u8 (U8 (b8 s j))) w := by
  obtain ⟨i, hi, _, hz, _⟩ := byteT.info
  exact run_index_agg (n := 32) Try.underlying25 Try.underlying5 rfl hi hz _ _ j hj _ (bcells_get _ _ (by omega)) w
theorem idxHex (v : UInt8) (hv : v.toNat < 16) (w : World) :
    (Instr.index 9 (.string ⟨#[48, 49, 50, 51, 52, 53, 54, 55, 56, 57, 97, 98, 99, 100, 101, 102]⟩) (.int .u8 (U8 v))).run Try.prog w = .ok (.int .u8 (U8 (hexD v))) w := by
  have h0 : (0 : Int) ≤ U8 v := U8_lo v
  have hg : (⟨#[48, 49, 50, 51, 52, 53, 54, 55, 56, 57, 97, 98, 99, 100, 101, 102]⟩ : ByteArray)[v.toNat]? = some (hexD v) := by
    unfold hexD
    obtain ⟨k, hk⟩ : ∃ k : Fin 16, v.toNat = k.val := ⟨⟨_, hv⟩, rfl⟩
    rw [hk]
    clear hk h0 hv
    revert k
    decide
  simp only [Instr.index, asIntOf, Sem.run_bind, Sem.run_pure, Result.andThen_ok, run_underlying Try.underlying9, U8_toNat, h0, if_true, hg]
  rfl
theorem hexS_snoc (h : List UInt8) (j : Nat) (hj : j < h.length) : hexS (h.take (j + 1)) = hexS (h.take j) ++ [hexD (shr8 (b8 h j) 4), hexD (and8 (b8 h j) 15)] := by
  unfold hexS
  rw [List.take_succ_eq_append_getElem hj, List.flatMap_append]
  simp [b8, hj, List.getD]
theorem hexS_len (h : List UInt8) : (hexS h).length = 2 * h.length := by
  unfold hexS
  induction h with
  | nil => rfl
  | cons c h ih => simp only [List.flatMap_cons, List.length_append, ih, List.length_cons, List.length_nil]; omega

theorem foldl_push (m : List UInt8) : ∀ (b : ByteArray), (m.map (fun c => U8 c)).foldl (fun r n => r.push (UInt8.ofNat n.toNat)) b = ⟨b.data ++ m.toArray⟩ := by
  induction m with
  | nil => intro b; simp
  | cons c m ih =>
    intro b
    rw [List.map_cons, List.foldl_cons, ih, U8_toNat]
    simp [ByteArray.push]
theorem conv_bs (W : World) (A : Option Addr) (l c : Nat) (m : List UInt8) (hl : m.length = l) (hr : Rd W A (m.map BV)) :
    (convert 22 9 (.slice A l c)).run Try.prog W = .ok (.string ⟨m.toArray⟩) W := by
  subst hl
  rw [run_convert_bytes_string W _ _ _ A m.length c Try.underlying22 Try.underlying5 Try.underlying9]
  rcases Nat.eq_zero_or_pos m.length with h0 | h0
  · have hm : m = [] := List.eq_nil_of_length_eq_zero h0
    subst hm
    cases A with
    | none => rfl
    | some a => rw [run_bytesToString W a _ _ [] (by rfl)]; rfl
  · obtain ⟨a, rfl, hc⟩ := hr (by simpa using h0)
    have h1 := run_loadCells_list (P := Try.prog) W a (m.map BV) hc
    rw [List.length_map] at h1
    rw [run_bytesToString W a _ _ (m.map (fun c => U8 c)) (by rw [h1]; congr 2; rw [List.map_map]; rfl), foldl_push]
    simp
set_option maxRecDepth 100000 in
set_option maxHeartbeats 1000000 in
theorem dHex (w : World) (h : List UInt8) (hh : h.length = 32) :
    Calls Try.prog 24 #[.agg (bcells h)] w fun e w' => e = .returned (.string ⟨(hexS h).toArray⟩) ∧ Kept [] w w' := by
  have HH := hide hh; clear hh
  go_enter Try.func24, Try.ntmps24
  go_wp2_with (first
    | (change wpList _ _ _ ({ dst := some 1, op := .box _ _, type := _, pos := _, after := _, guard := _ } :: _) _ _
       refine wpB rfl _ _ rfl (.agg (bcells h)) rfl ?_; intro B0 w1 hB hbB hk1)
    | (change wpList _ _ _ ({ dst := some 6, op := .load _ _, type := _, pos := _, after := _, guard := _ } :: _) _ _
       refine wpL rfl _ _ rfl B0 rfl _ _ _ hbB Try.underlying25 rfl (by show _ = some (bcells h).size; rw [bcells_size, HH.out]; exact sizeHash) ?_))
  have OW := hide (p := OwnS w.heap.size w1 (.slice none 0 0) (hexS (h.take 0))) (OwnS.nil _ _)
  have HK := hide hk1
  clear hk1 hbB hB
  go_loopw [3, 7] (fun s3 s7 wr => ∃ j : Nat, j ≤ 32 ∧ s7 = .int .i64 (j : Int) ∧ OwnS w.heap.size wr s3 (hexS (h.take j)) ∧ Kept [] w wr) (fun _ s7 _ => 32 - (intOf s7).toNat)
  case atStart => exact ⟨0, by omega, rfl, OW.out, HK.out⟩
  case round =>
    rename_i s3 s7
    obtain ⟨j, hj, rfl, hown, hkw⟩ := hrel
    clear OW HK
    obtain ⟨A6, c6, rfl, hrd6, hlc6, hcm6, _⟩ := hown.form
    obtain ⟨m, hm6⟩ : ∃ m, hexS (h.take j) = m := ⟨_, rfl⟩
    have HM := hide hm6
    have hml : m.length = 2 * j := by rw [← hm6, hexS_len, List.length_take, HH.out]; omega
    rw [hm6] at hown hrd6 hlc6 ⊢
    have HML := hide hml
    have OW := hide hown; have RD := hide hrd6; have HKW := hide hkw
    obtain ⟨l6, hl6⟩ : ∃ l, m.length = l := ⟨_, rfl⟩
    rw [hl6] at OW ⊢
    have HL6 := hide hl6
    clear hm6 hml hown hrd6 hkw hl6 hlc6
    by_cases hlt : j < 32
    · have hidx := idxHash h HH.out j hlt
      obtain ⟨x, hx⟩ : ∃ x, b8 h j = x := ⟨_, rfl⟩
      rw [hx] at hidx
      have HX := hide hx; clear hx
      have hi1 := idxHex _ (shr4_lt x)
      have hi2 := idxHex _ (and15_lt x)
      go_wp2
      go_region_law (refine stAp rfl _ _ rfl w.heap.size (.slice A6 l6 c6) m rfl (OW.out.keptLo (S := []) (((Kept.refl [] wr).drew).alloc _) (by simp)) (some ⟨wr.heap.size, 0, none⟩) 2 _ [hexD (shr8 x 4), hexD (and8 x 15)] rfl rfl (Blk.rd (xs := [BV _, BV _]) (Blk.new wr.drew 5 _)) (by rw [HML.out]; show _ + 2 ≤ _; omega) (by have h2 := HKW.out.size; simp; omega) ?_
                     intro v7 w7 own7 hk7 _)
      all_goals
        have HO := hide (show OwnS w.heap.size w7 v7 (hexS (h.take (j + 1))) by rw [hexS_snoc _ _ (by rw [HH.out]; omega), HM.out, HX.out]; exact own7)
        have HK7 := hide ((((HKW.out.drew).alloc _).then_ hk7 (fun g hg => by have := OW.out.lo (by simpa using hg); exact .inr this)))
        clear own7 hk7 hidx hi1 hi2
        go_wp2
        go_roundw
        case rel => exact ⟨j + 1, by omega, by go_num, HO.out, HK7.out⟩
        case measure => simp [intOf]; omega
    · have hje : j = 32 := by omega
      have HMF := hide (p := m = hexS h) (by rw [← HM.out, hje, List.take_of_length_le (by rw [HH.out]; omega)])
      have hd9 : decide ((j : Int) < 32) = false := by simp; omega
      have hcv := conv_bs wr A6 l6 c6 m HL6.out RD.out
      clear hje
      go_wp2
      go_ret
      exact ⟨by rw [HMF.out]; rfl, HKW.out⟩

theorem u8_quo16 (t : TypeId) (x : UInt8) : binOp .quo t (.int .u8 (U8 x)) (.int .u8 16) = pure (.int .u8 (U8 (shr8 x 4))) := by
  rw [binOp_quo]
  have h : IntKind.u8.wrap ((U8 x).tdiv 16) = U8 (shr8 x 4) := by
    unfold shr8; rw [wrap_u8_, U8_ofNat]; unfold U8; rw [Int.tdiv_eq_ediv_of_nonneg (by omega)]; have := x.toNat_lt; omega
  simp [Op.intDiv, h]
theorem u8_rem16 (t : TypeId) (x : UInt8) : binOp .rem t (.int .u8 (U8 x)) (.int .u8 16) = pure (.int .u8 (U8 (and8 x 15))) := by
  have h : IntKind.u8.wrap ((U8 x).tmod 16) = U8 (and8 x 15) := by
    unfold and8; unfold U8; rw [UInt8.toNat_and, show ((15 : UInt8).toNat) = 2 ^ 4 - 1 by rfl, Nat.and_two_pow_sub_one_eq_mod, wrap_u8_, Int.tmod_eq_emod_of_nonneg (by omega)]; omega
  have h2 : (U8 x).tmod 16 = U8 (and8 x 15) := by
    rw [← h, wrap_u8_, Int.tmod_eq_emod_of_nonneg (U8_lo x)]; have := U8_hi x; have := U8_lo x; omega
  rw [binOp_rem]
  simp [Op.intDiv, h2]
theorem add1_16 (v : UInt8) (hv : v.toNat < 16) : (add8 v 1).toNat = v.toNat + 1 := by
  unfold add8; rw [UInt8.toNat_add]; show (v.toNat + 1) % 256 = _; omega
theorem cutHex (v : UInt8) (hv : v.toNat < 16) (w : World) :
    (Instr.sliceAt 9 (.string ⟨#[48, 49, 50, 51, 52, 53, 54, 55, 56, 57, 97, 98, 99, 100, 101, 102]⟩) (some (.int .u8 (U8 v))) (some (.int .u8 (U8 (add8 v 1)))) none).run Try.prog w = .ok (.string ⟨[hexD v].toArray⟩) w := by
  have h0 : (0 : Int) ≤ U8 v := U8_lo v
  have h1 : (0 : Int) ≤ U8 (add8 v 1) := U8_lo _
  have e1 : U8 (add8 v 1) = U8 v + 1 := by unfold U8; rw [add1_16 v hv]; omega
  have h2 : U8 v < 16 := by unfold U8; omega
  have h3 : U8 (add8 v 1) ≤ 16 := by omega
  have h4 : U8 v ≤ U8 (add8 v 1) := by omega
  have hg : (⟨#[48, 49, 50, 51, 52, 53, 54, 55, 56, 57, 97, 98, 99, 100, 101, 102]⟩ : ByteArray).extract v.toNat (v.toNat + 1) = ⟨[hexD v].toArray⟩ := by
    unfold hexD
    obtain ⟨k, hk⟩ : ∃ k : Fin 16, v.toNat = k.val := ⟨⟨_, hv⟩, rfl⟩
    rw [hk]
    clear hk h0 hv h1 e1 h2 h3 h4
    revert k
    decide
  have hs : (⟨#[48, 49, 50, 51, 52, 53, 54, 55, 56, 57, 97, 98, 99, 100, 101, 102]⟩ : ByteArray).size = 16 := rfl
  simp only [Instr.sliceAt, Instr.slice, Sem.run_bind, run_underlying Try.underlying9, Result.andThen_ok, Instr.sliceBounds, Instr.sliceBound, asIntOf, hs, Option.isSome_none]
  simp [h0, h1, h3, U8_toNat, add1_16 v hv, hg]
  intro hx
  unfold U8 at hx
  omega
theorem catStr (t : TypeId) (x y : List UInt8) (h : x.length + y.length ≤ 9223372036854775807) : binOp .add t (.string ⟨x.toArray⟩) (.string ⟨y.toArray⟩) = pure (.string ⟨(x ++ y).toArray⟩) := by
  have h' : ¬ ((9223372036854775807 : Int) < (x.length : Int) + (y.length : Int)) := by omega
  simp [binOp, Op.stringOp, ByteArray.size_mk', h', ByteArray.mk_append_mk]

attribute [local go_sem high] u8_quo16 u8_rem16
set_option maxRecDepth 100000 in
set_option maxHeartbeats 1000000 in
theorem rHex (w : World) (h : List UInt8) (hh : h.length = 32) :
    Calls Try.prog 25 #[.agg (bcells h)] w fun e w' => e = .returned (.string ⟨(hexS h).toArray⟩) ∧ Kept [] w w' := by
  have HH := hide hh; clear hh
  go_enter Try.func25, Try.ntmps25
  go_wp2_with (first
    | (change wpList _ _ _ ({ dst := some 1, op := .box _ _, type := _, pos := _, after := _, guard := _ } :: _) _ _
       refine wpB rfl _ _ rfl (.agg (bcells h)) rfl ?_; intro B0 w1 hB hbB hk1))
  have HBB := hide (show Blk w1 B0 25 (bcells h) from hbB)
  have HK := hide hk1
  clear hk1 hbB hB
  go_loopw [3, 4] (fun s3 s4 wr => ∃ j : Nat, j ≤ 32 ∧ s4 = .int .i64 (j : Int) ∧ s3 = .string ⟨(hexS (h.take j)).toArray⟩ ∧ Kept [] w1 wr) (fun _ s4 _ => 32 - (intOf s4).toNat)
  case atStart => exact ⟨0, by omega, rfl, rfl, Kept.refl _ _⟩
  case round =>
    obtain ⟨j, hj, rfl, rfl, hkw⟩ := hrel
    have HKW := hide hkw; clear hkw
    obtain ⟨m, hm6⟩ : ∃ m, hexS (h.take j) = m := ⟨_, rfl⟩
    have HM := hide hm6
    have hml : m.length = 2 * j := by rw [← hm6, hexS_len, List.length_take, HH.out]; omega
    rw [hm6]
    have HML := hide hml
    clear hm6 hml
    by_cases hlt : j < 32
    · have hcell := (HBB.out.kept HKW.out (by simp)).byte (i := j) (by rw [HH.out]; omega)
      obtain ⟨x, hx⟩ : ∃ x, b8 h j = x := ⟨_, rfl⟩
      rw [hx] at hcell
      have HX := hide hx; clear hx
      have hi1 := cutHex _ (shr4_lt x)
      have hi2 := cutHex _ (and15_lt x)
      have hc1 := fun t => catStr t m [hexD (shr8 x 4)] (by rw [HML.out]; show _ + 1 ≤ _; omega)
      have hc2 := fun t => catStr t (m ++ [hexD (shr8 x 4)]) [hexD (and8 x 15)] (by rw [List.length_append, HML.out]; show _ + 1 + 1 ≤ _; omega)
      have j32 : (j : Int) < 32 := by omega
      go_wp2
      refine wp_region_still_lit (by kernel_rfl) (by kernel_rfl) ?_
      repeat still_step
      refine wpStill_nil ?_
      change Exit.inBlock _ _ Exit.normal _ wr.drew
      have HK2 := hide HKW.out.drew
      clear hcell
      generalize wr.drew = wd at *
      go_wp2
      go_roundw
      case rel => exact ⟨j + 1, by omega, by go_num, by rw [hexS_snoc _ _ (by rw [HH.out]; omega), HM.out, HX.out], HK2.out⟩
      case measure => simp [intOf]; omega
    · have hje : j = 32 := by omega
      have HMF := hide (p := m = hexS h) (by rw [← HM.out, hje, List.take_of_length_le (by rw [HH.out]; omega)])
      have hd9 : decide ((j : Int) < 32) = false := by simp; omega
      clear hje
      go_wp2
      go_ret
      exact ⟨by rw [HMF.out]; rfl, HK.out.trans HKW.out⟩
end Go.Proofs.Ytfjcflmhboepmaa
