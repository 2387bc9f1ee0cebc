/- Link, Mac: the program's and the reference's. -/
import Derived.Test.YtbkmmelhfkcmgaaProg
import Derived.Test.YtbkmmelhfkcmgaaDigS
open Go Go.RowKit
namespace Go.Proofs.Ytbkmmelhfkcmgaa

theorem dSumN (w : World) (A : Option Addr) (n c : Nat) (p : List UInt8) (hn : p.length = n) (hr : Rd w A (p.map BV)) (hc : n ≤ c) (hm : n ≤ 140737488355328) :
    Calls Try.prog 30 #[.slice A n c] w fun e w' => e = .returned (.agg (bcells (sha p))) ∧ Kept [] w w' := by
  subst hn; exact dSum w A c p hr hc hm
theorem szHash {h : List UInt8} (hl : h.length = 32) : (Try.prog.info? 49).map (·.size) = some (Value.cells (.agg (bcells h))).size := by
  rw [Value.cells, bcells_size, hl]; exact sizeHash

def linkS (h p : List UInt8) : List UInt8 := sha (h ++ p)
def keyS (key : List UInt8) : List UInt8 := if 64 < key.length then sha key else key
def key64 (key : List UInt8) : List UInt8 := keyS key ++ List.replicate (64 - (keyS key).length) 0
def withS (k : List UInt8) (mark : UInt8) (p : List UInt8) : List UInt8 := sha (k.map (xor8 · mark) ++ p)
def macS (key p : List UInt8) : List UInt8 := withS (key64 key) 0x5c (withS (key64 key) 0x36 p)
theorem withS_len (k : List UInt8) (m : UInt8) (p : List UInt8) : (withS k m p).length = 32 := by unfold withS; exact sha_len _
theorem macS_len (k p : List UInt8) : (macS k p).length = 32 := by unfold macS; exact withS_len _ _ _
theorem keyS_len (key : List UInt8) : (keyS key).length ≤ 64 := by
  unfold keyS; split
  · rw [sha_len]; omega
  · omega
theorem key64_len (key : List UInt8) : (key64 key).length = 64 := by
  have := keyS_len key
  unfold key64; simp; omega

theorem info64b : (Try.prog.info? 68).bind (·.zero) = some (.agg (bcells (List.replicate 64 0))) := by kernel_rfl
theorem size64b : (Try.prog.info? 68).map (·.size) = some 64 := by kernel_rfl
theorem sz64b {h : List UInt8} (hl : h.length = 64) : (Try.prog.info? 68).map (·.size) = some (bcells h).size := by
  rw [bcells_size, hl]; exact size64b
theorem idxK (s : List UInt8) (hs : s.length = 64) (j : Nat) (hj : j < 64) (w : World) :
    (Instr.index 68 (.agg (bcells s)) (.int .i64 (j : Int))).run Try.prog w = .ok (.int .u8 (U8 (b8 s j))) w := by
  obtain ⟨i, hi, _, hz, _⟩ := byteT.info
  exact run_index_agg (n := 64) Try.underlying68 Try.underlying5 rfl hi hz _ _ j hj _ (bcells_get _ _ (by omega)) w

theorem map_take_succ (k : List UInt8) (m : UInt8) (j : Nat) (h : j < k.length) : (k.take (j + 1)).map (xor8 · m) = (k.take j).map (xor8 · m) ++ [xor8 (b8 k j) m] := by
  rw [List.take_succ_eq_append_getElem h, List.map_append]
  simp [b8, h, List.getD]

set_option maxRecDepth 100000 in
set_option maxHeartbeats 2000000 in
theorem dMac1 (w : World) (mark : UInt8) (A : Option Addr) (n c : Nat) (p k : List UInt8) (kb : Nat) (hk64 : k.length = 64) (hkb : Blk w kb 68 (bcells k)) (hn : p.length = n) (hr : Rd w A (p.map BV)) (hm : n ≤ 1073741824) :
    Calls Try.prog 31 #[.int .u8 (U8 mark), .slice A n c, .pointer (some ⟨kb, 0, none⟩)] w fun e w' => e = .returned (.agg (bcells (withS k mark p))) ∧ Kept [] w w' := by
  subst hn
  have HR := hide hr.bound; have HK64 := hide hk64; have HKB := hide hkb
  have hkw := hkb.lt
  clear hr hk64 hkb
  have x1 : IntKind.i64.wrap (64 + (p.length : Int)) = 64 + p.length := IntWalk.i64_in _ (by omega)
  go_enter Try.func31, Try.ntmps31
  go_wp2_with (first
    | (change wpList _ _ _ ({ dst := some 5, op := .alloc _, type := _, pos := _, after := _, guard := _ } :: _) _ _
       refine wpA rfl _ rfl _ infoHash ?_; intro R0 w1 hR hbR hk1)
    | (change wpList _ _ _ ({ dst := some 12, op := _, type := _, pos := _, after := _, guard := _ } :: _) _ _
       refine wpMk rfl _ _ rfl .i64 .i64 0 (64 + (p.length : Int)) rfl rfl (by omega) (by omega) (by omega) (R0 + 1) (by have := hbR.lt; omega) ?_
       intro M0 w2 hM own2 hk2)
    | (change wpList _ _ _ ({ dst := some 13, op := .load _ _, type := _, pos := _, after := _, guard := _ } :: _) _ _
       refine wpL rfl _ _ rfl kb rfl _ _ _ ((HKB.out.kept hk1 (by simp)).kept hk2 (by simp)) Try.underlying68 rfl (sz64b HK64.out) ?_))
  have HRb := hide (hbR.kept hk2 (by simp))
  have HK := hide (hk1.trans hk2)
  have hRw : w.heap.size ≤ R0 := hR
  have OW := hide (p := OwnS (R0 + 1) w2 (.slice (some ⟨M0, 0, none⟩) (Int.toNat 0) (64 + (p.length : Int)).toNat) ((k.take 0).map (xor8 · mark))) own2
  clear hbR hk1 hk2 own2 hM hR
  go_loopw [6, 14] (fun s6 s14 wr => ∃ j : Nat, j ≤ 64 ∧ s14 = .int .i64 (j : Int) ∧ OwnS (R0 + 1) wr s6 ((k.take j).map (xor8 · mark)) ∧ Blk wr R0 49 (bcells (List.replicate 32 0)) ∧ Kept [] w wr) (fun _ s14 _ => 64 - (intOf s14).toNat)
  case atStart => exact ⟨0, by omega, rfl, OW.out, HRb.out, HK.out⟩
  case round =>
    rename_i s6 s14
    obtain ⟨j, hj, rfl, hown, hbr, hkw⟩ := hrel
    clear OW HRb HK
    obtain ⟨A6, c6, rfl, hrd6, hlc6, hcm6, _⟩ := hown.form
    obtain ⟨m, hm6⟩ : ∃ m, (k.take j).map (xor8 · mark) = m := ⟨_, rfl⟩
    have HM := hide hm6
    have hml : m.length = j := by rw [← hm6, List.length_map, List.length_take, HK64.out]; omega
    rw [hm6] at hown hrd6 hlc6 ⊢
    rw [hml] at hlc6 hown ⊢
    have HML := hide hml; have OW := hide hown; have RD := hide hrd6; have HBR := hide hbr; have HKW := hide hkw
    clear hm6 hml hown hrd6 hbr hkw
    have hRlt := HBR.out.lt
    have hob : Hid (∀ g, g ∈ (Value.slice A6 j c6).ownBlock.toList → R0 < g) := hide (by intro g hg; have := OW.out.lo (by simpa using hg); omega)
    by_cases hlt : j < 64
    · have hidx := idxK k HK64.out j hlt
      go_wp2_with (first
        | (change wpList _ _ _ ({ dst := some 21, op := .buildSlice _ _ _, type := _, pos := _, after := _, guard := _ } :: _) _ _
           refine wpBS rfl _ _ _ rfl #[.int .u8 (U8 (xor8 (b8 k j) mark))] _ _ (by simp only [List.map_toArray, List.map_cons, List.map_nil] <;> rfl) (bs1 _) ?_; intro T1 w6 hT1 hbT1 hk6)
        | (change wpList _ _ _ ({ dst := some 22, op := _, type := _, pos := _, after := _, guard := _ } :: _) _ _
           refine wpAp rfl _ _ rfl (R0 + 1) (.slice A6 j c6) m rfl (OW.out.keptLo hk6 (by simp)) _ 1 _ [xor8 (b8 k j) mark] rfl rfl (Blk.rd (xs := [BV _]) hbT1) (by rw [HML.out]; show _ + 1 ≤ _; omega) (by have := hk6.size; omega) ?_
           intro v7 w7 own7 hk7 _))
      have HO := hide (show OwnS (R0 + 1) w7 v7 ((k.take (j + 1)).map (xor8 · mark)) by rw [map_take_succ _ _ _ (by rw [HK64.out]; omega), HM.out]; exact own7)
      have HBR7 := hide ((HBR.out.kept hk6 (by simp)).kept hk7 (by intro hm; have := hob.out _ hm; omega))
      have HK7 := hide ((HKW.out.trans hk6).then_ hk7 (by intro g hg; have := hob.out _ hg; omega))
      clear own7 hk6 hk7 hbT1 hT1
      go_roundw
      case rel => exact ⟨j + 1, by omega, by go_num, HO.out, HBR7.out, HK7.out⟩
      case measure => simp [intOf]; omega
    · have hje : j = 64 := by omega
      have HM2 := hide (p := m = k.map (xor8 · mark)) (by rw [← HM.out, hje, List.take_of_length_le (by rw [HK64.out]; omega)])
      have x2 : decide ((j : Int) < 64) = false := by simp; omega
      have hj64 : Hid (j = 64) := hide hje
      clear hje
      go_wp2_with (change wpList _ _ _ ({ dst := some 26, op := _, type := _, pos := _, after := _, guard := _ } :: _) _ _
                   refine wpAp rfl _ _ rfl (R0 + 1) (.slice A6 j c6) m rfl OW.out A p.length c p rfl rfl (HR.out.kept HKW.out (by simp)).rd (by rw [HML.out]; omega) (by omega) ?_
                   intro v7 w7 own7 hk7 _)
      have HBR7 := hide (HBR.out.kept hk7 (by intro hm; have := hob.out _ hm; omega))
      have HK7 := hide (HKW.out.then_ hk7 (by intro g hg; have := hob.out _ hg; omega))
      obtain ⟨A8, c8, rfl, hrd8, hlc8, hcm8, _⟩ := own7.form
      clear own7 hk7
      (with_reducible refine (dSumN _ A8 _ c8 (m ++ p) rfl hrd8 hlc8 (by rw [List.length_append, HML.out]; omega)).mono ?_)
      rintro e w9 ⟨rfl, hk9⟩
      have HBR9 := hide (HBR7.out.kept hk9 (by simp)); have HK9 := hide (HK7.out.trans hk9)
      clear hk9 hrd8 hlc8 hcm8
      go_wp2_with (change wpList _ _ _ ({ dst := none, op := .store _ _ _, type := _, pos := _, after := _, guard := _ } :: _) _ _
                   refine wpS rfl _ _ _ rfl R0 rfl (.agg (bcells (sha (m ++ p)))) rfl _ _ HBR9.out (szHash (sha_len _)) (by rw [Value.cells, bcells_size, bcells_size]; exact sha_len _) (bcells_one _) ?_
                   intro w10 hb10 hk10)
      refine bodyPost_ret (results_cell_row rfl _ _ _ _ _ _ _ rfl hb10 Try.underlying49 rfl (szHash (sha_len _))) rfl ⟨?_, ?_⟩
      · rw [HM2.out]; rfl
      · exact HK9.out.then_ hk10 (by simp; omega)

theorem dMac1L (w : World) (mark : UInt8) (mk : Int) (hmk : mk = U8 mark) (A : Option Addr) (n c : Nat) (p k : List UInt8) (kb : Nat) (hk64 : k.length = 64) (hkb : Blk w kb 68 (bcells k)) (hn : p.length = n) (hr : Rd w A (p.map BV)) (hm : n ≤ 1073741824) :
    Calls Try.prog 31 #[.int .u8 mk, .slice A n c, .pointer (some ⟨kb, 0, none⟩)] w fun e w' => e = .returned (.agg (bcells (withS k mark p))) ∧ Kept [] w w' := by
  subst hmk; exact dMac1 w mark A n c p k kb hk64 hkb hn hr hm
theorem key_cells (k : List UInt8) (n : Nat) : splice (bcells (List.replicate n 0)) 0 (k.map BV).toArray = bcells (k ++ List.replicate (n - k.length) 0) := by
  unfold splice
  have e : (bcells (List.replicate n 0)).toList = List.replicate n (BV 0) := by unfold bcells; rw [List.map_replicate]
  rw [e, List.drop_replicate]
  unfold bcells
  rw [List.map_append, List.map_replicate]
  simp only [List.take_zero, List.nil_append, Nat.zero_add, List.size_toArray, List.length_map]
set_option maxRecDepth 100000 in
set_option maxHeartbeats 2000000 in
theorem dMac (w : World) (A A2 : Option Addr) (n c n2 c2 : Nat) (key p : List UInt8) (hn : key.length = n) (hr : Rd w A (key.map BV)) (hc : n ≤ c) (hm : n ≤ 1073741824)
    (hn2 : p.length = n2) (hr2 : Rd w A2 (p.map BV)) (hm2 : n2 ≤ 1073741824) :
    Calls Try.prog 19 #[.slice A n c, .slice A2 n2 c2] w fun e w' => e = .returned (.agg (bcells (macS key p))) ∧ Kept [] w w' := by
  have HR := hide hr.bound; have HR2 := hide hr2.bound; have HN := hide hn; have HN2 := hide hn2
  clear hr hr2 hn hn2
  go_enter Try.func19, Try.ntmps19
  go_upto_if 11 with (first
    | (change wpList _ _ _ ({ dst := some 4, op := .alloc _, type := _, pos := _, after := _, guard := _ } :: _) _ _
       refine wpA rfl _ rfl _ infoHash ?_; intro R0 w1 hR hbR hk1)
    | (change wpList _ _ _ ({ dst := some 5, op := .alloc _, type := _, pos := _, after := _, guard := _ } :: _) _ _
       refine wpA rfl _ rfl _ info64b ?_; intro K0 w2 hK hbK hk2))
  have hRK : R0 < K0 := Nat.lt_of_lt_of_le hbR.lt hK
  have HRb := hide (hbR.kept hk2 (by simp)); have HKb := hide hbK; have HK := hide (hk1.trans hk2)
  have hRw : w.heap.size ≤ R0 := hR
  clear hbR hbK hk1 hk2 hR hK
  go_cut [0] (fun s0 w' => ∃ A' l c', s0 = .slice A' l c' ∧ Hid ((keyS key).length = l) ∧ Rd w' A' ((keyS key).map BV) ∧ Kept [] w2 w')
  case first =>
    by_cases h64 : (64 : Int) < n
    · go_wp2_with (first
        | (go_at_call 30; refine (dSumN _ A n c key HN.out (HR.out.kept HK.out (by simp)).rd hc (by omega)).mono ?_; rintro e w3 ⟨rfl, hk3⟩)
        | (change wpList _ _ _ ({ dst := some 6, op := .alloc _, type := _, pos := _, after := _, guard := _ } :: _) _ _
           refine wpA rfl _ rfl _ infoHash ?_; intro H0 w4 hH hbH hk4)
        | (change wpList _ _ _ ({ dst := none, op := .store _ _ _, type := _, pos := _, after := _, guard := _ } :: _) _ _
           refine wpS rfl _ _ _ rfl H0 rfl (.agg (bcells (sha key))) rfl _ _ hbH (szHash (sha_len _)) (by rw [Value.cells, Value.cells, bcells_size, bcells_size]; exact sha_len _) (bcells_one _) ?_
           intro w5 hb5 hk5))
      have he : keyS key = sha key := by unfold keyS; rw [if_pos (by rw [HN.out]; omega)]
      have hrd : Rd w5 (some ⟨H0, 0, none⟩) ((keyS key).map BV) := by rw [he]; exact Blk.rd (xs := (sha key).map BV) hb5
      have hk : Kept [] w2 w5 := (hk3.trans hk4).then_ hk5 (by simp; have := hk3.size; omega)
      have HL := hide (p := (keyS key).length = 32) (by rw [he]; exact sha_len _)
      clear he
      go_meet
      case rel => exact ⟨_, _, _, rfl, HL, hrd, hk⟩
    · go_wp2
      have he : keyS key = key := by unfold keyS; rw [if_neg (by rw [HN.out]; omega)]
      have HL := hide (p := (keyS key).length = n) (by rw [he]; exact HN.out)
      have hrd : Rd w2 A ((keyS key).map BV) := by rw [he]; exact (HR.out.kept HK.out (by simp)).rd
      clear he
      go_meet
      case rel => exact ⟨_, _, _, rfl, HL, hrd, Kept.refl _ _⟩
  case rest =>
    obtain ⟨A', l, c', rfl, HL, hrd, hk⟩ := hcut
    have hl64 : l ≤ 64 := by have := HL.out; have := keyS_len key; omega
    have HRD := hide hrd; have HKC := hide hk
    clear hrd hk
    go_wp2_with (change wpList _ _ _ ({ dst := some 17, op := _, type := _, pos := _, after := _, guard := _ } :: _) _ _
                 generalize hG : wpList _ _ _ _ _ _ = G)
    rw [← hG]; clear hG G
    refine wpC rfl _ _ _ _ rfl 5 Try.underlying22 size1 A' K0 0 64 64 l _ rfl rfl _ _ (HKb.out.kept HKC.out (by simp)) ((keyS key).map BV) (by rw [List.length_map, HL.out]; exact (Nat.min_eq_left hl64).symm) HRD.out (by rw [List.length_map, HL.out, show Value.cells (.agg (bcells (List.replicate 64 0))) = bcells (List.replicate 64 0) from rfl, bcells_size, List.length_replicate]; omega) (bv_one _) l (by rw [List.length_map, HL.out]) ?_
    intro w6 hb6 hk6
    rw [show Value.cells (.agg (bcells (List.replicate 64 0))) = bcells (List.replicate 64 0) from rfl, key_cells] at hb6
    have hb6' : Blk w6 K0 68 (bcells (key64 key)) := hb6
    have HKW := hide ((HK.out.trans HKC.out).then_ hk6 (by simp; omega))
    have HRb6 := hide ((HRb.out.kept HKC.out (by simp)).kept hk6 (by simp; omega))
    clear hb6 hk6 HRb HKb HK HKC HRD
    go_wp2_with fail
    (with_reducible refine (dMac1L _ 0x36 54 rfl A2 n2 c2 p (key64 key) K0 (key64_len key) hb6' HN2.out (HR2.out.kept HKW.out (by simp)).rd hm2).mono ?_)
    rintro e w7 ⟨rfl, hk7⟩
    have hb7 := hb6'.kept hk7 (by simp)
    have HKW7 := hide (HKW.out.trans hk7); have HRb7 := hide (HRb6.out.kept hk7 (by simp))
    clear hk7 hb6' HKW HRb6
    go_wp2_with (first
      | (change wpList _ _ _ ({ dst := some 8, op := .alloc _, type := _, pos := _, after := _, guard := _ } :: _) _ _
         refine wpA rfl _ rfl _ infoHash ?_; intro I0 w8 hI hbI hk8)
      | (change wpList _ _ _ ({ dst := none, op := .store _ (.tmp 8) _, type := _, pos := _, after := _, guard := _ } :: _) _ _
         refine wpS rfl _ _ _ rfl I0 rfl (.agg (bcells (withS (key64 key) 0x36 p))) rfl _ _ hbI (szHash (withS_len _ _ _)) (by rw [Value.cells, Value.cells, bcells_size, bcells_size]; exact withS_len _ _ _) (bcells_one _) ?_
         intro w9 hb9 hk9))
    have k9 := hk8.then_ hk9 (by simp; omega)
    have hb9' := hb7.kept k9 (by simp)
    have HKW9 := hide (HKW7.out.trans k9); have HRb9 := hide (HRb7.out.kept k9 (by simp))
    (with_reducible refine (dMac1L _ 0x5c 92 rfl (some ⟨I0, 0, none⟩) 32 32 (withS (key64 key) 0x36 p) (key64 key) K0 (key64_len key) hb9' (withS_len _ _ _) (Blk.rd (xs := (withS (key64 key) 0x36 p).map BV) hb9) (by omega)).mono ?_)
    rintro e w10 ⟨rfl, hk10⟩
    have HRb10 := hide (HRb9.out.kept hk10 (by simp)); have HKW10 := hide (HKW9.out.trans hk10)
    clear hk10 hk8 hk9 k9 hb9 hb9' hbI hI hb7 HKW9 HRb9 HKW7 HRb7
    go_wp2_with (change wpList _ _ _ ({ dst := none, op := .store _ _ _, type := _, pos := _, after := _, guard := _ } :: _) _ _
                 refine wpS rfl _ _ _ rfl R0 rfl (.agg (bcells (macS key p))) rfl _ _ HRb10.out (szHash (macS_len _ _)) (by rw [Value.cells, Value.cells, bcells_size, bcells_size]; exact macS_len _ _) (bcells_one _) ?_
                 intro w11 hb11 hk11)
    refine bodyPost_ret (results_cell_row rfl _ _ _ _ _ _ _ rfl hb11 Try.underlying49 rfl (szHash (macS_len _ _))) rfl ⟨rfl, ?_⟩
    exact HKW10.out.then_ hk11 (by simp; omega)
end Go.Proofs.Ytbkmmelhfkcmgaa
