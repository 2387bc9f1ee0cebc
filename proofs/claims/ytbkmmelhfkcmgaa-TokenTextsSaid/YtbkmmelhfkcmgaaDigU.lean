/- the reference's Mac; Hex of both. -/
import Derived.Test.YtbkmmelhfkcmgaaProg
import Derived.Test.YtbkmmelhfkcmgaaDigT
open Go Go.RowKit
namespace Go.Proofs.Ytbkmmelhfkcmgaa

def zero64 : Array Value := bcells (List.replicate 64 0)
theorem mk64 (W : World) : (Instr.makeSlice 22 (.int .i64 64) (.int .i64 64)).run Try.prog W = .ok (.slice (some ⟨W.heap.size, 0, none⟩) 64 64) (W.alloc (.cells zero64 5)) := by
  obtain ⟨i, hi, hz, hsz, hby⟩ := byteT.info
  have hr := run_make (P := Try.prog) W 22 5 i _ byteT.slice hi hz .i64 .i64 64 64 (by omega) (by omega) (by rw [hby]; omega) (by omega)
  rw [hr, hsz]
  have e : madeCells (Value.int .u8 0).cells ((64 : Int).toNat * 1) = zero64 := by
    show madeCells #[Value.int .u8 0] 64 = _
    apply Array.ext'
    rw [toList_madeCells_one]
    unfold zero64 bcells
    rw [List.map_replicate]
    rfl
  rw [e]
  rfl
def fillX (k : List UInt8) (m : UInt8) : Nat → List UInt8
  | 0 => List.replicate 64 0
  | j+1 => (fillX k m j).set j (xor8 (b8 k j) m)
theorem fillX_len (k : List UInt8) (m : UInt8) (j : Nat) : (fillX k m j).length = 64 := by
  induction j with
  | zero => rfl
  | succ j ih => simp [fillX, ih]
theorem fillX_eq (k : List UInt8) (hk : k.length = 64) (m : UInt8) : ∀ j, j ≤ 64 → fillX k m j = (k.take j).map (xor8 · m) ++ List.replicate (64 - j) 0
  | 0, _ => by simp [fillX]
  | j+1, h => by
    rw [fillX, fillX_eq k hk m j (by omega), map_take_succ k m j (by omega), List.set_append_right _ _ (by simp; omega)]
    rw [show j - ((k.take j).map (xor8 · m)).length = 0 by simp; omega, show 64 - j = (64 - (j + 1)) + 1 by omega, List.replicate_succ, List.set_cons_zero, List.append_assoc]
    rfl
theorem fillX_all (k : List UInt8) (hk : k.length = 64) (m : UInt8) : fillX k m 64 = k.map (xor8 · m) := by
  rw [fillX_eq k hk m 64 (by omega), List.take_of_length_le (by omega)]; simp
theorem key64_lo (key : List UInt8) (i : Nat) (h : i < (keyS key).length) : b8 (key64 key) i = b8 (keyS key) i := b8_append_l _ _ _ h
theorem key64_hi (key : List UInt8) (i : Nat) (h : (keyS key).length ≤ i) : b8 (key64 key) i = 0 := by
  unfold key64; rw [b8_append_r _ _ _ h, b8_rep]
theorem rd_b8 {w : World} {a : Addr} {bs : List UInt8} (h : ∀ i v, (bs.map BV)[i]? = some v → w.cell? (a.add i) = some v) (i : Nat) (hi : i < bs.length) :
    w.cell? (a.add i) = some (.int .u8 (U8 (b8 bs i))) := rd_byte h i hi
set_option maxRecDepth 100000 in
set_option maxHeartbeats 2000000 in
theorem rMac (w : World) (A A2 : Option Addr) (n c n2 c2 : Nat) (key p : List UInt8) (hn : key.length = n) (hr : Rd w A (key.map BV)) (hm : n ≤ 1073741824)
    (hn2 : p.length = n2) (hr2 : Rd w A2 (p.map BV)) (hm2 : n2 ≤ 1073741824) :
    Calls Try.prog 22 #[.slice A n c, .slice A2 n2 c2] w fun e w' => e = .returned (.agg (bcells (macS key p))) ∧ Kept [] w w' := by
  have HR := hide hr.bound; have HR2 := hide hr2.bound; have HN := hide hn; have HN2 := hide hn2
  clear hr hr2 hn hn2
  go_enter Try.func22, Try.ntmps22
  go_upto_if 13 with (first
    | (change wpList _ _ _ ({ dst := some 4, op := .alloc _, type := _, pos := _, after := _, guard := _ } :: _) _ _
       refine wpA rfl _ rfl _ infoHash ?_; intro R0 w1 hR hbR hk1))
  have HRb := hide hbR; have HK := hide hk1
  have hRw : w.heap.size ≤ R0 := hR
  clear hbR hk1 hR
  go_cut [0] (fun s0 w' => ∃ A' l c', s0 = .slice A' l c' ∧ Hid ((keyS key).length = l) ∧ Rd w' A' ((keyS key).map BV) ∧ Kept [] w1 w')
  case first =>
    by_cases h64 : (64 : Int) < n
    · go_wp2_with (first
        | (go_at_call 33; refine (rSum _ A n c key HN.out (HR.out.kept HK.out (by simp)).rd (by omega)).mono ?_; rintro e w3 ⟨rfl, hk3⟩)
        | (change wpList _ _ _ ({ dst := some 5, op := .alloc _, type := _, pos := _, after := _, guard := _ } :: _) _ _
           refine wpA rfl _ rfl _ infoHash ?_; intro H0 w4 hH hbH hk4)
        | (change wpList _ _ _ ({ dst := none, op := .store _ _ _, type := _, pos := _, after := _, guard := _ } :: _) _ _
           refine wpS rfl _ _ _ rfl H0 rfl (.agg (bcells (sha key))) rfl _ _ hbH (szHash (sha_len _)) (by rw [Value.cells, Value.cells, bcells_size, bcells_size]; exact sha_len _) (bcells_one _) ?_
           intro w5 hb5 hk5))
      have he : keyS key = sha key := by unfold keyS; rw [if_pos (by rw [HN.out]; omega)]
      have hrd : Rd w5 (some ⟨H0, 0, none⟩) ((keyS key).map BV) := by rw [he]; exact Blk.rd (xs := (sha key).map BV) hb5
      have hk : Kept [] w1 w5 := (hk3.trans hk4).then_ hk5 (by simp; have := hk3.size; omega)
      have HL := hide (p := (keyS key).length = 32) (by rw [he]; exact sha_len _)
      clear he
      go_meet
      case rel => exact ⟨_, _, _, rfl, HL, hrd, hk⟩
    · go_wp2
      have he : keyS key = key := by unfold keyS; rw [if_neg (by rw [HN.out]; omega)]
      have HL := hide (p := (keyS key).length = n) (by rw [he]; exact HN.out)
      have hrd : Rd w1 A ((keyS key).map BV) := by rw [he]; exact (HR.out.kept HK.out (by simp)).rd
      clear he
      go_meet
      case rel => exact ⟨_, _, _, rfl, HL, hrd, Kept.refl _ _⟩
  case rest =>
    obtain ⟨A', l, c', rfl, HL, hrd, hk⟩ := hcut
    have hl64 : l ≤ 64 := by have := HL.out; have := keyS_len key; omega
    have HRD := hide hrd; have HKC := hide hk
    clear hrd hk
    obtain ⟨wb, rfl⟩ : ∃ wb : World, wb = wc := ⟨_, rfl⟩
    go_upto_region 4 with fail
    go_cut [6, 7] (fun s6 s7 w' => ∃ ga gb, s6 = .slice (some ⟨ga, 0, none⟩) 64 64 ∧ s7 = .slice (some ⟨gb, 0, none⟩) 64 64 ∧ wb.heap.size ≤ ga ∧ wb.heap.size ≤ gb ∧ ga ≠ gb ∧
      Blk w' ga 5 (bcells (List.replicate 64 0)) ∧ Blk w' gb 5 (bcells (List.replicate 64 0)) ∧ Kept [] wb w')
    case first =>
      have hmk := mk64
      have HX := 0
      have f1 : Blk ((wb.alloc (Obj.cells zero64 5)).alloc (Obj.cells zero64 5)).drew wb.heap.size 5 (bcells (List.replicate 64 0)) := ((Blk.new wb _ _).alloc _).drew
      have f2 : Blk ((wb.alloc (Obj.cells zero64 5)).alloc (Obj.cells zero64 5)).drew (wb.heap.size + 1) 5 (bcells (List.replicate 64 0)) := by
        have := Blk.new (wb.alloc (Obj.cells zero64 5)) 5 zero64
        rw [World.size_alloc] at this
        exact this.drew
      have f3 : Kept [] wb ((wb.alloc (Obj.cells zero64 5)).alloc (Obj.cells zero64 5)).drew := (((Kept.refl [] wb).alloc _).alloc _).drew
      have HF := hide (And.intro f1 (And.intro f2 f3))
      clear f1 f2 f3 HX
      go_region
      all_goals
        go_wp2
        go_meet
        case rel =>
          first
            | exact ⟨_, _, rfl, rfl, Nat.le_refl _, Nat.le_succ _, Nat.ne_of_lt (Nat.lt_succ_self _), HF.out.1, HF.out.2.1, HF.out.2.2⟩
            | exact ⟨_, _, rfl, rfl, Nat.le_succ _, Nat.le_refl _, Nat.ne_of_gt (Nat.lt_succ_self _), HF.out.2.1, HF.out.1, HF.out.2.2⟩
    case rest =>
      obtain ⟨ga, gb, rfl, rfl, hga, hgb, hab, hba, hbb, hkc⟩ := hcut
      obtain ⟨wd, rfl⟩ : ∃ wd : World, wd = wc := ⟨_, rfl⟩
      have HK3 := hide ((HK.out.trans HKC.out).trans hkc)
      have HRb3 := hide ((HRb.out.kept HKC.out (by simp)).kept hkc (by simp))
      have HRD3 := hide (HRD.out.bound.kept hkc (by simp))
      have hr1 : R0 < w1.heap.size := HRb.out.lt
      have hw1 := HKC.out.size
      have HA := hide (p := Blk wd ga 5 (bcells (fillX (key64 key) 0x5c 0))) hba
      have HBb := hide (p := Blk wd gb 5 (bcells (fillX (key64 key) 0x36 0))) hbb
      clear hba hbb hkc
      go_wp2
      go_loopw [8] (fun s8 wq => ∃ i : Nat, i ≤ 64 ∧ s8 = .int .i64 (i : Int) ∧ Blk wq ga 5 (bcells (fillX (key64 key) 0x5c i)) ∧ Blk wq gb 5 (bcells (fillX (key64 key) 0x36 i)) ∧ Kept [ga, gb] wd wq) (fun s8 _ => 64 - (intOf s8).toNat)
      case atStart => exact ⟨0, by omega, rfl, HA.out, HBb.out, Kept.refl _ _⟩
      case round =>
        obtain ⟨i, hi, rfl, ha, hb, hkq⟩ := hrel
        by_cases hlt : i < 64
        · have ca := ha.byte' (i := i) (o := i) (by rw [fillX_len]; omega) rfl
          have fa := ha.frozen i
          have cb := hb.byte' (i := i) (o := i) (by rw [fillX_len]; omega) rfl
          have fb := hb.frozen i
          have HA2 := hide ha; have HB2 := hide hb; have HKQ := hide hkq
          have HRD4 := hide (HRD3.out.kept hkq (by intro k hk; simp at hk; omega))
          clear ha hb hkq HA HBb
          have j64 : (i : Int) < 64 := by omega
          have hab' : gb ≠ ga := fun e => hab e.symm
          have hd9 : decide ((i : Int) < 64) = true := by simp; omega
          by_cases hil : i < l
          · obtain ⟨a9, rfl, _, hc9⟩ := HRD4.out (by rw [List.length_map, HL.out]; omega)
            have c9 := rd_b8 hc9 i (by rw [HL.out]; omega)
            have e9 : b8 (keyS key) i = b8 (key64 key) i := (key64_lo key i (by rw [HL.out]; omega)).symm
            rw [e9] at c9
            clear hc9 e9
            have il : (i : Int) < (l : Int) := by omega
            go_wp2
            go_roundw
            case rel => exact ⟨i + 1, by omega, by go_num, (HA2.out.setByte _ _).far (by simp; omega) _, (HB2.out.far (by simp; omega) _).setByte _ _, (HKQ.out.setCell (.inl (by simp)) _).setCell (.inl (by simp)) _⟩
            case measure => simp [intOf]; omega
          · have e9 := hide (key64_hi key i (by rw [HL.out]; omega))
            have e92 := hide (p := bits BinOp.xor IntKind.u8 0 92 = U8 (xor8 (b8 (key64 key) i) 0x5c)) (by rw [e9.out]; kernel_rfl)
            have e54 := hide (p := bits BinOp.xor IntKind.u8 0 54 = U8 (xor8 (b8 (key64 key) i) 0x36)) (by rw [e9.out]; kernel_rfl)
            have il : decide ((i : Int) < (l : Int)) = false := by simp; omega
            go_wp2
            rw [e92.out, e54.out]
            go_roundw
            case rel => exact ⟨i + 1, by omega, by go_num, (HA2.out.setByte _ _).far (by simp; omega) _, (HB2.out.far (by simp; omega) _).setByte _ _, (HKQ.out.setCell (.inl (by simp)) _).setCell (.inl (by simp)) _⟩
            case measure => simp [intOf]; omega
        · have hie : i = 64 := by omega
          have HXA := hide (p := fillX (key64 key) 0x5c i = (key64 key).map (xor8 · 0x5c)) (by rw [hie]; exact fillX_all _ (key64_len _) _)
          have HXB := hide (p := fillX (key64 key) 0x36 i = (key64 key).map (xor8 · 0x36)) (by rw [hie]; exact fillX_all _ (key64_len _) _)
          rw [HXA.out] at ha
          rw [HXB.out] at hb
          have hd9 : decide ((i : Int) < 64) = false := by simp; omega
          have HA2 := hide ha; have HB2 := hide hb
          have HK4 := hide (HK3.out.then_ hkq (by simp; omega))
          have HRb4 := hide (HRb3.out.kept hkq (by simp; omega))
          clear ha hb hkq HA HBb hie
          go_wp2_with (change wpList _ _ _ ({ dst := some 43, op := _, type := _, pos := _, after := _, guard := _ } :: _) _ _
                       refine wpApF rfl _ _ rfl ⟨gb, 0, none⟩ 64 ((key64 key).map (xor8 · 0x36)) rfl (by rw [List.length_map, key64_len]) (rd_at HB2.out 0) A2 n2 c2 p rfl HN2.out (HR2.out.kept HK4.out (by simp)).rd (by omega) ?_
                       intro A5 c5 w5 hrd5 hlc5 hk5 hcm5)
          have HA5 := hide (HA2.out.kept hk5 (by simp)); have HK5 := hide (HK4.out.trans hk5); have HRb5 := hide (HRb4.out.kept hk5 (by simp))
          (with_reducible refine (rSum _ A5 _ c5 ((key64 key).map (xor8 · 0x36) ++ p) (by rw [List.length_append, List.length_map, key64_len, HN2.out]) hrd5 (by omega)).mono ?_)
          rintro e w6 ⟨rfl, hk6⟩
          have HA6 := hide (HA5.out.kept hk6 (by simp)); have HK6 := hide (HK5.out.trans hk6); have HRb6 := hide (HRb5.out.kept hk6 (by simp))
          clear hk5 hk6 hrd5 hlc5 hcm5 HA5 HK5 HRb5 HA2 HB2 HK4 HRb4
          go_wp2_with (first
            | (change wpList _ _ _ ({ dst := some 10, op := .alloc _, type := _, pos := _, after := _, guard := _ } :: _) _ _
               refine wpA rfl _ rfl _ infoHash ?_; intro I0 w8 hI hbI hk8)
            | (change wpList _ _ _ ({ dst := none, op := .store _ (.tmp 10) _, type := _, pos := _, after := _, guard := _ } :: _) _ _
               refine wpS rfl _ _ _ rfl I0 rfl (.agg (bcells (withS (key64 key) 0x36 p))) rfl _ _ hbI (szHash (withS_len _ _ _)) (by rw [Value.cells, Value.cells, bcells_size, bcells_size]; exact withS_len _ _ _) (bcells_one _) ?_
               intro w9 hb9 hk9)
            | (change wpList _ _ _ ({ dst := some 47, op := _, type := _, pos := _, after := _, guard := _ } :: _) _ _
               refine wpApF rfl _ _ rfl ⟨ga, 0, none⟩ 64 ((key64 key).map (xor8 · 0x5c)) rfl (by rw [List.length_map, key64_len]) (rd_at ((HA6.out.kept hk8 (by simp)).kept hk9 (by have := HA6.out.lt; simp; omega)) 0) (some ⟨I0, 0, none⟩) 32 32 (withS (key64 key) 0x36 p) rfl (withS_len _ _ _) (Blk.rd (xs := (withS (key64 key) 0x36 p).map BV) hb9) (by omega) ?_
               intro A7 c7 w10 hrd7 hlc7 hk10 hcm7))
          have k9 := (hk8.then_ hk9 (by simp; omega)).trans hk10
          have HK9 := hide (HK6.out.trans k9); have HRb9 := hide (HRb6.out.kept k9 (by simp))
          (with_reducible refine (rSum _ A7 _ c7 ((key64 key).map (xor8 · 0x5c) ++ withS (key64 key) 0x36 p) (by rw [List.length_append, List.length_map, key64_len, withS_len]) hrd7 (by omega)).mono ?_)
          rintro e w11 ⟨rfl, hk11⟩
          have HRb11 := hide (HRb9.out.kept hk11 (by simp)); have HK11 := hide (HK9.out.trans hk11)
          clear hk8 hk9 k9 hk10 hk11 hrd7 hlc7 hcm7 hb9 hbI hI HA6 HK6 HRb6 HK9 HRb9
          go_wp2_with (change wpList _ _ _ ({ dst := none, op := .store _ _ _, type := _, pos := _, after := _, guard := _ } :: _) _ _
                       refine wpS rfl _ _ _ rfl R0 rfl (.agg (bcells (macS key p))) rfl _ _ HRb11.out (szHash (macS_len _ _)) (by rw [Value.cells, Value.cells, bcells_size, bcells_size]; exact macS_len _ _) (bcells_one _) ?_
                       intro w12 hb12 hk12)
          refine bodyPost_ret (results_cell_row rfl _ _ _ _ _ _ _ rfl hb12 Try.underlying49 rfl (szHash (macS_len _ _))) rfl ⟨rfl, ?_⟩
          exact HK11.out.then_ hk12 (by simp; omega)
end Go.Proofs.Ytbkmmelhfkcmgaa
