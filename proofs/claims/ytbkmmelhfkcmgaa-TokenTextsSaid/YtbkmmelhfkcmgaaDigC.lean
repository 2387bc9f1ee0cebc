/- digest.Sum. -/
import Derived.Test.YtbkmmelhfkcmgaaProg
import Derived.Test.YtbkmmelhfkcmgaaDigB
import Derived.Deep.DeepCutAuto
open Go Go.RowKit
namespace Go.Proofs.Ytbkmmelhfkcmgaa

def shaInit : List UInt32 := [0x6a09e667, 0xbb67ae85, 0x3c6ef372, 0xa54ff53a, 0x510e527f, 0x9b05688c, 0x1f83d9ab, 0x5be0cd19]
def shaRun : Nat → List UInt32 → List UInt8 → List UInt32
  | 0, s, _ => s
  | k+1, s, m => shaRun k (shaBlock s m) (m.drop 64)
theorem shaBlock_len (s : List UInt32) (b : List UInt8) (h : s.length = 8) : (shaBlock s b).length = 8 := shaAdd_len _ _ h _
theorem shaRun_len : ∀ (k : Nat) (s : List UInt32) (m : List UInt8), s.length = 8 → (shaRun k s m).length = 8
  | 0, _, _, h => h
  | k+1, s, m, h => shaRun_len k _ _ (shaBlock_len s m h)
theorem shaRun_succ : ∀ (k : Nat) (s : List UInt32) (m : List UInt8), shaRun (k+1) s m = shaBlock (shaRun k s m) (m.drop (64 * k))
  | 0, _, _ => by simp [shaRun]
  | k+1, s, m => by
    rw [shaRun, shaRun_succ k, List.drop_drop, shaRun]
    congr 2
    omega
/-- the last block or two -/
def shaLast0 (rest : List UInt8) : List UInt8 := (rest ++ List.replicate (128 - rest.length) 0).set rest.length 0x80
def shaBits (n : Nat) : UInt64 := shl64 (UInt64.ofNat n) 3
def shaLast (L : List UInt8) (e : Nat) (d : UInt64) : Nat → List UInt8
  | 0 => L
  | i+1 => (shaLast L e d i).set (e - 1 - i) (c64to8 (shr64 d (8 * i)))
theorem shaLast_len (L : List UInt8) (e : Nat) (d : UInt64) (k : Nat) : (shaLast L e d k).length = L.length := by
  induction k with
  | zero => rfl
  | succ k ih => simp [shaLast, ih]
def shaOut (s : List UInt32) : Nat → List UInt8 → List UInt8
  | 0, h => h
  | i+1, h => ((((shaOut s i h).set (4*i) (c32to8 (shr32 (w32 s i) 24))).set (4*i+1) (c32to8 (shr32 (w32 s i) 16))).set (4*i+2) (c32to8 (shr32 (w32 s i) 8))).set (4*i+3) (c32to8 (w32 s i))
theorem shaOut_len (s : List UInt32) (h : List UInt8) (k : Nat) : (shaOut s k h).length = h.length := by
  induction k with
  | zero => rfl
  | succ k ih => simp [shaOut, ih]
def sha (p : List UInt8) : List UInt8 :=
  let a := p.length / 64
  let rest := p.drop (64 * a)
  let e := if rest.length < 56 then 64 else 128
  let L := shaLast (shaLast0 rest) e (shaBits p.length) 8
  shaOut (shaRun (e / 64) (shaRun a shaInit p) L) 8 (List.replicate 32 0)
theorem sha_len (p : List UInt8) : (sha p).length = 32 := by unfold sha; simp [shaOut_len]

theorem infoHash : (Try.prog.info? 49).bind (·.zero) = some (.agg (bcells (List.replicate 32 0))) := by kernel_rfl
theorem sizeHash : (Try.prog.info? 49).map (·.size) = some 32 := by kernel_rfl
theorem info128 : (Try.prog.info? 79).bind (·.zero) = some (.agg (bcells (List.replicate 128 0))) := by kernel_rfl
theorem initCells : wcells shaInit = #[.int .u32 1779033703, .int .u32 3144134277, .int .u32 1013904242, .int .u32 2773480762, .int .u32 1359893119, .int .u32 2600822924, .int .u32 528734635, .int .u32 1541459225] := by kernel_rfl

def lenV : Value → Nat | .slice _ n _ => n | _ => 0
theorem dTakeN (w : World) (sb kb : Nat) (s : List UInt32) (a : Addr) (n c : Nat) (bs : List UInt8) (hs8 : s.length = 8)
    (hs : Blk w sb 74 (wcells s)) (hk : Blk w kb 75 (wcells shaK)) (hr : ∀ i v, (bs.map BV)[i]? = some v → w.cell? (a.add i) = some v)
    (hn : bs.length = n) (hl : 64 ≤ n) (hm : n ≤ 140737488355328) :
    Calls Try.prog 37 #[.pointer (some ⟨sb, 0, none⟩), .slice (some a) n c, .pointer (some ⟨kb, 0, none⟩)] w
      fun e w' => e = .returned (.tuple #[]) ∧ Blk w' sb 74 (wcells (shaBlock s bs)) ∧ Kept [sb] w w' := by
  subst hn
  exact dTake w sb kb s a c bs hs8 hs hk hr hl (by unfold maxLen; omega)
theorem RdB.step64 {B k c' : Nat} {w : World} {a : Addr} {p : List UInt8} (h : RdB B w (some a) ((p.drop (64 * k)).map BV)) (hk : 64 * k + 64 ≤ p.length) (hc : p.length - 64 * k ≤ c') :
    RdB B w (if c' = 64 then some a else some ⟨a.block, a.off + 64, none⟩) ((p.drop (64 * (k + 1))).map BV) := by
  have h2 := h.drop 64 c' (by simp; omega) (by simp; omega)
  rw [← List.map_drop, List.drop_drop] at h2
  rw [show 64 * (k + 1) = 64 * k + 64 by omega]
  exact h2
theorem last0_cells (rest : List UInt8) :
    splice (bcells (List.replicate 128 0)) 0 (rest.map BV).toArray = bcells (rest ++ List.replicate (128 - rest.length) 0) := by
  unfold splice
  have e : (bcells (List.replicate 128 0)).toList = List.replicate 128 (BV 0) := by unfold bcells; rw [List.map_replicate]
  rw [e, List.drop_replicate]
  unfold bcells
  rw [List.map_append, List.map_replicate]
  simp only [List.take_zero, List.nil_append, Nat.zero_add, List.size_toArray, List.length_map]
theorem size1 : (Try.prog.info? 5).map (·.size) = some 1 := by kernel_rfl
theorem idxW (s : List UInt32) (hs : s.length = 8) (j : Nat) (hj : j < 8) (w : World) :
    (Instr.index 74 (.agg (wcells s)) (.int .i64 (j : Int))).run Try.prog w = .ok (.int .u32 (U32 (w32 s j))) w := by
  obtain ⟨i, hi, hz⟩ : ∃ i, Try.prog.info? 72 = some i ∧ i.size = 1 := by
    have h : (Try.prog.info? 72).map (·.size) = some 1 := by kernel_rfl
    cases hq : Try.prog.info? 72 with
    | none => rw [hq] at h; cases h
    | some i => rw [hq] at h; exact ⟨i, rfl, by simpa using h⟩
  exact run_index_agg (n := 8) Try.underlying74 Try.underlying72 rfl hi hz _ _ j hj _ (wcells_get _ _ (by omega)) w
theorem rd_at {w : World} {g : Nat} {t : TypeId} {L : List UInt8} (h : Blk w g t (bcells L)) (o : Nat) :
    ∀ i v, ((L.drop o).map BV)[i]? = some v → w.cell? ((⟨g, o, none⟩ : Addr).add i) = some v := by
  intro i v hv
  rw [add_mk, h.cell]
  rw [List.map_drop, List.getElem?_drop] at hv
  simpa [bcells] using hv
theorem sha_of (p rest L : List UInt8) (r E : Nat) (D : UInt64) (s1 s2 : List UInt32) (h1 : rest = p.drop (64 * (p.length / 64))) (hr : rest.length = r)
    (hE : E = if r < 56 then 64 else 128) (hD : D = shl64 (UInt64.ofNat p.length) 3) (hL : L = shaLast (shaLast0 rest) E D 8)
    (hs1 : s1 = shaRun (p.length / 64) shaInit p) (hs2 : s2 = shaRun (E / 64) s1 L) : shaOut s2 8 (List.replicate 32 0) = sha p := by
  subst hr hE hD hL hs2 hs1 h1; rfl
theorem initCellsV : Value.agg #[.int .u32 1779033703, .int .u32 3144134277, .int .u32 1013904242, .int .u32 2773480762, .int .u32 1359893119, .int .u32 2600822924, .int .u32 528734635, .int .u32 1541459225] = .agg (wcells shaInit) := by rw [initCells]
set_option maxRecDepth 100000 in
set_option maxHeartbeats 4000000 in
theorem dSum (w : World) (A : Option Addr) (c : Nat) (p : List UInt8) (hr : Rd w A (p.map BV)) (hc : p.length ≤ c) (hm : p.length ≤ 140737488355328) :
    Calls Try.prog 30 #[.slice A p.length c] w fun e w' => e = .returned (.agg (bcells (sha p))) ∧ Kept [] w w' := by
  have HR := hide hr.bound; clear hr
  go_enter Try.func30, Try.ntmps30
  go_wp2_with (first
    | (change wpList _ _ _ ({ dst := some 2, op := .alloc _, type := _, pos := _, after := _, guard := _ } :: _) _ _
       refine wpA rfl _ rfl _ infoHash ?_; intro H0 w1 hH hbH hk1)
    | (change wpList _ _ _ ({ dst := some 3, op := .alloc _, type := _, pos := _, after := _, guard := _ } :: _) _ _
       refine wpA rfl _ rfl _ info8 ?_; intro S0 w2 hS hbS hk2)
    | (change wpList _ _ _ ({ dst := none, op := .store 74 _ _, type := _, pos := _, after := _, guard := _ } :: _) _ _
       refine wpS rfl _ _ _ rfl S0 rfl (.agg (wcells shaInit)) initCellsV _ _ hbS (size8 rfl) rfl (wcells_one _) ?_
       intro w3 hbS3 hk3)
    | (go_at_call 36; refine (dNumbers _).mono ?_; rintro e w4 ⟨rfl, hk4⟩)
    | (change wpList _ _ _ ({ dst := some 4, op := .alloc _, type := _, pos := _, after := _, guard := _ } :: _) _ _
       refine wpA rfl _ rfl _ info64 ?_; intro K0 w5 hK hbK hk5)
    | (change wpList _ _ _ ({ dst := none, op := .store 75 _ _, type := _, pos := _, after := _, guard := _ } :: _) _ _
       refine wpS rfl _ _ _ rfl K0 rfl (.agg (wcells shaK)) rfl _ _ hbK size64 rfl (wcells_one _) ?_
       intro w6 hbK6 hk6))
  have hHS : H0 < S0 := Nat.lt_of_lt_of_le hbH.lt hS
  have hSK : S0 < K0 := Nat.lt_of_lt_of_le (Nat.lt_of_lt_of_le hbS3.lt hk4.size) hK
  have BH := hide (((((hbH.kept hk2 (by simp)).kept hk3 (by simp; omega)).kept hk4 (by simp)).kept hk5 (by simp)).kept hk6 (by simp; omega))
  have BS := hide (p := Blk w6 S0 74 (wcells (shaRun 0 shaInit p))) ((((hbS3.kept hk4 (by simp)).kept hk5 (by simp)).kept hk6 (by simp; omega)))
  have BK := hide hbK6
  have KW := hide ((((((hk1.trans hk2).then_ hk3 (by simp; omega)).trans hk4).trans hk5).then_ hk6 (by simp; omega)))
  have RP := hide (p := RdB w.heap.size w6 A ((p.drop (64 * 0)).map BV)) (HR.out.kept KW.out (by simp))
  clear hbH hbS hbS3 hbK hbK6 hk1 hk2 hk3 hk4 hk5 hk6 hS hK HR
  go_loopw [5] (fun v wr => ∃ (k : Nat) (A' : Option Addr), 64 * k ≤ p.length ∧ v = .slice A' (p.length - 64 * k) (c - 64 * k) ∧ RdB w.heap.size wr A' ((p.drop (64 * k)).map BV) ∧
      Blk wr S0 74 (wcells (shaRun k shaInit p)) ∧ Blk wr K0 75 (wcells shaK) ∧ Blk wr H0 49 (bcells (List.replicate 32 0)) ∧ Kept [] w wr) (fun v _ => lenV v)
  case atStart => exact ⟨0, A, by omega, rfl, RP.out, BS.out, BK.out, BH.out, KW.out⟩
  case round =>
    obtain ⟨k, A', hk, rfl, hrp, hbS, hbK, hbH, hkw⟩ := hrel
    clear BH BS BK KW RP
    by_cases hlt : 64 ≤ p.length - 64 * k
    · obtain ⟨a, rfl, hab, hcell⟩ := hrp (by simp; omega)
      have RP := hide hrp; have BS := hide hbS; have BK := hide hbK; have BH := hide hbH; have KW := hide hkw; have HC := hide hcell
      clear hrp hbS hbK hbH hkw hcell
      have l1 : (64 : Int) ≤ ((p.length - 64 * k : Nat) : Int) := by omega
      have l2 : (p.length - 64 * k) ≤ c - 64 * k := by omega
      go_wp2_with (go_at_call 37; refine (dTakeN _ _ _ _ _ _ _ (p.drop (64 * k)) (shaRun_len _ _ _ rfl) BS.out BK.out HC.out (by simp) hlt (by omega)).mono ?_; rintro e w7 ⟨rfl, hbS7, hk7⟩)
      go_roundw
      case rel =>
        exact ⟨k + 1, _, by omega, by rw [show p.length - 64 * (k + 1) = p.length - 64 * k - 64 by omega, show c - 64 * (k + 1) = c - 64 * k - 64 by omega],
          RdB.step64 (RP.out.kept hk7 (by simp; omega)) (by omega) (by omega), by rw [shaRun_succ]; exact hbS7, BK.out.kept hk7 (by simp; omega), BH.out.kept hk7 (by simp; omega), KW.out.then_ hk7 (by simp; omega)⟩
      case measure => simp [lenV]; omega
    · obtain ⟨r, hr⟩ : ∃ r, p.length - 64 * k = r := ⟨_, rfl⟩
      have HR64 := hide (p := (p.drop (64 * k)).length = r) (by simp; exact hr)
      have hka : k = p.length / 64 := by omega
      have HS := hide (p := shaRun k shaInit p = shaRun (p.length / 64) shaInit p) (by rw [← hka])
      generalize hrest : p.drop (64 * k) = rest at *
      have HREST := hide (p := rest = p.drop (64 * (p.length / 64))) (by rw [← hrest, hka])
      clear hrest hka
      generalize shaRun k shaInit p = s1 at *
      have hs1 := hide (p := s1.length = 8) (by rw [HS.out]; exact shaRun_len _ _ _ rfl)
      have RP := hide hrp; have BS := hide hbS; have BK := hide hbK; have BH := hide hbH; have KW := hide hkw
      clear hrp hbS hbK hbH hkw
      have hr63 : r < 64 := by omega
      have hd : decide ((64 : Int) ≤ (r : Int)) = false := by simp; omega
      rw [hr]
      have HRR := hide hr; clear hr
      go_upto_if 30 with (first
        | (change wpList _ _ _ ({ dst := some 6, op := .alloc _, type := _, pos := _, after := _, guard := _ } :: _) _ _
           refine wpA rfl _ rfl _ info128 ?_; intro L0 w8 hL hbL hk8)
        | (at_builtin; fail)
        | (change wpList _ _ _ ({ dst := some 26, op := _, type := _, pos := _, after := _, guard := _ } :: _) _ _
           generalize hG : wpList _ _ _ _ _ _ = G))
      rw [← hG]; clear hG G
      have hK0 : K0 < L0 := Nat.lt_of_lt_of_le BK.out.lt hL
      refine wpC rfl _ _ _ _ rfl 5 Try.underlying22 size1 A' L0 0 128 128 r _ rfl rfl _ _ hbL (rest.map BV) (by rw [List.length_map, HR64.out]; exact (Nat.min_eq_left (by omega)).symm) (RP.out.rd.kept hk8 (by simp)) (by rw [List.length_map, HR64.out, show Value.cells (.agg (bcells (List.replicate 128 0))) = bcells (List.replicate 128 0) from rfl, bcells_size, List.length_replicate]; omega) (bv_one _) r (by simp [HR64.out]) ?_
      intro w9 hbL9 hk9
      rw [show Value.cells (.agg (bcells (List.replicate 128 0))) = bcells (List.replicate 128 0) from rfl, last0_cells] at hbL9
      have k9 : Kept [] wr w9 := hk8.then_ hk9 (by simp; omega)
      have BL := hide hbL9
      have BS9 := hide (BS.out.kept k9 (by simp)); have BK9 := hide (BK.out.kept k9 (by simp)); have BH9 := hide (BH.out.kept k9 (by simp)); have KW9 := hide (KW.out.then_ k9 (by simp))
      clear hbL9 hbL hk8 hk9 k9 BS BK BH KW RP
      have hll : (rest ++ List.replicate (128 - rest.length) (0 : UInt8)).length = 128 := by simp [HR64.out]; omega
      have cl := BL.out.byte' (i := r) (o := r) (by rw [hll]; omega) rfl
      have fl := BL.out.frozen r
      have hr128 : (r : Int) < 128 := by omega
      have HLL := hide hll; clear hll
      go_upto_if 30 with fail
      have BL0 := hide (p := Blk (w9.setCell ⟨L0, r, none⟩ (.int .u8 128)) L0 79 (bcells (shaLast0 rest))) (by
        have := BL.out.setByte r 128
        unfold shaLast0
        rw [HR64.out] at this ⊢
        exact this)
      have hll : (shaLast0 rest).length = 128 := by unfold shaLast0; rw [List.length_set]; exact HLL.out
      have BS9' := hide (BS9.out.far (p := ⟨L0, r, none⟩) (by simp; omega) (.int .u8 128))
      have BK9' := hide (BK9.out.far (p := ⟨L0, r, none⟩) (by simp; omega) (.int .u8 128))
      have BH9' := hide (BH9.out.far (p := ⟨L0, r, none⟩) (by simp; omega) (.int .u8 128))
      have KW9' := hide (KW9.out.setCell (p := ⟨L0, r, none⟩) (.inr (by show w.heap.size ≤ L0; omega)) (.int .u8 128))
      have HL2 := hide hll
      clear hll BS9 BK9 BH9 KW9 cl fl BL HLL
      generalize w9.setCell ⟨L0, r, none⟩ (.int .u8 128) = wa at *
      go_cut [8] (fun v8 w' => ∃ E : Nat, v8 = .int .i64 (E : Int) ∧ Hid (E = if r < 56 then 64 else 128) ∧ w' = wa)
      case first =>
        by_cases h56 : (56 : Int) ≤ r
        · go_wp2
          go_meet
          case rel => exact ⟨128, rfl, hide (by rw [if_neg (by omega)]), rfl⟩
        · go_wp2
          go_meet
          case rel => exact ⟨64, rfl, hide (by rw [if_pos (by omega)]), rfl⟩
      case rest =>
        obtain ⟨E, rfl, HE, rfl⟩ := hcut
        have he1 : 64 ≤ E := by rw [HE.out]; split <;> omega
        have he2 : E ≤ 128 := by rw [HE.out]; split <;> omega
        have HE3 := hide (p := E = 64 ∨ E = 128) (by rw [HE.out]; split <;> omega)
        have hpl : p.length ≤ 140737488355328 := by omega
        have hconv : IntKind.u64.wrap (p.length : Int) = U64 (UInt64.ofNat p.length) := by
          rw [U64_lit _ (by omega)]; exact IntWalk.u64_in _ (by omega)
        go_wp2
        clear hconv
        obtain ⟨D, hD⟩ : ∃ D, D = shl64 (UInt64.ofNat p.length) 3 := ⟨_, rfl⟩
        rw [← hD]
        have HD := hide hD; clear hD
        obtain ⟨wo, rfl⟩ : ∃ wo : World, wo = wc := ⟨_, rfl⟩
        go_loopw [35] (fun v wq => ∃ j : Nat, j ≤ 8 ∧ v = .int .i64 (j : Int) ∧ Blk wq L0 79 (bcells (shaLast (shaLast0 rest) E D j)) ∧ Kept [L0] wo wq) (fun v _ => 8 - (intOf v).toNat)
        case atStart => exact ⟨0, by omega, rfl, BL0.out, Kept.refl _ _⟩
        case round =>
          obtain ⟨j, hj, rfl, hbl, hkl⟩ := hrel
          have hsl : (shaLast (shaLast0 rest) E D j).length = 128 := by rw [shaLast_len]; exact HL2.out
          by_cases hlt8 : j < 8
          · have x1 : IntKind.i64.wrap ((E : Int) - 1) = E - 1 := IntWalk.i64_in _ (by omega)
            have x2 : IntKind.i64.wrap ((E : Int) - 1 - j) = E - 1 - j := IntWalk.i64_in _ (by omega)
            have x3 : IntKind.i64.wrap (8 * (j : Int)) = 8 * j := IntWalk.i64_in _ (by omega)
            have x4 : (0 : Int) ≤ E - 1 - j := by omega
            have x5 : (E : Int) - 1 - j < 128 := by omega
            have x6 : ((E : Int) - 1 - j).toNat = E - 1 - j := by omega
            have x7 : (8 * (j : Int)).toNat = 8 * j := by omega
            have x8 : (0 : Int) ≤ 8 * (j : Int) := by omega
            have cl := hbl.byte' (i := E - 1 - j) (o := E - 1 - j) (by omega) rfl
            have fl := hbl.frozen (E - 1 - j)
            have HBL := hide hbl; have HKL := hide hkl; clear hbl hkl hsl
            go_wp2
            go_roundw
            case rel => exact ⟨j + 1, by omega, by go_num, HBL.out.setByte _ _, HKL.out.setCell (.inl (by simp)) _⟩
            case measure => simp [intOf]; omega
          · have hj8 : j = 8 := by omega
            obtain ⟨L, hL⟩ : ∃ L, shaLast (shaLast0 rest) E D j = L := ⟨_, rfl⟩
            rw [hL] at hbl hsl
            have HL8 := hide (p := L = shaLast (shaLast0 rest) E D 8) (by rw [← hL, hj8])
            have hd8 : decide ((j : Int) < 8) = false := by simp; omega
            clear hL hj8
            have HBL := hide hbl; have HSL := hide hsl
            have BS2 := hide (BS9'.out.kept hkl (by simp; omega)); have BK2 := hide (BK9'.out.kept hkl (by simp; omega)); have BH2 := hide (BH9'.out.kept hkl (by simp; omega)); have KW2 := hide (KW9'.out.then_ hkl (by simp; omega))
            clear hbl hsl hkl BL0 BS9' BK9' BH9' KW9'
            go_wp2
            obtain ⟨wo2, rfl⟩ : ∃ wo : World, wo = wr := ⟨_, rfl⟩
            go_loopw [11] (fun v wq => ∃ j : Nat, 64 * j ≤ E ∧ v = .int .i64 (64 * (j : Int)) ∧ Blk wq S0 74 (wcells (shaRun j s1 L)) ∧ Kept [S0] wo2 wq) (fun v _ => E - (intOf v).toNat)
            case atStart => exact ⟨0, by omega, rfl, BS2.out, Kept.refl _ _⟩
            case round =>
              obtain ⟨j2, hj2, rfl, hbs, hks⟩ := hrel
              by_cases hlt9 : 64 * j2 < E
              · have y1 : 64 * (j2 : Int) < E := by omega
                have y2 : 0 ≤ 64 * (j2 : Int) := by omega
                have y3 : 64 * (j2 : Int) ≤ 128 := by omega
                have y4 : (64 * (j2 : Int)).toNat = 64 * j2 := by omega
                have HBS := hide hbs; have HKS := hide hks
                have HBL2 := hide (HBL.out.kept hks (by simp; omega)); have HBK2 := hide (BK2.out.kept hks (by simp; omega))
                clear hbs hks
                have hE64 : 64 * j2 + 64 ≤ 128 := by omega
                go_wp2_with fail
                (with_reducible refine (dTakeN _ _ _ _ _ _ _ (L.drop (64 * j2)) (shaRun_len _ _ _ hs1.out) HBS.out HBK2.out (rd_at HBL2.out _) (by rw [List.length_drop, HSL.out]) (by omega) (by omega)).mono ?_)
                rintro e w10 ⟨rfl, hbS10, hk10⟩
                go_wp2
                go_roundw
                case rel => exact ⟨j2 + 1, by have := HE3.out; omega, by rw [show 64 * ((j2 + 1 : Nat) : Int) = 64 * (j2 : Int) + 64 by omega], by rw [shaRun_succ]; exact hbS10, HKS.out.then_ hk10 (by simp)⟩
                case measure => simp [intOf]; omega
              · have hjE : j2 = E / 64 := by
                  rcases Nat.lt_or_ge r 56 with h | h
                  · have := HE.out; rw [if_pos h] at this; omega
                  · have := HE.out; rw [if_neg (by omega)] at this; omega
                obtain ⟨s2, hs2⟩ : ∃ s2, shaRun j2 s1 L = s2 := ⟨_, rfl⟩
                have HS2 := hide (p := s2 = shaRun (E / 64) s1 L) (by rw [← hs2, hjE])
                have HS2L := hide (p := s2.length = 8) (by rw [← hs2]; exact shaRun_len _ _ _ hs1.out)
                rw [hs2] at hbs
                have hd9 : decide (64 * (j2 : Int) < E) = false := by simp; omega
                have y2 : 0 ≤ 64 * (j2 : Int) := by omega
                have BS3 := hide hbs
                have BH3 := hide (BH2.out.kept hks (by simp; omega)); have KW3 := hide (KW2.out.then_ hks (by simp; omega))
                clear hs2 hjE hbs hks BS2 BK2 BH2 KW2 HBL
                go_wp2_with (change wpList _ _ _ ({ dst := some 57, op := .load _ _, type := _, pos := _, after := _, guard := _ } :: _) _ _
                             refine wpL rfl _ _ rfl S0 rfl _ _ _ BS3.out Try.underlying74 rfl (size8 HS2L.out) ?_)
                obtain ⟨wo3, rfl⟩ : ∃ wo : World, wo = wr := ⟨_, rfl⟩
                go_loopw [58] (fun v wq => ∃ j : Nat, j ≤ 8 ∧ v = .int .i64 (j : Int) ∧ Blk wq H0 49 (bcells (shaOut s2 j (List.replicate 32 0))) ∧ Kept [H0] wo3 wq) (fun v _ => 8 - (intOf v).toNat)
                case atStart => exact ⟨0, by omega, rfl, BH3.out, Kept.refl _ _⟩
                case round =>
                  obtain ⟨j3, hj3, rfl, hbh, hkh⟩ := hrel
                  have hol : (shaOut s2 j3 (List.replicate 32 0)).length = 32 := by rw [shaOut_len, List.length_replicate]
                  by_cases hlt10 : j3 < 8
                  · have z0 : IntKind.i64.wrap (4 * (j3 : Int)) = 4 * j3 := IntWalk.i64_in _ (by omega)
                    have z1 : IntKind.i64.wrap (4 * (j3 : Int) + 1) = 4 * j3 + 1 := IntWalk.i64_in _ (by omega)
                    have z2 : IntKind.i64.wrap (4 * (j3 : Int) + 2) = 4 * j3 + 2 := IntWalk.i64_in _ (by omega)
                    have z3 : IntKind.i64.wrap (4 * (j3 : Int) + 3) = 4 * j3 + 3 := IntWalk.i64_in _ (by omega)
                    have a0 : 0 ≤ 4 * (j3 : Int) := by omega
                    have a1 : 0 ≤ 4 * (j3 : Int) + 1 := by omega
                    have a2 : 0 ≤ 4 * (j3 : Int) + 2 := by omega
                    have a3 : 0 ≤ 4 * (j3 : Int) + 3 := by omega
                    have b0 : 4 * (j3 : Int) < 32 := by omega
                    have b1 : 4 * (j3 : Int) + 1 < 32 := by omega
                    have b2 : 4 * (j3 : Int) + 2 < 32 := by omega
                    have b3 : 4 * (j3 : Int) + 3 < 32 := by omega
                    have t0 : (4 * (j3 : Int)).toNat = 4 * j3 := by omega
                    have t1 : (4 * (j3 : Int) + 1).toNat = 4 * j3 + 1 := by omega
                    have t2 : (4 * (j3 : Int) + 2).toNat = 4 * j3 + 2 := by omega
                    have t3 : (4 * (j3 : Int) + 3).toNat = 4 * j3 + 3 := by omega
                    have c0 := hbh.byte' (i := 4 * j3) (o := 4 * j3) (by omega) rfl
                    have c1 := hbh.byte' (i := 4 * j3 + 1) (o := 4 * j3 + 1) (by omega) rfl
                    have c2 := hbh.byte' (i := 4 * j3 + 2) (o := 4 * j3 + 2) (by omega) rfl
                    have c3 := hbh.byte' (i := 4 * j3 + 3) (o := 4 * j3 + 3) (by omega) rfl
                    have f0 := hbh.frozen (4 * j3)
                    have f1 := hbh.frozen (4 * j3 + 1)
                    have f2 := hbh.frozen (4 * j3 + 2)
                    have f3 := hbh.frozen (4 * j3 + 3)
                    have hidx := idxW s2 HS2L.out j3 hlt10
                    have HBH := hide hbh; have HKH := hide hkh; clear hbh hkh hol
                    go_wp2
                    go_roundw
                    case rel => exact ⟨j3 + 1, by omega, by go_num, (((HBH.out.setByte _ _).setByte _ _).setByte _ _).setByte _ _, (((HKH.out.setCell (.inl (by simp)) _).setCell (.inl (by simp)) _).setCell (.inl (by simp)) _).setCell (.inl (by simp)) _⟩
                    case measure => simp [intOf]; omega
                  · have hj8' : j3 = 8 := by omega
                    have HOUT := hide (p := shaOut s2 j3 (List.replicate 32 0) = sha p) (by
                      rw [hj8']; exact sha_of p rest L r E D s1 s2 HREST.out HR64.out HE.out HD.out HL8.out HS.out HS2.out)
                    rw [HOUT.out] at hbh
                    have HBH := hide hbh
                    have HKW := hide (KW3.out.then_ hkh (by simp; omega))
                    have hd10 : decide ((j3 : Int) < 8) = false := by simp; omega
                    clear hbh hkh hol hj8'
                    go_wp2_with (first
                      | (change wpList _ _ _ ({ dst := some 89, op := .load _ _, type := _, pos := _, after := _, guard := _ } :: _) _ _
                         refine wpL rfl _ _ rfl H0 rfl _ _ _ HBH.out Try.underlying49 rfl (by rw [bcells_size, sha_len]; exact sizeHash) ?_)
                      | (change wpList _ _ _ ({ dst := none, op := .store 49 _ _, type := _, pos := _, after := _, guard := _ } :: _) _ _
                         refine wpS rfl _ _ _ rfl H0 rfl (.agg (bcells (sha p))) rfl _ _ HBH.out (by rw [Value.cells, bcells_size, sha_len]; exact sizeHash) rfl (bcells_one _) ?_
                         intro w11 hb11 hk11))
                    refine bodyPost_ret (results_cell_row rfl _ _ _ _ _ _ _ rfl hb11 Try.underlying49 rfl (by rw [Value.cells, bcells_size, sha_len]; exact sizeHash)) rfl ⟨rfl, ?_⟩
                    exact HKW.out.then_ hk11 (by simp; omega)
end Go.Proofs.Ytbkmmelhfkcmgaa
