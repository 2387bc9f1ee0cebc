/- The law DigestLinks of chapter 2, walked. -/
import Derived.Test.YtfjcflmhboepmaaLaw2
import Derived.Deep.RegionHeld3
import Derived.Deep.MidRow
open Go Go.RowKit
namespace Go.Proofs.Ytfjcflmhboepmaa
theorem stBSw {P : Program} {ops : Array Oper} {o : Oper} {a : Act} {w : World} {K : Act → World → Prop} {Q : Exit → Act → World → Prop} {E : Prop} (hw : Region.wanted o (yielded ops a.tmps) = true) (t : TypeId) (n : Nat) (parts : Array (Nat × Operand)) (ho : o.op = .buildSlice t n parts) (cs : Array Value) (e : TypeId)
    (vs : Array (Nat × Value)) (hvs : (parts.map fun (i, x) => (i, a.eval x)) = vs) (hrun : ∀ w, (Instr.buildSlice t n vs).run P w = .ok (.slice (some ⟨w.heap.size, 0, none⟩) n n) (w.alloc (.cells cs e)))
    (h : ∀ (g : Nat) (w' : World), w.heap.size ≤ g → Blk w' g e cs → Kept [] w w' → K (a.put o.dst (.slice (some ⟨g, 0, none⟩) n n)) w') :
    if Region.wanted o (yielded ops a.tmps) = true then Oper.wp P o a w K Q else E := by
  rw [if_pos hw]
  unfold Oper.wp execOp
  simp only [ho, hvs, Sem.run_bind, hrun]
  exact h _ _ (Nat.le_refl _) (Blk.new w e cs) ((Kept.refl [] w).alloc _)
theorem stApw {ops : Array Oper} {o : Oper} {a : Act} {w : World} {K : Act → World → Prop} {Q : Exit → Act → World → Prop} {E : Prop} (hw : Region.wanted o (yielded ops a.tmps) = true) (s x : Operand)
    (ho : o.op = .call { callee := .builtin .append, args := #[s, x], argTypes := #[22, 22] }) (base : Nat)
    (v : Value) (xs : List UInt8) (hs : a.eval s = v) (hown : Own base w v xs)
    (A : Option Addr) (m c : Nat) (ys : List UInt8) (hx : a.eval x = .slice A m c) (hl : ys.length = m) (hr : Rd w A (ys.map BV))
    (hbytes : xs.length + ys.length ≤ 140737488355328) (hbase : base ≤ w.heap.size)
    (h : ∀ v' w', Own base w' v' (xs ++ ys) → Kept v.ownBlock.toList w w' → (∀ g, v'.ownBlock = some g → v.ownBlock = some g ∨ w.heap.size ≤ g) → K (a.put o.dst v') w') :
    if Region.wanted o (yielded ops a.tmps) = true then Oper.wp Try.prog o a w K Q else E := by
  rw [if_pos hw]
  subst hl
  obtain ⟨v', w', hrun, h2, h3, h4⟩ := run_append_gen (P := Try.prog) (ty := o.type) w byteT base v xs.length (xs.map BV) hown A ys.length c (ys.map BV) (by simp) hr (bv_one _) (by simp only [maxLen]; omega) (by omega) hbase
  unfold Oper.wp execOp
  simp only [ho, resolve, invoke, builtin, Sem.run_bind, Sem.run_pure, Result.andThen_ok, List.map_toArray, List.map_cons, List.map_nil, hs, hx, hrun]
  refine h v' w' ?_ (Kept.of_grown h3 (fun k hk => .inl (by simp [hk]))) (fun g hg => ?_)
  · unfold Own
    rw [List.length_append, List.map_append]
    exact h2
  · rcases h4 with h4 | h4
    · exact .inl (h4 ▸ hg)
    · rw [h4] at hg; injection hg with hg; exact .inr (by omega)
/-- as one step of a region that draws: a long row is loaded -/
theorem stL {P : Program} {ops : Array Oper} {o : Oper} {a : Act} {w : World} {K : Act → World → Prop} {Q : Exit → Act → World → Prop} {E : Prop} (hw : Region.wanted o (yielded ops a.tmps) = true) (ty : TypeId) (x : Operand) (ho : o.op = .load ty x)
    (b : Nat) (hx : a.eval x = .pointer (some ⟨b, 0, none⟩)) (cs : List Value) (d : TypeDesc) (hc : w.rangeAt b 0 cs) (hu : P.underlying ty = some d) (hd : d.isRow = true) (hi : (P.info? ty).map (·.size) = some cs.length)
    (h : K (a.put o.dst (.agg cs.toArray)) w) : if Region.wanted o (yielded ops a.tmps) = true then Oper.wp P o a w K Q else E := by
  rw [if_pos hw]
  exact wp_load_mid ty x ho b 0 hx cs d hc hu hd hi h
/-- what stands while the law's region is walked -/
structure LS (w : World) (N B0 : Nat) (A1 : Option Addr) (p : List UInt8) (w' : World) : Prop where
  kept : Kept [] w w'
  room : RdB N w' A1 ((p ++ [171]).map BV)
  b0 : B0 < N
  size : w.heap.size ≤ N
  grown : N ≤ w'.heap.size
theorem LS.next {w : World} {N B0 : Nat} {A1 : Option Addr} {h p : List UInt8} {w1 w2 : World} {S : List Nat} (hs : w1.rangeAt B0 0 (h.map BV) ∧ LS w N B0 A1 p w1) (hk : Kept S w1 w2) (hS : ∀ k, k ∈ S → N ≤ k) :
    w2.rangeAt B0 0 (h.map BV) ∧ LS w N B0 A1 p w2 := by
  obtain ⟨hr, hl⟩ := hs
  refine ⟨fun j v hv => hk.cell_some (hr j v hv) (fun hm => by have := hS _ hm; have := hl.b0; simp at *; omega), hl.kept.then_ hk (fun k hm => .inr (by have := hS k hm; have := hl.size; omega)), hl.room.kept hk hS, hl.b0, hl.size, Nat.le_trans hl.grown hk.size⟩
theorem LS.drew {w : World} {N B0 : Nat} {A1 : Option Addr} {h p : List UInt8} {w1 : World} (hs : w1.rangeAt B0 0 (h.map BV) ∧ LS w N B0 A1 p w1) : w1.drew.rangeAt B0 0 (h.map BV) ∧ LS w N B0 A1 p w1.drew :=
  ⟨hs.1, hs.2.kept.drew, hs.2.room, hs.2.b0, hs.2.size, hs.2.grown⟩
theorem rd_range {w : World} {B0 : Nat} {h : List UInt8} (hs : w.rangeAt B0 0 (h.map BV)) : Rd w (some ⟨B0, 0, none⟩) (h.map BV) := fun _ =>
  ⟨_, rfl, fun i v hv => by rw [add_mk]; exact hs i v hv⟩
section
attribute [local go_sem high] run_cutH8
set_option maxRecDepth 100000 in
set_option maxHeartbeats 2000000 in
theorem digestLinks (w : World) (h : List UInt8) (hh : h.length = 32) (A : Option Addr) (n c : Nat) (p : List UInt8) (hn : p.length = n) (hr : Rd w A (p.map BV)) (hc : n ≤ c) :
    Calls Try.prog 6 #[.agg (bcells h), .slice A n c] w fun e w' => e = .returned (.bool true) ∧ Kept [] w w' := by
  have HR := hide hr.bound; have HN := hide hn; have HH := hide hh
  clear hr hn hh
  go_enter Try.func6, Try.ntmps6
  by_cases hbig : 1500 < n
  · go_wp2_with (change wpList _ _ _ ({ dst := _, op := .box _ _, type := _, pos := _, after := _, guard := _ } :: _) _ _
                 refine wpB rfl _ _ rfl (.agg (bcells h)) rfl ?_; intro B0 w1 hB hbB hk1)
    go_ret
    exact ⟨rfl, hk1⟩
  · go_wp2_with (change wpList _ _ _ ({ dst := _, op := .box _ _, type := _, pos := _, after := _, guard := _ } :: _) _ _
                 refine wpB rfl _ _ rfl (.agg (bcells h)) rfl ?_; intro B0 w1 hB hbB hk1)
    (with_reducible refine (L2.roomy _ A n c p HN.out (HR.out.rd.kept hk1 (by simp)) (by omega)).mono ?_)
    rintro e w2 ⟨A1, c1, rfl, hr1, hc1, hk2⟩
    have hnc : n ≤ c1 := by omega
    have HR1 := hide hr1; have HK2 := hide (hk1.trans hk2); have HB2 := hide (hbB.kept hk2 (by simp))
    clear hr1 hk1 hk2 hbB
    have hS0 : w2.rangeAt B0 0 (h.map BV) ∧ LS w w2.heap.size B0 A1 p w2 :=
      ⟨fun j v hv => by rw [Nat.zero_add, Blk.cell HB2.out]; simpa [Value.cells, bcells] using hv, HK2.out, HR1.out.bound, HB2.out.lt, HK2.out.size, Nat.le_refl _⟩
    have hS1 := LS.drew hS0
    have hu25 := Try.underlying25
    have hi25 : (Try.prog.info? 25).map (·.size) = some (h.map BV).length := by rw [List.length_map, HH.out]; exact sizeHash
    have HSL : ∀ W : World, (binOp .eql 25 (.agg (bcells (linkS h p))) (.agg (bcells (linkS h p)))).run Try.prog W = .ok (.bool true) W := eqSame (sha (h ++ p)) (sha_len _)
    have HSM : ∀ W : World, (binOp .eql 25 (.agg (bcells (linkS h p))) (.agg (bcells (sha (h ++ p))))).run Try.prog W = .ok (.bool true) W := eqSame (sha (h ++ p)) (sha_len _)
    have HSX := eqStrT 9 ⟨(hexS h).toArray⟩
    generalize hN : w2.heap.size = N at *
    clear hS0 HK2 HB2 HR1
    go_wp2_with fail
    refine wp_region_held_drew (S := fun w' => w'.rangeAt B0 0 (h.map BV) ∧ LS w N B0 A1 p w') (by kernel_rfl) hS1 (fun hHeld => ?_)
    refine wpAnyH_take (i := 0) (oi := { dst := some 11, op := _, type := _, pos := _, after := _, guard := _ }) (v := .agg (bcells h)) rfl (by kernel_rfl) (by kernel_rfl) (by kernel_rfl) (fun _ _ _ h => h) (yieldsIf_load_mid (by rfl) _ _ rfl _ _ rfl (h.map BV) _ (fun _ hh => hh.1) hu25 rfl hi25) (by assumption) ?_
    try simp only [Act.put, List.setIfInBounds_toArray, List.set_cons_zero, List.set_cons_succ]
    refine wpAnyH_take (i := 6) (oi := { dst := some 17, op := _, type := _, pos := _, after := _, guard := _ }) (v := .agg (bcells h)) rfl (by kernel_rfl) (by kernel_rfl) (by kernel_rfl) (fun _ _ _ h => h) (yieldsIf_load_mid (by rfl) _ _ rfl _ _ rfl (h.map BV) _ (fun _ hh => hh.1) hu25 rfl hi25) (by assumption) ?_
    try simp only [Act.put, List.setIfInBounds_toArray, List.set_cons_zero, List.set_cons_succ]
    refine wpAnyH_take (i := 1) (oi := { dst := some 12, op := _, type := _, pos := _, after := _, guard := _ }) (v := ?_) rfl (by kernel_rfl) (by kernel_rfl) (by kernel_rfl) (fun _ _ _ h => h) (Or.inl ⟨by rfl, ?_⟩) (by assumption) ?_
    rotate_left 1
    · intro w hSw; go_simp <;> with_reducible rfl
    try simp only [Act.put, List.setIfInBounds_toArray, List.set_cons_zero, List.set_cons_succ]
    refine wpAnyH_take (i := 2) (oi := { dst := some 13, op := _, type := _, pos := _, after := _, guard := _ }) (v := ?_) rfl (by kernel_rfl) (by kernel_rfl) (by kernel_rfl) (fun _ _ _ h => h) (Or.inl ⟨by rfl, ?_⟩) (by assumption) ?_
    rotate_left 1
    · intro w hSw; go_simp <;> with_reducible rfl
    try simp only [Act.put, List.setIfInBounds_toArray, List.set_cons_zero, List.set_cons_succ]
    refine wpAnyH_take (i := 3) (oi := { dst := some 14, op := _, type := _, pos := _, after := _, guard := _ }) (v := ?_) rfl (by kernel_rfl) (by kernel_rfl) (by kernel_rfl) (fun _ _ _ h => h) (Or.inl ⟨by rfl, ?_⟩) (by assumption) ?_
    rotate_left 1
    · intro w hSw; go_simp <;> with_reducible rfl
    try simp only [Act.put, List.setIfInBounds_toArray, List.set_cons_zero, List.set_cons_succ]
    refine wpAnyH_take (i := 4) (oi := { dst := some 15, op := _, type := _, pos := _, after := _, guard := _ }) (v := ?_) rfl (by kernel_rfl) (by kernel_rfl) (by kernel_rfl) (fun _ _ _ h => h) (Or.inl ⟨by rfl, ?_⟩) (by assumption) ?_
    rotate_left 1
    · intro w hSw; go_simp <;> with_reducible rfl
    try simp only [Act.put, List.setIfInBounds_toArray, List.set_cons_zero, List.set_cons_succ]
    refine wpAnyH_take (i := 7) (oi := { dst := some 18, op := _, type := _, pos := _, after := _, guard := _ }) (v := ?_) rfl (by kernel_rfl) (by kernel_rfl) (by kernel_rfl) (fun _ _ _ h => h) (Or.inl ⟨by rfl, ?_⟩) (by assumption) ?_
    rotate_left 1
    · intro w hSw; go_simp <;> with_reducible rfl
    try simp only [Act.put, List.setIfInBounds_toArray, List.set_cons_zero, List.set_cons_succ]
    refine wpAnyH_ready (rs := [5]) (by kernel_rfl) (by simp) (AllReadyH.cons (o := { dst := some 16, op := _, type := _, pos := _, after := _, guard := _ }) rfl (fun K hK => ?_) AllReadyH.nil)
    go_simp
    with_reducible refine (dLink _ A1 n c1 h p HH.out HN.out (by assumption : World.rangeAt _ B0 0 (h.map BV) ∧ LS w N B0 A1 p _).2.room.rd.front (by omega)).mono ?_
    rintro e wc10 ⟨rfl, hkc10⟩
    have hS10 := LS.next (w := w) (N := N) (B0 := B0) (A1 := A1) (h := h) (p := p) (by assumption) hkc10 (by simp)
    refine hK.out _ _ hS10 (fun _ => ?_)
    clear hK K
    try simp only [Act.put, List.setIfInBounds_toArray, List.set_cons_zero, List.set_cons_succ]
    refine wpAnyH_ready (rs := [8]) (by kernel_rfl) (by simp) (AllReadyH.cons (o := { dst := some 19, op := _, type := _, pos := _, after := _, guard := _ }) rfl (fun K hK => ?_) AllReadyH.nil)
    go_simp
    with_reducible refine (rLink _ A n c h p HH.out HN.out (HR.out.rd.kept (by assumption : World.rangeAt _ B0 0 (h.map BV) ∧ LS w N B0 A1 p _).2.kept (by simp)) (by omega)).mono ?_
    rintro e wc11 ⟨rfl, hkc11⟩
    have hS11 := LS.next (w := w) (N := N) (B0 := B0) (A1 := A1) (h := h) (p := p) (by assumption) hkc11 (by simp)
    refine hK.out _ _ hS11 (fun _ => ?_)
    clear hK K
    try simp only [Act.put, List.setIfInBounds_toArray, List.set_cons_zero, List.set_cons_succ]
    refine wpAnyH_take (i := 9) (oi := { dst := some 20, op := _, type := _, pos := _, after := _, guard := _ }) (v := ?_) rfl (by kernel_rfl) (by kernel_rfl) (by kernel_rfl) (fun _ _ _ h => h) (Or.inl ⟨by rfl, ?_⟩) (by assumption) ?_
    rotate_left 1
    · intro w hSw; go_simp <;> with_reducible rfl
    try simp only [Act.put, List.setIfInBounds_toArray, List.set_cons_zero, List.set_cons_succ]
    refine wpAnyH_take (i := 10) (oi := { dst := some 21, op := _, type := _, pos := _, after := _, guard := _ }) (v := ?_) rfl (by kernel_rfl) (by kernel_rfl) (by kernel_rfl) (fun _ _ _ h => h) (Or.inl ⟨by rfl, ?_⟩) (by assumption) ?_
    rotate_left 1
    · intro w hSw; go_simp <;> with_reducible rfl
    try simp only [Act.put, List.setIfInBounds_toArray, List.set_cons_zero, List.set_cons_succ]
    refine wpAnyH_take (i := 11) (oi := { dst := some 22, op := _, type := _, pos := _, after := _, guard := _ }) (v := .agg (bcells h)) rfl (by kernel_rfl) (by kernel_rfl) (by kernel_rfl) (fun _ _ _ h => h) (yieldsIf_load_mid (by rfl) _ _ rfl _ _ rfl (h.map BV) _ (fun _ hh => hh.1) hu25 rfl hi25) (by assumption) ?_
    try simp only [Act.put, List.setIfInBounds_toArray, List.set_cons_zero, List.set_cons_succ]
    refine wpAnyH_take (i := 12) (oi := { dst := some 23, op := _, type := _, pos := _, after := _, guard := _ }) (v := ?_) rfl (by kernel_rfl) (by kernel_rfl) (by kernel_rfl) (fun _ _ _ h => h) (Or.inl ⟨by rfl, ?_⟩) (by assumption) ?_
    rotate_left 1
    · intro w hSw; go_simp <;> with_reducible rfl
    try simp only [Act.put, List.setIfInBounds_toArray, List.set_cons_zero, List.set_cons_succ]
    refine wpAnyH_take (i := 15) (oi := { dst := some 26, op := _, type := _, pos := _, after := _, guard := _ }) (v := ?_) rfl (by kernel_rfl) (by kernel_rfl) (by kernel_rfl) (fun _ _ _ h => h) (Or.inl ⟨by rfl, ?_⟩) (by assumption) ?_
    rotate_left 1
    · intro w hSw; go_simp <;> with_reducible rfl
    try simp only [Act.put, List.setIfInBounds_toArray, List.set_cons_zero, List.set_cons_succ]
    refine wpAnyH_take (i := 17) (oi := { dst := some 28, op := _, type := _, pos := _, after := _, guard := _ }) (v := ?_) rfl (by kernel_rfl) (by kernel_rfl) (by kernel_rfl) (fun _ _ _ h => h) (Or.inl ⟨by rfl, ?_⟩) (by assumption) ?_
    rotate_left 1
    · intro w hSw; go_simp <;> with_reducible rfl
    try simp only [Act.put, List.setIfInBounds_toArray, List.set_cons_zero, List.set_cons_succ]
    refine wpAnyH_ready (rs := [13, 14]) (by kernel_rfl) (by simp) (AllReadyH.cons (o := { dst := some 24, op := _, type := _, pos := _, after := _, guard := _ }) rfl (fun K hK => ?_) (AllReadyH.cons (o := { dst := some 25, op := _, type := _, pos := _, after := _, guard := _ }) rfl (fun K hK => ?_) AllReadyH.nil))
    · go_simp
      refine (dLink _ A n c h p HH.out HN.out (HR.out.rd.kept (by assumption : World.rangeAt _ B0 0 (h.map BV) ∧ LS w N B0 A1 p _).2.kept (by simp)) (by omega)).mono ?_
      rintro e wc12 ⟨rfl, hkc12⟩
      have hS12 := LS.next (w := w) (N := N) (B0 := B0) (A1 := A1) (h := h) (p := p) (by assumption) hkc12 (by simp)
      refine hK.out _ _ hS12 (fun _ => ?_)
      clear hK K
      try simp only [Act.put, List.setIfInBounds_toArray, List.set_cons_zero, List.set_cons_succ]
      refine wpAnyH_ready (rs := [14]) (by kernel_rfl) (by simp) (AllReadyH.cons (o := { dst := some 25, op := _, type := _, pos := _, after := _, guard := _ }) rfl (fun K hK => ?_) AllReadyH.nil)
      refine stBSw rfl _ _ _ rfl #[] _ _ (by simp only [List.map_toArray, List.map_nil] <;> rfl) bs0 ?_
      intro M0 wc13 hM13 hbM13 hkc13
      have own13 : Own N wc13 (.slice (some ⟨M0, 0, none⟩) 0 0) [] := Own.of_blk (xs := []) hbM13 (by have := (by assumption : World.rangeAt _ B0 0 (h.map BV) ∧ LS w N B0 A1 p _).2.grown; omega) (by simp)
      have hS13 := LS.next (w := w) (N := N) (B0 := B0) (A1 := A1) (h := h) (p := p) (by assumption) hkc13 (by simp)
      refine hK.out _ _ hS13 (fun _ => ?_)
      clear hK K
      try simp only [Act.put, List.setIfInBounds_toArray, List.set_cons_zero, List.set_cons_succ]
      refine wpAnyH_ready (rs := [16]) (by kernel_rfl) (by simp) (AllReadyH.cons (o := { dst := some 27, op := _, type := _, pos := _, after := _, guard := _ }) rfl (fun K hK => ?_) AllReadyH.nil)
      refine stApw rfl _ _ rfl N (.slice (some ⟨M0, 0, none⟩) 0 0) [] rfl (by assumption : Own N _ (.slice (some ⟨M0, 0, none⟩) 0 0) []) (some ⟨B0, 0, none⟩) 32 32 h rfl HH.out (rd_range (by assumption : World.rangeAt _ B0 0 (h.map BV) ∧ LS w N B0 A1 p _).1) (by rw [HH.out]; simp) (by assumption : World.rangeAt _ B0 0 (h.map BV) ∧ LS w N B0 A1 p _).2.grown ?_
      intro v14 wc14 own14 hkc14 _
      have hlo14 : N ≤ M0 := (by assumption : Own N _ (.slice (some ⟨M0, 0, none⟩) 0 0) []).lo rfl
      have hS14 := LS.next (w := w) (N := N) (B0 := B0) (A1 := A1) (h := h) (p := p) (by assumption) hkc14 (by intro k hk; simp [Value.ownBlock] at hk; omega)
      refine hK.out _ _ hS14 (fun _ => ?_)
      clear hK K
      try simp only [Act.put, List.setIfInBounds_toArray, List.set_cons_zero, List.set_cons_succ]
      refine wpAnyH_ready (rs := [18]) (by kernel_rfl) (by simp) (AllReadyH.cons (o := { dst := some 29, op := _, type := _, pos := _, after := _, guard := _ }) rfl (fun K hK => ?_) AllReadyH.nil)
      refine stApw rfl _ _ rfl N v14 ([] ++ h) rfl own14 A n c p rfl HN.out (HR.out.rd.kept (by assumption : World.rangeAt _ B0 0 (h.map BV) ∧ LS w N B0 A1 p _).2.kept (by simp)) (by rw [List.nil_append, HH.out, HN.out]; omega) (by assumption : World.rangeAt _ B0 0 (h.map BV) ∧ LS w N B0 A1 p _).2.grown ?_
      intro v15 wc15 own15 hkc15 _
      have hS15 := LS.next (w := w) (N := N) (B0 := B0) (A1 := A1) (h := h) (p := p) (by assumption) hkc15 (by intro k hk; exact own14.lo (by simpa using hk))
      obtain ⟨A5, c5, rfl, hrd5, hlc5, hcm5, _⟩ := own15.form
      rw [List.nil_append] at hrd5 hlc5 ⊢
      refine hK.out _ _ hS15 (fun _ => ?_)
      clear hK K
      try simp only [Act.put, List.setIfInBounds_toArray, List.set_cons_zero, List.set_cons_succ]
      refine wpAnyH_ready (rs := [19]) (by kernel_rfl) (by simp) (AllReadyH.cons (o := { dst := some 30, op := _, type := _, pos := _, after := _, guard := _ }) rfl (fun K hK => ?_) AllReadyH.nil)
      go_simp
      with_reducible refine (dSumN _ A5 _ c5 (h ++ p) (by simp) hrd5 (by have := hlc5; simp at this ⊢; omega) (by have := HH.out; have := HN.out; simp; omega)).mono ?_
      rintro e wc16 ⟨rfl, hkc16⟩
      have hS16 := LS.next (w := w) (N := N) (B0 := B0) (A1 := A1) (h := h) (p := p) (by assumption) hkc16 (by simp)
      refine hK.out _ _ hS16 (fun _ => ?_)
      clear hK K
      try simp only [Act.put, List.setIfInBounds_toArray, List.set_cons_zero, List.set_cons_succ]
      refine wpAnyH_take (i := 20) (oi := { dst := some 31, op := _, type := _, pos := _, after := _, guard := _ }) (v := ?_) rfl (by kernel_rfl) (by kernel_rfl) (by kernel_rfl) (fun _ _ _ h => h) (Or.inl ⟨by rfl, ?_⟩) (by assumption) ?_
      rotate_left 1
      · intro w hSw; go_simp <;> with_reducible rfl
      try simp only [Act.put, List.setIfInBounds_toArray, List.set_cons_zero, List.set_cons_succ]
      refine wpAnyH_take (i := 21) (oi := { dst := some 32, op := _, type := _, pos := _, after := _, guard := _ }) (v := ?_) rfl (by kernel_rfl) (by kernel_rfl) (by kernel_rfl) (fun _ _ _ h => h) (Or.inl ⟨by rfl, ?_⟩) (by assumption) ?_
      rotate_left 1
      · intro w hSw; go_simp <;> with_reducible rfl
      try simp only [Act.put, List.setIfInBounds_toArray, List.set_cons_zero, List.set_cons_succ]
      refine wpAnyH_take (i := 22) (oi := { dst := some 33, op := _, type := _, pos := _, after := _, guard := _ }) (v := ?_) rfl (by kernel_rfl) (by kernel_rfl) (by kernel_rfl) (fun _ _ _ h => h) (Or.inl ⟨by rfl, ?_⟩) (by assumption) ?_
      rotate_left 1
      · intro w hSw; go_simp <;> with_reducible rfl
      try simp only [Act.put, List.setIfInBounds_toArray, List.set_cons_zero, List.set_cons_succ]
      refine wpAnyH_take (i := 23) (oi := { dst := some 34, op := _, type := _, pos := _, after := _, guard := _ }) (v := ?_) rfl (by kernel_rfl) (by kernel_rfl) (by kernel_rfl) (fun _ _ _ h => h) (Or.inl ⟨by rfl, ?_⟩) (by assumption) ?_
      rotate_left 1
      · intro w hSw; go_simp <;> with_reducible rfl
      try simp only [Act.put, List.setIfInBounds_toArray, List.set_cons_zero, List.set_cons_succ]
      refine wpAnyH_take (i := 24) (oi := { dst := some 35, op := _, type := _, pos := _, after := _, guard := _ }) (v := ?_) rfl (by kernel_rfl) (by kernel_rfl) (by kernel_rfl) (fun _ _ _ h => h) (Or.inl ⟨by rfl, ?_⟩) (by assumption) ?_
      rotate_left 1
      · intro w hSw; go_simp <;> with_reducible rfl
      try simp only [Act.put, List.setIfInBounds_toArray, List.set_cons_zero, List.set_cons_succ]
      refine wpAnyH_ready (rs := [25]) (by kernel_rfl) (by simp) (AllReadyH.cons (o := { dst := some 36, op := _, type := _, pos := _, after := _, guard := _ }) rfl (fun K hK => ?_) AllReadyH.nil)
      go_simp
      with_reducible refine (L2.stands _ A1 A n c1 (n + 1) c p HN.out rfl (by assumption : World.rangeAt _ B0 0 (h.map BV) ∧ LS w N B0 A1 p _).2.room.rd (HR.out.rd.kept (by assumption : World.rangeAt _ B0 0 (h.map BV) ∧ LS w N B0 A1 p _).2.kept (by simp)) hc1 (by omega)).mono ?_
      rintro e wc17 ⟨rfl, hkc17⟩
      have hS17 := LS.next (w := w) (N := N) (B0 := B0) (A1 := A1) (h := h) (p := p) (by assumption) hkc17 (by simp)
      refine hK.out _ _ hS17 (fun _ => ?_)
      clear hK K
      try simp only [Act.put, List.setIfInBounds_toArray, List.set_cons_zero, List.set_cons_succ]
      refine wpAnyH_take (i := 26) (oi := { dst := some 37, op := _, type := _, pos := _, after := _, guard := _ }) (v := ?_) rfl (by kernel_rfl) (by kernel_rfl) (by kernel_rfl) (fun _ _ _ h => h) (Or.inl ⟨by rfl, ?_⟩) (by assumption) ?_
      rotate_left 1
      · intro w hSw; go_simp <;> with_reducible rfl
      try simp only [Act.put, List.setIfInBounds_toArray, List.set_cons_zero, List.set_cons_succ]
      refine wpAnyH_take (i := 27) (oi := { dst := some 38, op := _, type := _, pos := _, after := _, guard := _ }) (v := ?_) rfl (by kernel_rfl) (by kernel_rfl) (by kernel_rfl) (fun _ _ _ h => h) (Or.inl ⟨by rfl, ?_⟩) (by assumption) ?_
      rotate_left 1
      · intro w hSw; go_simp <;> with_reducible rfl
      try simp only [Act.put, List.setIfInBounds_toArray, List.set_cons_zero, List.set_cons_succ]
      refine wpAnyH_take (i := 28) (oi := { dst := some 39, op := _, type := _, pos := _, after := _, guard := _ }) (v := .agg (bcells h)) rfl (by kernel_rfl) (by kernel_rfl) (by kernel_rfl) (fun _ _ _ h => h) (yieldsIf_load_mid (by rfl) _ _ rfl _ _ rfl (h.map BV) _ (fun _ hh => hh.1) hu25 rfl hi25) (by assumption) ?_
      try simp only [Act.put, List.setIfInBounds_toArray, List.set_cons_zero, List.set_cons_succ]
      refine wpAnyH_take (i := 30) (oi := { dst := some 41, op := _, type := _, pos := _, after := _, guard := _ }) (v := .agg (bcells h)) rfl (by kernel_rfl) (by kernel_rfl) (by kernel_rfl) (fun _ _ _ h => h) (yieldsIf_load_mid (by rfl) _ _ rfl _ _ rfl (h.map BV) _ (fun _ hh => hh.1) hu25 rfl hi25) (by assumption) ?_
      try simp only [Act.put, List.setIfInBounds_toArray, List.set_cons_zero, List.set_cons_succ]
      refine wpAnyH_ready (rs := [29]) (by kernel_rfl) (by simp) (AllReadyH.cons (o := { dst := some 40, op := _, type := _, pos := _, after := _, guard := _ }) rfl (fun K hK => ?_) AllReadyH.nil)
      go_simp
      with_reducible refine (dHex _ h HH.out).mono ?_
      rintro e wc18 ⟨rfl, hkc18⟩
      have hS18 := LS.next (w := w) (N := N) (B0 := B0) (A1 := A1) (h := h) (p := p) (by assumption) hkc18 (by simp)
      refine hK.out _ _ hS18 (fun _ => ?_)
      clear hK K
      try simp only [Act.put, List.setIfInBounds_toArray, List.set_cons_zero, List.set_cons_succ]
      refine wpAnyH_ready (rs := [31]) (by kernel_rfl) (by simp) (AllReadyH.cons (o := { dst := some 42, op := _, type := _, pos := _, after := _, guard := _ }) rfl (fun K hK => ?_) AllReadyH.nil)
      go_simp
      with_reducible refine (rHex _ h HH.out).mono ?_
      rintro e wc19 ⟨rfl, hkc19⟩
      have hS19 := LS.next (w := w) (N := N) (B0 := B0) (A1 := A1) (h := h) (p := p) (by assumption) hkc19 (by simp)
      refine hK.out _ _ hS19 (fun _ => ?_)
      clear hK K
      try simp only [Act.put, List.setIfInBounds_toArray, List.set_cons_zero, List.set_cons_succ]
      refine wpAnyH_take (i := 32) (oi := { dst := some 43, op := _, type := _, pos := _, after := _, guard := _ }) (v := ?_) rfl (by kernel_rfl) (by kernel_rfl) (by kernel_rfl) (fun _ _ _ h => h) (Or.inl ⟨by rfl, ?_⟩) (by assumption) ?_
      rotate_left 1
      · intro w hSw; go_simp <;> with_reducible rfl
      try simp only [Act.put, List.setIfInBounds_toArray, List.set_cons_zero, List.set_cons_succ]
      refine wpAnyH_take (i := 33) (oi := { dst := some 44, op := _, type := _, pos := _, after := _, guard := _ }) (v := ?_) rfl (by kernel_rfl) (by kernel_rfl) (by kernel_rfl) (fun _ _ _ h => h) (Or.inl ⟨by rfl, ?_⟩) (by assumption) ?_
      rotate_left 1
      · intro w hSw; go_simp <;> with_reducible rfl
      try simp only [Act.put, List.setIfInBounds_toArray, List.set_cons_zero, List.set_cons_succ]
      refine wpAnyH_take (i := 34) (oi := { dst := some 45, op := _, type := _, pos := _, after := _, guard := _ }) (v := ?_) rfl (by kernel_rfl) (by kernel_rfl) (by kernel_rfl) (fun _ _ _ h => h) (Or.inl ⟨by rfl, ?_⟩) (by assumption) ?_
      rotate_left 1
      · intro w hSw; go_simp <;> with_reducible rfl
      try simp only [Act.put, List.setIfInBounds_toArray, List.set_cons_zero, List.set_cons_succ]
      refine wpAnyH_ready (rs := [35]) (by kernel_rfl) (by simp) (AllReadyH.cons (o := { dst := some 46, op := _, type := _, pos := _, after := _, guard := _ }) rfl (fun K hK => ?_) AllReadyH.nil)
      go_simp
      with_reducible refine (known2 _).mono ?_
      rintro e wc20 ⟨rfl, hkc20⟩
      have hS20 := LS.next (w := w) (N := N) (B0 := B0) (A1 := A1) (h := h) (p := p) (by assumption) hkc20 (by simp)
      refine hK.out _ _ hS20 (fun _ => ?_)
      clear hK K
      try simp only [Act.put, List.setIfInBounds_toArray, List.set_cons_zero, List.set_cons_succ]
      refine wpAnyH_take (i := 36) (oi := { dst := some 47, op := _, type := _, pos := _, after := _, guard := _ }) (v := ?_) rfl (by kernel_rfl) (by kernel_rfl) (by kernel_rfl) (fun _ _ _ h => h) (Or.inl ⟨by rfl, ?_⟩) (by assumption) ?_
      rotate_left 1
      · intro w hSw; go_simp <;> with_reducible rfl
      try simp only [Act.put, List.setIfInBounds_toArray, List.set_cons_zero, List.set_cons_succ]
      refine wpAnyH_take (i := 37) (oi := { dst := some 4, op := _, type := _, pos := _, after := _, guard := _ }) (v := ?_) rfl (by kernel_rfl) (by kernel_rfl) (by kernel_rfl) (fun _ _ _ h => h) (Or.inl ⟨by rfl, ?_⟩) (by assumption) ?_
      rotate_left 1
      · intro w hSw; go_simp <;> with_reducible rfl
      try simp only [Act.put, List.setIfInBounds_toArray, List.set_cons_zero, List.set_cons_succ]
      refine wpAnyH_done (by kernel_rfl) ?_ _
      have HKE := hS20.2.kept
      go_wp2
      go_ret
      exact ⟨rfl, HKE⟩
    · refine stBSw rfl _ _ _ rfl #[] _ _ (by simp only [List.map_toArray, List.map_nil] <;> rfl) bs0 ?_
      intro M0 wc13 hM13 hbM13 hkc13
      have own13 : Own N wc13 (.slice (some ⟨M0, 0, none⟩) 0 0) [] := Own.of_blk (xs := []) hbM13 (by have := (by assumption : World.rangeAt _ B0 0 (h.map BV) ∧ LS w N B0 A1 p _).2.grown; omega) (by simp)
      have hS13 := LS.next (w := w) (N := N) (B0 := B0) (A1 := A1) (h := h) (p := p) (by assumption) hkc13 (by simp)
      refine hK.out _ _ hS13 (fun _ => ?_)
      clear hK K
      try simp only [Act.put, List.setIfInBounds_toArray, List.set_cons_zero, List.set_cons_succ]
      refine wpAnyH_ready (rs := [13]) (by kernel_rfl) (by simp) (AllReadyH.cons (o := { dst := some 24, op := _, type := _, pos := _, after := _, guard := _ }) rfl (fun K hK => ?_) AllReadyH.nil)
      go_simp
      refine (dLink _ A n c h p HH.out HN.out (HR.out.rd.kept (by assumption : World.rangeAt _ B0 0 (h.map BV) ∧ LS w N B0 A1 p _).2.kept (by simp)) (by omega)).mono ?_
      rintro e wc12 ⟨rfl, hkc12⟩
      have own12 := (by assumption : Own N _ (.slice (some ⟨M0, 0, none⟩) 0 0) []).kept hkc12 (by simp)
      have hS12 := LS.next (w := w) (N := N) (B0 := B0) (A1 := A1) (h := h) (p := p) (by assumption) hkc12 (by simp)
      refine hK.out _ _ hS12 (fun _ => ?_)
      clear hK K
      try simp only [Act.put, List.setIfInBounds_toArray, List.set_cons_zero, List.set_cons_succ]
      refine wpAnyH_ready (rs := [16]) (by kernel_rfl) (by simp) (AllReadyH.cons (o := { dst := some 27, op := _, type := _, pos := _, after := _, guard := _ }) rfl (fun K hK => ?_) AllReadyH.nil)
      refine stApw rfl _ _ rfl N (.slice (some ⟨M0, 0, none⟩) 0 0) [] rfl (by assumption : Own N _ (.slice (some ⟨M0, 0, none⟩) 0 0) []) (some ⟨B0, 0, none⟩) 32 32 h rfl HH.out (rd_range (by assumption : World.rangeAt _ B0 0 (h.map BV) ∧ LS w N B0 A1 p _).1) (by rw [HH.out]; simp) (by assumption : World.rangeAt _ B0 0 (h.map BV) ∧ LS w N B0 A1 p _).2.grown ?_
      intro v14 wc14 own14 hkc14 _
      have hlo14 : N ≤ M0 := (by assumption : Own N _ (.slice (some ⟨M0, 0, none⟩) 0 0) []).lo rfl
      have hS14 := LS.next (w := w) (N := N) (B0 := B0) (A1 := A1) (h := h) (p := p) (by assumption) hkc14 (by intro k hk; simp [Value.ownBlock] at hk; omega)
      refine hK.out _ _ hS14 (fun _ => ?_)
      clear hK K
      try simp only [Act.put, List.setIfInBounds_toArray, List.set_cons_zero, List.set_cons_succ]
      refine wpAnyH_ready (rs := [18]) (by kernel_rfl) (by simp) (AllReadyH.cons (o := { dst := some 29, op := _, type := _, pos := _, after := _, guard := _ }) rfl (fun K hK => ?_) AllReadyH.nil)
      refine stApw rfl _ _ rfl N v14 ([] ++ h) rfl own14 A n c p rfl HN.out (HR.out.rd.kept (by assumption : World.rangeAt _ B0 0 (h.map BV) ∧ LS w N B0 A1 p _).2.kept (by simp)) (by rw [List.nil_append, HH.out, HN.out]; omega) (by assumption : World.rangeAt _ B0 0 (h.map BV) ∧ LS w N B0 A1 p _).2.grown ?_
      intro v15 wc15 own15 hkc15 _
      have hS15 := LS.next (w := w) (N := N) (B0 := B0) (A1 := A1) (h := h) (p := p) (by assumption) hkc15 (by intro k hk; exact own14.lo (by simpa using hk))
      obtain ⟨A5, c5, rfl, hrd5, hlc5, hcm5, _⟩ := own15.form
      rw [List.nil_append] at hrd5 hlc5 ⊢
      refine hK.out _ _ hS15 (fun _ => ?_)
      clear hK K
      try simp only [Act.put, List.setIfInBounds_toArray, List.set_cons_zero, List.set_cons_succ]
      refine wpAnyH_ready (rs := [19]) (by kernel_rfl) (by simp) (AllReadyH.cons (o := { dst := some 30, op := _, type := _, pos := _, after := _, guard := _ }) rfl (fun K hK => ?_) AllReadyH.nil)
      go_simp
      with_reducible refine (dSumN _ A5 _ c5 (h ++ p) (by simp) hrd5 (by have := hlc5; simp at this ⊢; omega) (by have := HH.out; have := HN.out; simp; omega)).mono ?_
      rintro e wc16 ⟨rfl, hkc16⟩
      have hS16 := LS.next (w := w) (N := N) (B0 := B0) (A1 := A1) (h := h) (p := p) (by assumption) hkc16 (by simp)
      refine hK.out _ _ hS16 (fun _ => ?_)
      clear hK K
      try simp only [Act.put, List.setIfInBounds_toArray, List.set_cons_zero, List.set_cons_succ]
      refine wpAnyH_take (i := 20) (oi := { dst := some 31, op := _, type := _, pos := _, after := _, guard := _ }) (v := ?_) rfl (by kernel_rfl) (by kernel_rfl) (by kernel_rfl) (fun _ _ _ h => h) (Or.inl ⟨by rfl, ?_⟩) (by assumption) ?_
      rotate_left 1
      · intro w hSw; go_simp <;> with_reducible rfl
      try simp only [Act.put, List.setIfInBounds_toArray, List.set_cons_zero, List.set_cons_succ]
      refine wpAnyH_take (i := 21) (oi := { dst := some 32, op := _, type := _, pos := _, after := _, guard := _ }) (v := ?_) rfl (by kernel_rfl) (by kernel_rfl) (by kernel_rfl) (fun _ _ _ h => h) (Or.inl ⟨by rfl, ?_⟩) (by assumption) ?_
      rotate_left 1
      · intro w hSw; go_simp <;> with_reducible rfl
      try simp only [Act.put, List.setIfInBounds_toArray, List.set_cons_zero, List.set_cons_succ]
      refine wpAnyH_take (i := 22) (oi := { dst := some 33, op := _, type := _, pos := _, after := _, guard := _ }) (v := ?_) rfl (by kernel_rfl) (by kernel_rfl) (by kernel_rfl) (fun _ _ _ h => h) (Or.inl ⟨by rfl, ?_⟩) (by assumption) ?_
      rotate_left 1
      · intro w hSw; go_simp <;> with_reducible rfl
      try simp only [Act.put, List.setIfInBounds_toArray, List.set_cons_zero, List.set_cons_succ]
      refine wpAnyH_take (i := 23) (oi := { dst := some 34, op := _, type := _, pos := _, after := _, guard := _ }) (v := ?_) rfl (by kernel_rfl) (by kernel_rfl) (by kernel_rfl) (fun _ _ _ h => h) (Or.inl ⟨by rfl, ?_⟩) (by assumption) ?_
      rotate_left 1
      · intro w hSw; go_simp <;> with_reducible rfl
      try simp only [Act.put, List.setIfInBounds_toArray, List.set_cons_zero, List.set_cons_succ]
      refine wpAnyH_take (i := 24) (oi := { dst := some 35, op := _, type := _, pos := _, after := _, guard := _ }) (v := ?_) rfl (by kernel_rfl) (by kernel_rfl) (by kernel_rfl) (fun _ _ _ h => h) (Or.inl ⟨by rfl, ?_⟩) (by assumption) ?_
      rotate_left 1
      · intro w hSw; go_simp <;> with_reducible rfl
      try simp only [Act.put, List.setIfInBounds_toArray, List.set_cons_zero, List.set_cons_succ]
      refine wpAnyH_ready (rs := [25]) (by kernel_rfl) (by simp) (AllReadyH.cons (o := { dst := some 36, op := _, type := _, pos := _, after := _, guard := _ }) rfl (fun K hK => ?_) AllReadyH.nil)
      go_simp
      with_reducible refine (L2.stands _ A1 A n c1 (n + 1) c p HN.out rfl (by assumption : World.rangeAt _ B0 0 (h.map BV) ∧ LS w N B0 A1 p _).2.room.rd (HR.out.rd.kept (by assumption : World.rangeAt _ B0 0 (h.map BV) ∧ LS w N B0 A1 p _).2.kept (by simp)) hc1 (by omega)).mono ?_
      rintro e wc17 ⟨rfl, hkc17⟩
      have hS17 := LS.next (w := w) (N := N) (B0 := B0) (A1 := A1) (h := h) (p := p) (by assumption) hkc17 (by simp)
      refine hK.out _ _ hS17 (fun _ => ?_)
      clear hK K
      try simp only [Act.put, List.setIfInBounds_toArray, List.set_cons_zero, List.set_cons_succ]
      refine wpAnyH_take (i := 26) (oi := { dst := some 37, op := _, type := _, pos := _, after := _, guard := _ }) (v := ?_) rfl (by kernel_rfl) (by kernel_rfl) (by kernel_rfl) (fun _ _ _ h => h) (Or.inl ⟨by rfl, ?_⟩) (by assumption) ?_
      rotate_left 1
      · intro w hSw; go_simp <;> with_reducible rfl
      try simp only [Act.put, List.setIfInBounds_toArray, List.set_cons_zero, List.set_cons_succ]
      refine wpAnyH_take (i := 27) (oi := { dst := some 38, op := _, type := _, pos := _, after := _, guard := _ }) (v := ?_) rfl (by kernel_rfl) (by kernel_rfl) (by kernel_rfl) (fun _ _ _ h => h) (Or.inl ⟨by rfl, ?_⟩) (by assumption) ?_
      rotate_left 1
      · intro w hSw; go_simp <;> with_reducible rfl
      try simp only [Act.put, List.setIfInBounds_toArray, List.set_cons_zero, List.set_cons_succ]
      refine wpAnyH_take (i := 28) (oi := { dst := some 39, op := _, type := _, pos := _, after := _, guard := _ }) (v := .agg (bcells h)) rfl (by kernel_rfl) (by kernel_rfl) (by kernel_rfl) (fun _ _ _ h => h) (yieldsIf_load_mid (by rfl) _ _ rfl _ _ rfl (h.map BV) _ (fun _ hh => hh.1) hu25 rfl hi25) (by assumption) ?_
      try simp only [Act.put, List.setIfInBounds_toArray, List.set_cons_zero, List.set_cons_succ]
      refine wpAnyH_take (i := 30) (oi := { dst := some 41, op := _, type := _, pos := _, after := _, guard := _ }) (v := .agg (bcells h)) rfl (by kernel_rfl) (by kernel_rfl) (by kernel_rfl) (fun _ _ _ h => h) (yieldsIf_load_mid (by rfl) _ _ rfl _ _ rfl (h.map BV) _ (fun _ hh => hh.1) hu25 rfl hi25) (by assumption) ?_
      try simp only [Act.put, List.setIfInBounds_toArray, List.set_cons_zero, List.set_cons_succ]
      refine wpAnyH_ready (rs := [29]) (by kernel_rfl) (by simp) (AllReadyH.cons (o := { dst := some 40, op := _, type := _, pos := _, after := _, guard := _ }) rfl (fun K hK => ?_) AllReadyH.nil)
      go_simp
      with_reducible refine (dHex _ h HH.out).mono ?_
      rintro e wc18 ⟨rfl, hkc18⟩
      have hS18 := LS.next (w := w) (N := N) (B0 := B0) (A1 := A1) (h := h) (p := p) (by assumption) hkc18 (by simp)
      refine hK.out _ _ hS18 (fun _ => ?_)
      clear hK K
      try simp only [Act.put, List.setIfInBounds_toArray, List.set_cons_zero, List.set_cons_succ]
      refine wpAnyH_ready (rs := [31]) (by kernel_rfl) (by simp) (AllReadyH.cons (o := { dst := some 42, op := _, type := _, pos := _, after := _, guard := _ }) rfl (fun K hK => ?_) AllReadyH.nil)
      go_simp
      with_reducible refine (rHex _ h HH.out).mono ?_
      rintro e wc19 ⟨rfl, hkc19⟩
      have hS19 := LS.next (w := w) (N := N) (B0 := B0) (A1 := A1) (h := h) (p := p) (by assumption) hkc19 (by simp)
      refine hK.out _ _ hS19 (fun _ => ?_)
      clear hK K
      try simp only [Act.put, List.setIfInBounds_toArray, List.set_cons_zero, List.set_cons_succ]
      refine wpAnyH_take (i := 32) (oi := { dst := some 43, op := _, type := _, pos := _, after := _, guard := _ }) (v := ?_) rfl (by kernel_rfl) (by kernel_rfl) (by kernel_rfl) (fun _ _ _ h => h) (Or.inl ⟨by rfl, ?_⟩) (by assumption) ?_
      rotate_left 1
      · intro w hSw; go_simp <;> with_reducible rfl
      try simp only [Act.put, List.setIfInBounds_toArray, List.set_cons_zero, List.set_cons_succ]
      refine wpAnyH_take (i := 33) (oi := { dst := some 44, op := _, type := _, pos := _, after := _, guard := _ }) (v := ?_) rfl (by kernel_rfl) (by kernel_rfl) (by kernel_rfl) (fun _ _ _ h => h) (Or.inl ⟨by rfl, ?_⟩) (by assumption) ?_
      rotate_left 1
      · intro w hSw; go_simp <;> with_reducible rfl
      try simp only [Act.put, List.setIfInBounds_toArray, List.set_cons_zero, List.set_cons_succ]
      refine wpAnyH_take (i := 34) (oi := { dst := some 45, op := _, type := _, pos := _, after := _, guard := _ }) (v := ?_) rfl (by kernel_rfl) (by kernel_rfl) (by kernel_rfl) (fun _ _ _ h => h) (Or.inl ⟨by rfl, ?_⟩) (by assumption) ?_
      rotate_left 1
      · intro w hSw; go_simp <;> with_reducible rfl
      try simp only [Act.put, List.setIfInBounds_toArray, List.set_cons_zero, List.set_cons_succ]
      refine wpAnyH_ready (rs := [35]) (by kernel_rfl) (by simp) (AllReadyH.cons (o := { dst := some 46, op := _, type := _, pos := _, after := _, guard := _ }) rfl (fun K hK => ?_) AllReadyH.nil)
      go_simp
      with_reducible refine (known2 _).mono ?_
      rintro e wc20 ⟨rfl, hkc20⟩
      have hS20 := LS.next (w := w) (N := N) (B0 := B0) (A1 := A1) (h := h) (p := p) (by assumption) hkc20 (by simp)
      refine hK.out _ _ hS20 (fun _ => ?_)
      clear hK K
      try simp only [Act.put, List.setIfInBounds_toArray, List.set_cons_zero, List.set_cons_succ]
      refine wpAnyH_take (i := 36) (oi := { dst := some 47, op := _, type := _, pos := _, after := _, guard := _ }) (v := ?_) rfl (by kernel_rfl) (by kernel_rfl) (by kernel_rfl) (fun _ _ _ h => h) (Or.inl ⟨by rfl, ?_⟩) (by assumption) ?_
      rotate_left 1
      · intro w hSw; go_simp <;> with_reducible rfl
      try simp only [Act.put, List.setIfInBounds_toArray, List.set_cons_zero, List.set_cons_succ]
      refine wpAnyH_take (i := 37) (oi := { dst := some 4, op := _, type := _, pos := _, after := _, guard := _ }) (v := ?_) rfl (by kernel_rfl) (by kernel_rfl) (by kernel_rfl) (fun _ _ _ h => h) (Or.inl ⟨by rfl, ?_⟩) (by assumption) ?_
      rotate_left 1
      · intro w hSw; go_simp <;> with_reducible rfl
      try simp only [Act.put, List.setIfInBounds_toArray, List.set_cons_zero, List.set_cons_succ]
      refine wpAnyH_done (by kernel_rfl) ?_ _
      have HKE := hS20.2.kept
      go_wp2
      go_ret
      exact ⟨rfl, HKE⟩
end
end Go.Proofs.Ytfjcflmhboepmaa
