/- digest: the small functions. -/
import Derived.Test.YtbkmmelhfkcmgaaProg
import Derived.Test.YtbkmmelhfkcmgaaSha
import Derived.Test.YtbkmmelhfkcmgaaRow
open Go Go.RowKit
namespace Go.Proofs.Ytbkmmelhfkcmgaa

set_option maxHeartbeats 400000 in
theorem dTurn (w : World) (x : UInt32) (n : Int) (h0 : 0 ≤ n) (hn : n ≤ 32) :
    Calls Try.prog 49 #[.int .u32 (U32 x), .int .u64 n] w fun e w' => e = .returned (.int .u32 (U32 (rot x n.toNat))) ∧ w = w' := by
  obtain ⟨n, rfl⟩ := Int.eq_ofNat_of_zero_le h0
  go_enter Try.func49, Try.ntmps49
  have h2 : IntKind.u64.wrap (32 - (n : Int)) = 32 - (n : Int) := IntWalk.u64_in _ (by omega)
  have h3 : (32 - (n : Int)).toNat = 32 - n := by omega
  go_wp2
  go_ret
  exact ⟨rfl, rfl⟩

set_option maxHeartbeats 400000 in
theorem dS0 (w : World) (x : UInt32) :
    Calls Try.prog 42 #[.int .u32 (U32 x)] w fun e w' => e = .returned (.int .u32 (U32 (shaS0 x))) ∧ w = w' := by
  go_enter Try.func42, Try.ntmps42
  go_wp2_with fail
  (with_reducible refine (dTurn _ x 7 (by omega) (by omega)).mono ?_); rintro e w' ⟨rfl, rfl⟩
  go_wp2_with fail
  (with_reducible refine (dTurn _ x 18 (by omega) (by omega)).mono ?_); rintro e w' ⟨rfl, rfl⟩
  go_wp2_with fail
  go_ret
  exact ⟨rfl, rfl⟩

set_option maxHeartbeats 400000 in
theorem dS1 (w : World) (x : UInt32) :
    Calls Try.prog 43 #[.int .u32 (U32 x)] w fun e w' => e = .returned (.int .u32 (U32 (shaS1 x))) ∧ w = w' := by
  go_enter Try.func43, Try.ntmps43
  go_wp2_with fail
  (with_reducible refine (dTurn _ x 17 (by omega) (by omega)).mono ?_); rintro e w' ⟨rfl, rfl⟩
  go_wp2_with fail
  (with_reducible refine (dTurn _ x 19 (by omega) (by omega)).mono ?_); rintro e w' ⟨rfl, rfl⟩
  go_wp2_with fail
  go_ret
  exact ⟨rfl, rfl⟩

set_option maxHeartbeats 400000 in
theorem dB0 (w : World) (x : UInt32) :
    Calls Try.prog 46 #[.int .u32 (U32 x)] w fun e w' => e = .returned (.int .u32 (U32 (shaB0 x))) ∧ w = w' := by
  go_enter Try.func46, Try.ntmps46
  go_wp2_with fail
  (with_reducible refine (dTurn _ x 2 (by omega) (by omega)).mono ?_); rintro e w' ⟨rfl, rfl⟩
  go_wp2_with fail
  (with_reducible refine (dTurn _ x 13 (by omega) (by omega)).mono ?_); rintro e w' ⟨rfl, rfl⟩
  go_wp2_with fail
  (with_reducible refine (dTurn _ x 22 (by omega) (by omega)).mono ?_); rintro e w' ⟨rfl, rfl⟩
  go_wp2_with fail
  go_ret
  exact ⟨rfl, rfl⟩

set_option maxHeartbeats 400000 in
theorem dB1 (w : World) (x : UInt32) :
    Calls Try.prog 44 #[.int .u32 (U32 x)] w fun e w' => e = .returned (.int .u32 (U32 (shaB1 x))) ∧ w = w' := by
  go_enter Try.func44, Try.ntmps44
  go_wp2_with fail
  (with_reducible refine (dTurn _ x 6 (by omega) (by omega)).mono ?_); rintro e w' ⟨rfl, rfl⟩
  go_wp2_with fail
  (with_reducible refine (dTurn _ x 11 (by omega) (by omega)).mono ?_); rintro e w' ⟨rfl, rfl⟩
  go_wp2_with fail
  (with_reducible refine (dTurn _ x 25 (by omega) (by omega)).mono ?_); rintro e w' ⟨rfl, rfl⟩
  go_wp2_with fail
  go_ret
  exact ⟨rfl, rfl⟩

set_option maxHeartbeats 400000 in
theorem dCh (w : World) (x y z : UInt32) :
    Calls Try.prog 45 #[.int .u32 (U32 x), .int .u32 (U32 y), .int .u32 (U32 z)] w fun e w' => e = .returned (.int .u32 (U32 (shaCh x y z))) ∧ w = w' := by
  go_enter Try.func45, Try.ntmps45
  go_wp2
  go_ret
  exact ⟨rfl, rfl⟩

set_option maxHeartbeats 400000 in
theorem dMaj (w : World) (x y z : UInt32) :
    Calls Try.prog 47 #[.int .u32 (U32 x), .int .u32 (U32 y), .int .u32 (U32 z)] w fun e w' => e = .returned (.int .u32 (U32 (shaMaj x y z))) ∧ w = w' := by
  go_enter Try.func47, Try.ntmps47
  go_wp2
  go_ret
  exact ⟨rfl, rfl⟩

theorem info64 : (Try.prog.info? 75).bind (·.zero) = some (.agg (wcells (List.replicate 64 0))) := by kernel_rfl
theorem size64 : (Try.prog.info? 75).map (·.size) = some 64 := by kernel_rfl
theorem wcells_size (xs : List UInt32) : (wcells xs).size = xs.length := by simp [wcells]
theorem wcells_one (xs : List UInt32) : ∀ u ∈ (wcells xs).toList, u.oneCell' = true := by
  intro u hu
  simp [wcells, WV] at hu
  obtain ⟨a, _, rfl⟩ := hu
  rfl
theorem litK : shaK.map WV = [.int .u32 1116352408,
  .int .u32 1899447441,
  .int .u32 3049323471,
  .int .u32 3921009573,
  .int .u32 961987163,
  .int .u32 1508970993,
  .int .u32 2453635748,
  .int .u32 2870763221,
  .int .u32 3624381080,
  .int .u32 310598401,
  .int .u32 607225278,
  .int .u32 1426881987,
  .int .u32 1925078388,
  .int .u32 2162078206,
  .int .u32 2614888103,
  .int .u32 3248222580,
  .int .u32 3835390401,
  .int .u32 4022224774,
  .int .u32 264347078,
  .int .u32 604807628,
  .int .u32 770255983,
  .int .u32 1249150122,
  .int .u32 1555081692,
  .int .u32 1996064986,
  .int .u32 2554220882,
  .int .u32 2821834349,
  .int .u32 2952996808,
  .int .u32 3210313671,
  .int .u32 3336571891,
  .int .u32 3584528711,
  .int .u32 113926993,
  .int .u32 338241895,
  .int .u32 666307205,
  .int .u32 773529912,
  .int .u32 1294757372,
  .int .u32 1396182291,
  .int .u32 1695183700,
  .int .u32 1986661051,
  .int .u32 2177026350,
  .int .u32 2456956037,
  .int .u32 2730485921,
  .int .u32 2820302411,
  .int .u32 3259730800,
  .int .u32 3345764771,
  .int .u32 3516065817,
  .int .u32 3600352804,
  .int .u32 4094571909,
  .int .u32 275423344,
  .int .u32 430227734,
  .int .u32 506948616,
  .int .u32 659060556,
  .int .u32 883997877,
  .int .u32 958139571,
  .int .u32 1322822218,
  .int .u32 1537002063,
  .int .u32 1747873779,
  .int .u32 1955562222,
  .int .u32 2024104815,
  .int .u32 2227730452,
  .int .u32 2361852424,
  .int .u32 2428436474,
  .int .u32 2756734187,
  .int .u32 3204031479,
  .int .u32 3329325298] := by kernel_rfl
theorem oneK : ∀ u ∈ (Value.cells (.agg #[.int .u32 1116352408,
  .int .u32 1899447441,
  .int .u32 3049323471,
  .int .u32 3921009573,
  .int .u32 961987163,
  .int .u32 1508970993,
  .int .u32 2453635748,
  .int .u32 2870763221,
  .int .u32 3624381080,
  .int .u32 310598401,
  .int .u32 607225278,
  .int .u32 1426881987,
  .int .u32 1925078388,
  .int .u32 2162078206,
  .int .u32 2614888103,
  .int .u32 3248222580,
  .int .u32 3835390401,
  .int .u32 4022224774,
  .int .u32 264347078,
  .int .u32 604807628,
  .int .u32 770255983,
  .int .u32 1249150122,
  .int .u32 1555081692,
  .int .u32 1996064986,
  .int .u32 2554220882,
  .int .u32 2821834349,
  .int .u32 2952996808,
  .int .u32 3210313671,
  .int .u32 3336571891,
  .int .u32 3584528711,
  .int .u32 113926993,
  .int .u32 338241895,
  .int .u32 666307205,
  .int .u32 773529912,
  .int .u32 1294757372,
  .int .u32 1396182291,
  .int .u32 1695183700,
  .int .u32 1986661051,
  .int .u32 2177026350,
  .int .u32 2456956037,
  .int .u32 2730485921,
  .int .u32 2820302411,
  .int .u32 3259730800,
  .int .u32 3345764771,
  .int .u32 3516065817,
  .int .u32 3600352804,
  .int .u32 4094571909,
  .int .u32 275423344,
  .int .u32 430227734,
  .int .u32 506948616,
  .int .u32 659060556,
  .int .u32 883997877,
  .int .u32 958139571,
  .int .u32 1322822218,
  .int .u32 1537002063,
  .int .u32 1747873779,
  .int .u32 1955562222,
  .int .u32 2024104815,
  .int .u32 2227730452,
  .int .u32 2361852424,
  .int .u32 2428436474,
  .int .u32 2756734187,
  .int .u32 3204031479,
  .int .u32 3329325298])).toList, u.oneCell' = true := by decide
set_option maxHeartbeats 400000 in
set_option maxRecDepth 100000 in
theorem dNumbers (w : World) :
    Calls Try.prog 36 #[] w fun e w' => e = .returned (.agg (wcells shaK)) ∧ Kept [] w w' := by
  go_enter Try.func36, Try.ntmps36
  go_wp2_with (first
    | (refine wpList_alloc_row rfl _ rfl _ info64 ?_; intro w1 hb1 hg1 hz1 hd1)
    | (refine wpList_store_row rfl _ _ _ rfl _ _ rfl _ rfl _ _ hb1 size64 (Nat.le_of_eq (by kernel_rfl)) oneK ?_
       intro w2 hb2 hg2 hz2 hd2))
  rw [splice_all _ _ (by kernel_rfl)] at hb2
  refine bodyPost_ret (results_cell_row rfl _ _ _ _ _ _ _ rfl hb2 Try.underlying75 rfl size64) rfl ⟨?_, ?_⟩
  · show Ending.returned (.agg _) = _
    rw [wcells, litK]; rfl
  · exact (Kept.of_grown hg1 (by simp)).then_ (Kept.of_grown (S := [w.heap.size]) hg2 (by simp)) (by simp)

end Go.Proofs.Ytbkmmelhfkcmgaa
