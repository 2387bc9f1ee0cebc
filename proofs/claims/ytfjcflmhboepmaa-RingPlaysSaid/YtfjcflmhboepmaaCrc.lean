/- octet.Sum and the reference's Sum are one function of the bytes. -/
import Derived.Test.YtfjcflmhboepmaaProg
import Derived.Test.YtfjcflmhboepmaaMem
open Go Go.RowKit
namespace Go.Proofs.Ytfjcflmhboepmaa

def crcBit (v : UInt32) : UInt32 := xor32 (shr32 v 1) (and32 2197175160 (neg32 (and32 v 1)))
def crcBits : Nat → UInt32 → UInt32
  | 0, v => v
  | n+1, v => crcBit (crcBits n v)
def crcByte (v : UInt32) (c : UInt8) : UInt32 := crcBits 8 (xor32 v (c8to32 c))
def crc (xs : List UInt8) : UInt32 := not32 (xs.foldl crcByte 0xffffffff)

theorem crcByte_take (xs : List UInt8) (k : Nat) (h : k < xs.length) :
    (xs.take (k+1)).foldl crcByte 0xffffffff = crcBits 8 (xor32 ((xs.take k).foldl crcByte 0xffffffff) (c8to32 xs[k])) := by
  rw [List.take_succ_eq_append_getElem h, List.foldl_append]; rfl

set_option maxHeartbeats 400000 in
theorem octetSum (w : World) (A : Option Addr) (c : Nat) (xs : List UInt8) (hl : xs.length ≤ maxLen) (hr : Rd w A (xs.map BV)) :
    Calls Try.prog 59 #[.slice A xs.length c] w fun e w' => e = .returned (WV (crc xs)) ∧ w = w' := by
  unfold maxLen at hl
  have HR := hide hr; clear hr
  go_enter Try.func59, Try.ntmps59
  go_wp2
  go_loop [3, 5, 8] (fun v x i => ∃ k : Nat, k ≤ xs.length ∧ i = .int .i64 k ∧ v = .int .u32 (U32 ((xs.take k).foldl crcByte 0xffffffff))) (fun _ _ i => xs.length - (intOf i).toNat)
  case atStart => exact ⟨0, Nat.zero_le _, rfl, rfl⟩
  case round =>
    obtain ⟨k, hk, rfl, rfl⟩ := hrel
    by_cases hlt : k < xs.length
    · obtain ⟨a, rfl, hc⟩ := HR.out (by simpa using (by omega : 0 < xs.length))
      have hck : w.cell? (a.add k) = some (.int .u8 (U8 xs[k])) := hc k _ (by simp [hlt, BV])
      clear hc
      go_wp2
      go_loop [3, 16] (fun v i => ∃ j : Nat, j ≤ 8 ∧ i = .int .i64 j ∧ v = .int .u32 (U32 (crcBits j (xor32 ((xs.take k).foldl crcByte 0xffffffff) (c8to32 xs[k]))))) (fun _ i => 8 - (intOf i).toNat)
      case atStart => exact ⟨0, by omega, rfl, rfl⟩
      case round =>
        obtain ⟨j, hj, rfl, rfl⟩ := hrel
        by_cases hjl : j < 8
        · go_wp2
          go_round
          case rel => exact ⟨j + 1, by omega, by go_num, rfl⟩
          case measure => simp [intOf]; omega
        · go_wp2
          obtain rfl : j = 8 := by omega
          go_round
          case rel => exact ⟨k + 1, by omega, by go_num, by rw [crcByte_take _ _ hlt]⟩
          case measure => simp [intOf]; omega
    · go_wp2
      go_ret
      obtain rfl : k = xs.length := by omega
      exact ⟨by rw [List.take_length]; rfl, rfl⟩
end Go.Proofs.Ytfjcflmhboepmaa
