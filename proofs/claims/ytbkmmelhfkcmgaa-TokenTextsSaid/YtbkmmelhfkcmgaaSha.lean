/- SHA-256 as plain functions of words and bytes. -/
import Derived.Test.YtbkmmelhfkcmgaaMem
open Go Go.RowKit
namespace Go.Proofs.Ytbkmmelhfkcmgaa

def rot (x : UInt32) (n : Nat) : UInt32 := or32 (shr32 x n) (shl32 x (32 - n))
def shaS0 (x : UInt32) : UInt32 := xor32 (xor32 (rot x 7) (rot x 18)) (shr32 x 3)
def shaS1 (x : UInt32) : UInt32 := xor32 (xor32 (rot x 17) (rot x 19)) (shr32 x 10)
def shaB0 (x : UInt32) : UInt32 := xor32 (xor32 (rot x 2) (rot x 13)) (rot x 22)
def shaB1 (x : UInt32) : UInt32 := xor32 (xor32 (rot x 6) (rot x 11)) (rot x 25)
def shaCh (x y z : UInt32) : UInt32 := xor32 (and32 x y) (and32 (not32 x) z)
def shaMaj (x y z : UInt32) : UInt32 := xor32 (xor32 (and32 x y) (and32 x z)) (and32 y z)

def shaK : List UInt32 := [
  0x428a2f98, 0x71374491, 0xb5c0fbcf, 0xe9b5dba5, 0x3956c25b, 0x59f111f1, 0x923f82a4, 0xab1c5ed5,
  0xd807aa98, 0x12835b01, 0x243185be, 0x550c7dc3, 0x72be5d74, 0x80deb1fe, 0x9bdc06a7, 0xc19bf174,
  0xe49b69c1, 0xefbe4786, 0x0fc19dc6, 0x240ca1cc, 0x2de92c6f, 0x4a7484aa, 0x5cb0a9dc, 0x76f988da,
  0x983e5152, 0xa831c66d, 0xb00327c8, 0xbf597fc7, 0xc6e00bf3, 0xd5a79147, 0x06ca6351, 0x14292967,
  0x27b70a85, 0x2e1b2138, 0x4d2c6dfc, 0x53380d13, 0x650a7354, 0x766a0abb, 0x81c2c92e, 0x92722c85,
  0xa2bfe8a1, 0xa81a664b, 0xc24b8b70, 0xc76c51a3, 0xd192e819, 0xd6990624, 0xf40e3585, 0x106aa070,
  0x19a4c116, 0x1e376c08, 0x2748774c, 0x34b0bcb5, 0x391c0cb3, 0x4ed8aa4a, 0x5b9cca4f, 0x682e6ff3,
  0x748f82ee, 0x78a5636f, 0x84c87814, 0x8cc70208, 0x90befffa, 0xa4506ceb, 0xbef9a3f7, 0xc67178f2]

/-- a byte, a word at a place -/
def b8 (b : List UInt8) (i : Nat) : UInt8 := b.getD i 0
def w32 (b : List UInt32) (i : Nat) : UInt32 := b.getD i 0
def be32 (b : List UInt8) (i : Nat) : UInt32 :=
  or32 (or32 (or32 (shl32 (c8to32 (b8 b (4*i))) 24) (shl32 (c8to32 (b8 b (4*i+1))) 16)) (shl32 (c8to32 (b8 b (4*i+2))) 8)) (c8to32 (b8 b (4*i+3)))
def shaFill (b : List UInt8) : Nat → List UInt32
  | 0 => List.replicate 64 0
  | k+1 => (shaFill b k).set k (be32 b k)
def extVal (ws : List UInt32) (k : Nat) : UInt32 :=
  add32 (add32 (add32 (w32 ws k) (shaS0 (w32 ws (k+1)))) (w32 ws (k+9))) (shaS1 (w32 ws (k+14)))
def shaExt (w0 : List UInt32) : Nat → List UInt32
  | 0 => w0
  | k+1 => (shaExt w0 k).set (k+16) (extVal (shaExt w0 k) k)
def shaT (ws v : List UInt32) (j : Nat) : UInt32 :=
  add32 (add32 (add32 (add32 (w32 v 7) (shaB1 (w32 v 4))) (shaCh (w32 v 4) (w32 v 5) (w32 v 6))) (w32 shaK j)) (w32 ws j)
def shaU (v : List UInt32) : UInt32 := add32 (shaB0 (w32 v 0)) (shaMaj (w32 v 0) (w32 v 1) (w32 v 2))
def shaStep (ws v : List UInt32) (j : Nat) : List UInt32 :=
  [add32 (shaT ws v j) (shaU v), w32 v 0, w32 v 1, w32 v 2, add32 (w32 v 3) (shaT ws v j), w32 v 4, w32 v 5, w32 v 6]
def shaRounds (ws v0 : List UInt32) : Nat → List UInt32
  | 0 => v0
  | j+1 => shaStep ws (shaRounds ws v0 j) j
def shaAdd (v : List UInt32) (s : List UInt32) : Nat → List UInt32
  | 0 => s
  | i+1 => (shaAdd v s i).set i (add32 (w32 (shaAdd v s i) i) (w32 v i))
def shaBlock (s : List UInt32) (b : List UInt8) : List UInt32 :=
  let ws := shaExt (shaFill b 16) 48
  shaAdd (shaRounds ws s 64) s 8

theorem shaFill_len (b : List UInt8) (k : Nat) : (shaFill b k).length = 64 := by
  induction k with
  | zero => rfl
  | succ k ih => simp [shaFill, ih]
theorem shaExt_len (w0 : List UInt32) (h : w0.length = 64) (k : Nat) : (shaExt w0 k).length = 64 := by
  induction k with
  | zero => exact h
  | succ k ih => simp [shaExt, ih]
theorem shaRounds_len (ws v0 : List UInt32) (h : v0.length = 8) (k : Nat) : (shaRounds ws v0 k).length = 8 := by
  cases k with
  | zero => exact h
  | succ k => rfl
theorem shaAdd_len (v s : List UInt32) (h : s.length = 8) (k : Nat) : (shaAdd v s k).length = 8 := by
  induction k with
  | zero => exact h
  | succ k ih => simp [shaAdd, ih]

theorem bcells_get (xs : List UInt8) (i : Nat) (h : i < xs.length) : (bcells xs)[i]? = some (.int .u8 (U8 (b8 xs i))) := by
  simp [bcells, BV, h, b8, List.getD]
theorem bcells_set (xs : List UInt8) (i : Nat) (x : UInt8) : (bcells xs).setIfInBounds i (.int .u8 (U8 x)) = bcells (xs.set i x) := by
  simp [bcells, BV, List.map_set]
theorem Blk.byte {w : World} {g : Nat} {t : TypeId} {xs : List UInt8} (h : Blk w g t (bcells xs)) {i : Nat} (hi : i < xs.length) :
    w.cell? ⟨g, i, none⟩ = some (.int .u8 (U8 (b8 xs i))) := by rw [h.cell, bcells_get _ _ hi]
theorem Blk.byte' {w : World} {g : Nat} {t : TypeId} {xs : List UInt8} (h : Blk w g t (bcells xs)) {i o : Nat} (hi : i < xs.length) (ho : o = i) :
    w.cell? ⟨g, o, none⟩ = some (.int .u8 (U8 (b8 xs i))) := by subst ho; exact h.byte hi
theorem Blk.setByte {w : World} {g : Nat} {t : TypeId} {xs : List UInt8} (h : Blk w g t (bcells xs)) (i : Nat) (x : UInt8) :
    Blk (w.setCell ⟨g, i, none⟩ (.int .u8 (U8 x))) g t (bcells (xs.set i x)) := by
  have := h.set_ i (.int .u8 (U8 x)); rw [bcells_set] at this; exact this

/-- words as cells -/
def wcells (xs : List UInt32) : Array Value := (xs.map WV).toArray
theorem wcells_get (xs : List UInt32) (i : Nat) (h : i < xs.length) : (wcells xs)[i]? = some (.int .u32 (U32 (w32 xs i))) := by
  simp [wcells, WV, h, w32, List.getD]
theorem wcells_set (xs : List UInt32) (i : Nat) (x : UInt32) : (wcells xs).setIfInBounds i (.int .u32 (U32 x)) = wcells (xs.set i x) := by
  simp [wcells, WV, List.map_set]
theorem Blk.word {w : World} {g : Nat} {t : TypeId} {xs : List UInt32} (h : Blk w g t (wcells xs)) {i : Nat} (hi : i < xs.length) :
    w.cell? ⟨g, i, none⟩ = some (.int .u32 (U32 (w32 xs i))) := by rw [h.cell, wcells_get _ _ hi]
theorem Blk.setWord {w : World} {g : Nat} {t : TypeId} {xs : List UInt32} (h : Blk w g t (wcells xs)) (i : Nat) (x : UInt32) :
    Blk (w.setCell ⟨g, i, none⟩ (.int .u32 (U32 x))) g t (wcells (xs.set i x)) := by
  have := h.set_ i (.int .u32 (U32 x)); rw [wcells_set] at this; exact this

end Go.Proofs.Ytbkmmelhfkcmgaa
