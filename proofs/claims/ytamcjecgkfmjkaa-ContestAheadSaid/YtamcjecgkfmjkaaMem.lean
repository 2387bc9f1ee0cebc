/- Memory words: a row that reads, a block known whole, what a call keeps. -/
import Derived.Test.YtamcjecgkfmjkaaCw
open Go Go.RowKit
namespace Go.Proofs.Ytamcjecgkfmjkaa

def BV (c : UInt8) : Value := .int .u8 (U8 c)
def WV (c : UInt32) : Value := .int .u32 (U32 c)

theorem block_of_add (a : Addr) (n : Nat) : (a.add n).block = a.block := by unfold Addr.add; split <;> rfl
theorem add_of_add (a : Addr) (i j : Nat) : (a.add i).add j = a.add (i + j) := by
  unfold Addr.add
  by_cases hi : i = 0 <;> by_cases hj : j = 0 <;> simp [hi, hj, Nat.add_assoc]
theorem add_mk (b o n : Nat) : (⟨b, o, none⟩ : Addr).add n = ⟨b, o + n, none⟩ := by
  unfold Addr.add; split <;> simp_all

/-- What a call keeps: all blocks that were there but those of S. -/
structure Kept (S : List Nat) (w w' : World) : Prop where
  os : w'.os = w.os
  tape : w'.tape = w.tape
  output : w'.output = w.output
  size : w.heap.size ≤ w'.heap.size
  block : ∀ k, k < w.heap.size → k ∉ S → w'.heap[k]? = w.heap[k]?

section
variable {S S' : List Nat} {w w' w'' : World}
theorem Kept.refl (S : List Nat) (w : World) : Kept S w w := ⟨rfl, rfl, rfl, Nat.le_refl _, fun _ _ _ => rfl⟩
theorem Kept.trans (h : Kept S w w') (k : Kept S w' w'') : Kept S w w'' :=
  ⟨k.os.trans h.os, k.tape.trans h.tape, k.output.trans h.output, Nat.le_trans h.size k.size, fun i hi hn => (k.block i (Nat.lt_of_lt_of_le hi h.size) hn).trans (h.block i hi hn)⟩
theorem Kept.mono (h : Kept S w w') (hs : ∀ k, k ∈ S → k ∈ S' ∨ w.heap.size ≤ k) : Kept S' w w' :=
  ⟨h.os, h.tape, h.output, h.size, fun i hi hn => h.block i hi (fun hm => by rcases hs i hm with h | h; exact hn h; omega)⟩
/-- a later step that touches what is new since w, or S -/
theorem Kept.then_ (h : Kept S w w') (k : Kept S' w' w'') (hs : ∀ i, i ∈ S' → i ∈ S ∨ w.heap.size ≤ i) : Kept S w w'' :=
  ⟨k.os.trans h.os, k.tape.trans h.tape, k.output.trans h.output, Nat.le_trans h.size k.size, fun i hi hn =>
    (k.block i (Nat.lt_of_lt_of_le hi h.size) (fun hm => by rcases hs i hm with h | h; exact hn h; omega)).trans (h.block i hi hn)⟩
theorem Kept.alloc (h : Kept S w w') (o : Obj) : Kept S w (w'.alloc o) :=
  ⟨h.os, h.tape, h.output, by simpa using Nat.le_succ_of_le h.size, fun k hk hn => (Below.heap_alloc w' o k (Nat.lt_of_lt_of_le hk h.size)).trans (h.block k hk hn)⟩
theorem Kept.setCell (h : Kept S w w') {p : Addr} (hp : p.block ∈ S ∨ w.heap.size ≤ p.block) (u : Value) : Kept S w (w'.setCell p u) :=
  ⟨h.os, h.tape, h.output, by simpa using h.size, fun k hk hn => (Below.heap_setCell w' p u k (fun e => by subst e; rcases hp with hp | hp; exact hn hp; omega)).trans (h.block k hk hn)⟩
theorem Kept.drew (h : Kept S w w') : Kept S w w'.drew := ⟨h.os, h.tape, h.output, h.size, h.block⟩
theorem Kept.drewN (h : Kept S w w') (n : Nat) : Kept S w (w'.drewN n) := ⟨h.os, h.tape, h.output, h.size, h.block⟩
theorem Kept.of_drewN (n : Nat) (h : Kept S (w.drewN n) w') : Kept S w w' := ⟨h.os, h.tape, h.output, h.size, h.block⟩
theorem Kept.grown {row : Option Nat} (h : Kept S w w') (hg : w'.grownBy w'' row) (hr : ∀ k, row = some k → k ∈ S ∨ w.heap.size ≤ k) : Kept S w w'' :=
  ⟨hg.os.trans h.os, hg.tape.trans h.tape, hg.output.trans h.output, Nat.le_trans h.size hg.size, fun k hk hn =>
    (hg.block k (Nat.lt_of_lt_of_le hk h.size) (fun e => by rcases hr k e.symm with h | h; exact hn h; omega)).trans (h.block k hk hn)⟩
theorem Kept.of_grown {row : Option Nat} (hg : w.grownBy w' row) (hr : ∀ k, row = some k → k ∈ S ∨ w.heap.size ≤ k) : Kept S w w' :=
  (Kept.refl S w).grown hg hr
theorem Kept.below (h : Kept [] w w') : Below w.heap.size w w' := ⟨h.os, h.tape, h.output, h.size, fun k hk => h.block k hk (by simp)⟩
theorem Kept.cell (h : Kept S w w') {p : Addr} (hp : p.block < w.heap.size) (hn : p.block ∉ S) : w'.cell? p = w.cell? p :=
  World.cell?_of_block (w := w) (h.block p.block hp hn)
theorem Kept.cell_some (h : Kept S w w') {p : Addr} {v : Value} (hc : w.cell? p = some v) (hn : p.block ∉ S) : w'.cell? p = some v :=
  (h.cell (World.block_lt_of_cell? w p hc) hn).trans hc
theorem Kept.frozen (h : Kept S w w') {p : Addr} (hp : p.block < w.heap.size) (hn : p.block ∉ S) : w'.frozen? p = w.frozen? p :=
  World.frozen?_of_block (w := w) (h.block p.block hp hn)
end

/-- a row that reads xs at A -/
def Rd (w : World) (A : Option Addr) (xs : List Value) : Prop :=
  0 < xs.length → ∃ a, A = some a ∧ ∀ i v, xs[i]? = some v → w.cell? (a.add i) = some v
theorem Rd.at_ {w : World} {A : Option Addr} {xs : List Value} (h : Rd w A xs) {i : Nat} (hi : i < xs.length) :
    ∃ a, A = some a ∧ w.cell? (a.add i) = some xs[i] := by
  obtain ⟨a, e, h⟩ := h (by omega)
  exact ⟨a, e, h i _ (List.getElem?_eq_getElem hi)⟩
theorem Rd.kept {S : List Nat} {w w' : World} {A : Option Addr} {xs : List Value} (h : Rd w A xs) (hk : Kept S w w') (hn : ∀ a, A = some a → a.block ∉ S) : Rd w' A xs := by
  intro hl
  obtain ⟨a, e, h⟩ := h hl
  exact ⟨a, e, fun i v hv => hk.cell_some (h i v hv) (by rw [block_of_add]; exact hn a e)⟩
theorem Rd.nil (w : World) (A : Option Addr) : Rd w A [] := fun h => by simp at h
theorem Rd.drop {w : World} {A : Option Addr} {xs : List Value} (h : Rd w A xs) (k cap : Nat) (hk : k ≤ xs.length) (hc : xs.length ≤ cap) :
    Rd w (if cap = k then A else A.map (·.add k)) (xs.drop k) := by
  intro hl
  rw [List.length_drop] at hl
  obtain ⟨a, rfl, h2⟩ := h (by omega)
  rw [if_neg (by omega)]
  refine ⟨a.add k, rfl, fun i v hv => ?_⟩
  rw [add_of_add]
  exact h2 _ v (by rw [← hv, List.getElem?_drop])
theorem Rd.take {w : World} {A : Option Addr} {xs : List Value} (h : Rd w A xs) (k : Nat) : Rd w A (xs.take k) := by
  intro hl
  obtain ⟨a, e, h⟩ := h (by rw [List.length_take] at hl; omega)
  refine ⟨a, e, fun i v hv => h i v ?_⟩
  rw [List.getElem?_take] at hv
  split at hv
  · exact hv
  · cases hv

/-- as Rd, and the row lies below block B -/
def RdB (B : Nat) (w : World) (A : Option Addr) (xs : List Value) : Prop :=
  0 < xs.length → ∃ a, A = some a ∧ a.block < B ∧ ∀ i v, xs[i]? = some v → w.cell? (a.add i) = some v
theorem Rd.bound {w : World} {A : Option Addr} {xs : List Value} (h : Rd w A xs) : RdB w.heap.size w A xs := by
  intro hl
  obtain ⟨a, e, h⟩ := h hl
  refine ⟨a, e, ?_, h⟩
  have := World.block_lt_of_cell? w _ (h 0 xs[0] (List.getElem?_eq_getElem hl))
  rwa [block_of_add] at this
theorem RdB.rd {B : Nat} {w : World} {A : Option Addr} {xs : List Value} (h : RdB B w A xs) : Rd w A xs := fun hl => by
  obtain ⟨a, e, _, h⟩ := h hl
  exact ⟨a, e, h⟩
theorem RdB.mono {B B' : Nat} {w : World} {A : Option Addr} {xs : List Value} (h : RdB B w A xs) (hB : B ≤ B') : RdB B' w A xs := fun hl => by
  obtain ⟨a, e, hb, h⟩ := h hl
  exact ⟨a, e, by omega, h⟩
theorem RdB.kept {B : Nat} {S : List Nat} {w w' : World} {A : Option Addr} {xs : List Value} (h : RdB B w A xs) (hk : Kept S w w') (hS : ∀ k, k ∈ S → B ≤ k) : RdB B w' A xs := by
  intro hl
  obtain ⟨a, e, hb, h⟩ := h hl
  exact ⟨a, e, hb, fun i v hv => hk.cell_some (h i v hv) (by rw [block_of_add]; intro hm; have := hS _ hm; omega)⟩
theorem RdB.drop {B : Nat} {w : World} {A : Option Addr} {xs : List Value} (h : RdB B w A xs) (k cap : Nat) (hk : k ≤ xs.length) (hc : xs.length ≤ cap) :
    RdB B w (if cap = k then A else A.map (·.add k)) (xs.drop k) := by
  intro hl
  rw [List.length_drop] at hl
  obtain ⟨a, rfl, hb, h2⟩ := h (by omega)
  rw [if_neg (by omega)]
  refine ⟨a.add k, rfl, by rw [block_of_add]; exact hb, fun i v hv => ?_⟩
  rw [add_of_add]
  exact h2 _ v (by rw [← hv, List.getElem?_drop])
theorem RdB.take {B : Nat} {w : World} {A : Option Addr} {xs : List Value} (h : RdB B w A xs) (k : Nat) : RdB B w A (xs.take k) := by
  intro hl
  obtain ⟨a, e, hb, h⟩ := h (by rw [List.length_take] at hl; omega)
  refine ⟨a, e, hb, fun i v hv => h i v ?_⟩
  rw [List.getElem?_take] at hv
  split at hv
  · exact hv
  · cases hv

/-- bytes as cells -/
def bcells (xs : List UInt8) : Array Value := (xs.map BV).toArray
theorem bcells_size (xs : List UInt8) : (bcells xs).size = xs.length := by simp [bcells]
theorem bcells_one (xs : List UInt8) : ∀ u ∈ (bcells xs).toList, u.oneCell' = true := by
  intro u hu
  simp [bcells, BV] at hu
  obtain ⟨a, _, rfl⟩ := hu
  rfl
theorem bv_one (xs : List UInt8) : ∀ u ∈ xs.map BV, u.oneCell' = true := by
  intro u hu
  simp [BV] at hu
  obtain ⟨a, _, rfl⟩ := hu
  rfl

/-- a block known whole, nothing frozen -/
def Blk (w : World) (g : Nat) (t : TypeId) (cs : Array Value) : Prop := w.heap[g]? = some (.cells cs t (0, 0))
section
variable {w w' : World} {g : Nat} {t : TypeId} {cs : Array Value} {S : List Nat}
theorem Blk.lt (h : Blk w g t cs) : g < w.heap.size := by
  rcases Nat.lt_or_ge g w.heap.size with hlt | hge
  · exact hlt
  · unfold Blk at h; rw [Array.getElem?_eq_none hge] at h; cases h
theorem Blk.cell (h : Blk w g t cs) (i : Nat) : w.cell? ⟨g, i, none⟩ = cs[i]? := cell_of_row w g i cs t (0, 0) h
theorem Blk.frozen (h : Blk w g t cs) (i : Nat) : w.frozen? ⟨g, i, none⟩ = false := by
  unfold Blk at h
  simp [World.frozen?, h]
theorem Blk.new (w : World) (t : TypeId) (cs : Array Value) : Blk (w.alloc (.cells cs t)) w.heap.size t cs := heap_alloc_new w _
theorem Blk.drew (h : Blk w g t cs) : Blk w.drew g t cs := h
theorem Blk.drewN (h : Blk w g t cs) (n : Nat) : Blk (w.drewN n) g t cs := h
theorem Blk.alloc (h : Blk w g t cs) (o : Obj) : Blk (w.alloc o) g t cs := (Below.heap_alloc w o g h.lt).trans h
theorem Blk.set_ (h : Blk w g t cs) (i : Nat) (u : Value) : Blk (w.setCell ⟨g, i, none⟩ u) g t (cs.setIfInBounds i u) := by
  unfold Blk at h ⊢
  simp [World.setCell, Array.getElem?_modify, h]
theorem Blk.far (h : Blk w g t cs) {p : Addr} (hp : g ≠ p.block) (u : Value) : Blk (w.setCell p u) g t cs := (Below.heap_setCell w p u g hp).trans h
theorem Blk.kept (h : Blk w g t cs) (hk : Kept S w w') (hg : g ∉ S) : Blk w' g t cs := (hk.block g h.lt hg).trans h
theorem Blk.grown {row : Option Nat} (h : Blk w g t cs) (hb : w.grownBy w' row) (hg : some g ≠ row) : Blk w' g t cs := (hb.block g h.lt hg).trans h
theorem Blk.ne_ {g' : Nat} {t' : TypeId} {cs' : Array Value} (h : Blk w g t cs) (h' : Blk w g' t' cs') (hne : t ≠ t') : g ≠ g' := by
  rintro rfl
  unfold Blk at h h'
  rw [h] at h'
  injection h' with h'
  injection h' with _ ht
  exact hne ht
/-- a block's cells read as a row -/
theorem Blk.rd {xs : List Value} (h : Blk w g t xs.toArray) : Rd w (some ⟨g, 0, none⟩) xs :=
  fun _ => ⟨_, rfl, fun i v hv => by rw [add_mk, Nat.zero_add, h.cell i]; simpa using hv⟩
theorem Blk.rd_at {xs : List Value} (h : Blk w g t cs) (o : Nat) (hx : xs = cs.toList.drop o) : Rd w (some ⟨g, o, none⟩) xs :=
  fun _ => ⟨_, rfl, fun i v hv => by rw [add_mk, h.cell]; subst hx; simpa [List.getElem?_drop] using hv⟩
end

end Go.Proofs.Ytamcjecgkfmjkaa
