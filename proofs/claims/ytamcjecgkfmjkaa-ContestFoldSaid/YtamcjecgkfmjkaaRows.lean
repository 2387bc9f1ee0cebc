/-
  No cell of these rows narrows 'for every input' (looked for: loops, veiled, ifaces, maps, wideKeys, modest, calm, conditions, laid).
  DERIVED. THE GIVEN ROWS OF THIS SEAT. 6 by the template 'for every input the law returns true; each argument reads behind the call as it read before'; 0 by the template 'total and deterministic' (their statements: YtamcjecgkfmjkaaTotals.lean).
  GIVEN WITH THE SEED: the statements are not yours to turn. If you find one false, say at which input.
  Laid BY PROGRAM, IN A SANDBOX (cutbox-rows.mjs): the forced cells as the released guide's own fill.sh prints them over the translation 5caaa1675db67104… (all of the seat's roots in one cut). By AI agents, Wed Nov 11 2026. No macro, syntax, notation, axiom, sorry.
-/
import Derived.Test.YtamcjecgkfmjkaaChecked
import GoSem.Claim
import GoSem.ClaimJoined
import GoSem.ClaimMapViews
import Derived.JoinedTies
import Derived.KernelRfl
namespace Go.Proofs.Ytamcjecgkfmjkaa
/- THE CELL 'sum', in the pinned program and in every row, IS THE sha256 OF THE DUMP (.gsa) THAT YtamcjecgkfmjkaaProg.lean LOADS. Nothing in Lean hashes anything: it is a label: what it is worth is what the hold of that sum in a sandbox is worth. -/
noncomputable def Try.pinned : Pinned := { name := "ytamcjecgkfmjkaa", sum := "5caaa1675db6710496d4234054b9c20c13fd6578f6559714a2b574d324ac9024", checked := Try.checked }
namespace Rows
def none {H : Type} : Left H := { results := [], args := [] }

/-- 'gauntletlaw18.ContestFold': WHATEVER THE INPUT: true; the input reads as it did. -/
def contestFoldSpec : ChangeSpec := { name := "contestFold", fn := fun _ => fun
  | [d1, d2, d3, d4, d5] => { results := [.lit (.bool true)], args := [d1, d2, d3, d4, d5] }
  | _ => none }
def contestFoldRow : OpenClaim := { program := "ytamcjecgkfmjkaa", sum := "5caaa1675db6710496d4234054b9c20c13fd6578f6559714a2b574d324ac9024", func := "gauntlet/gauntletlaw18.ContestFold", spec := "contestFold", unfollowed := true, recurses := true, apart := false }
def ContestFoldSaid : Prop := contestFoldRow.holds Try.pinned (OpenSpec.ofChange contestFoldSpec)

/-- ITS FALSE NEIGHBOUR: 'it returns false'. Refute it at one input. -/
def contestFoldWrong : ChangeSpec := { name := "contestFold", fn := fun _ => fun
  | [d1, d2, d3, d4, d5] => { results := [.lit (.bool false)], args := [d1, d2, d3, d4, d5] }
  | _ => none }
def ContestFoldWrongFalsely : Prop := contestFoldRow.holds Try.pinned (OpenSpec.ofChange contestFoldWrong)

/-- 'gauntletlaw18.ContestForfeits': WHATEVER THE INPUT: true; the input reads as it did. -/
def contestForfeitsSpec : ChangeSpec := { name := "contestForfeits", fn := fun _ => fun
  | [d1, d2, d3] => { results := [.lit (.bool true)], args := [d1, d2, d3] }
  | _ => none }
def contestForfeitsRow : OpenClaim := { program := "ytamcjecgkfmjkaa", sum := "5caaa1675db6710496d4234054b9c20c13fd6578f6559714a2b574d324ac9024", func := "gauntlet/gauntletlaw18.ContestForfeits", spec := "contestForfeits", unfollowed := true, recurses := true, apart := false }
def ContestForfeitsSaid : Prop := contestForfeitsRow.holds Try.pinned (OpenSpec.ofChange contestForfeitsSpec)

/-- ITS FALSE NEIGHBOUR: 'it returns false'. Refute it at one input. -/
def contestForfeitsWrong : ChangeSpec := { name := "contestForfeits", fn := fun _ => fun
  | [d1, d2, d3] => { results := [.lit (.bool false)], args := [d1, d2, d3] }
  | _ => none }
def ContestForfeitsWrongFalsely : Prop := contestForfeitsRow.holds Try.pinned (OpenSpec.ofChange contestForfeitsWrong)

/-- 'gauntletlaw18.ContestEnds': WHATEVER THE INPUT: true; the input reads as it did. -/
def contestEndsSpec : ChangeSpec := { name := "contestEnds", fn := fun _ => fun
  | [d1, d2, d3] => { results := [.lit (.bool true)], args := [d1, d2, d3] }
  | _ => none }
def contestEndsRow : OpenClaim := { program := "ytamcjecgkfmjkaa", sum := "5caaa1675db6710496d4234054b9c20c13fd6578f6559714a2b574d324ac9024", func := "gauntlet/gauntletlaw18.ContestEnds", spec := "contestEnds", unfollowed := true, recurses := true, apart := false }
def ContestEndsSaid : Prop := contestEndsRow.holds Try.pinned (OpenSpec.ofChange contestEndsSpec)

/-- ITS FALSE NEIGHBOUR: 'it returns false'. Refute it at one input. -/
def contestEndsWrong : ChangeSpec := { name := "contestEnds", fn := fun _ => fun
  | [d1, d2, d3] => { results := [.lit (.bool false)], args := [d1, d2, d3] }
  | _ => none }
def ContestEndsWrongFalsely : Prop := contestEndsRow.holds Try.pinned (OpenSpec.ofChange contestEndsWrong)

/-- 'gauntletlaw18.ContestAhead': WHATEVER THE INPUT: true; the input reads as it did. -/
def contestAheadSpec : ChangeSpec := { name := "contestAhead", fn := fun _ => fun
  | [d1, d2] => { results := [.lit (.bool true)], args := [d1, d2] }
  | _ => none }
def contestAheadRow : OpenClaim := { program := "ytamcjecgkfmjkaa", sum := "5caaa1675db6710496d4234054b9c20c13fd6578f6559714a2b574d324ac9024", func := "gauntlet/gauntletlaw18.ContestAhead", spec := "contestAhead", unfollowed := true, recurses := true, apart := false }
def ContestAheadSaid : Prop := contestAheadRow.holds Try.pinned (OpenSpec.ofChange contestAheadSpec)

/-- ITS FALSE NEIGHBOUR: 'it returns false'. Refute it at one input. -/
def contestAheadWrong : ChangeSpec := { name := "contestAhead", fn := fun _ => fun
  | [d1, d2] => { results := [.lit (.bool false)], args := [d1, d2] }
  | _ => none }
def ContestAheadWrongFalsely : Prop := contestAheadRow.holds Try.pinned (OpenSpec.ofChange contestAheadWrong)

/-- 'gauntletlaw18.ContestJoins': WHATEVER THE INPUT: true; the input reads as it did. -/
def contestJoinsSpec : ChangeSpec := { name := "contestJoins", fn := fun _ => fun
  | [d1, d2] => { results := [.lit (.bool true)], args := [d1, d2] }
  | _ => none }
def contestJoinsRow : OpenClaim := { program := "ytamcjecgkfmjkaa", sum := "5caaa1675db6710496d4234054b9c20c13fd6578f6559714a2b574d324ac9024", func := "gauntlet/gauntletlaw18.ContestJoins", spec := "contestJoins", unfollowed := true, recurses := true, apart := false }
def ContestJoinsSaid : Prop := contestJoinsRow.holds Try.pinned (OpenSpec.ofChange contestJoinsSpec)

/-- ITS FALSE NEIGHBOUR: 'it returns false'. Refute it at one input. -/
def contestJoinsWrong : ChangeSpec := { name := "contestJoins", fn := fun _ => fun
  | [d1, d2] => { results := [.lit (.bool false)], args := [d1, d2] }
  | _ => none }
def ContestJoinsWrongFalsely : Prop := contestJoinsRow.holds Try.pinned (OpenSpec.ofChange contestJoinsWrong)

/-- 'gauntletlaw18.ContestOfNothing': WHATEVER THE INPUT: true; the input reads as it did. -/
def contestOfNothingSpec : ChangeSpec := { name := "contestOfNothing", fn := fun _ => fun
  | [d1, d2] => { results := [.lit (.bool true)], args := [d1, d2] }
  | _ => none }
def contestOfNothingRow : OpenClaim := { program := "ytamcjecgkfmjkaa", sum := "5caaa1675db6710496d4234054b9c20c13fd6578f6559714a2b574d324ac9024", func := "gauntlet/gauntletlaw18.ContestOfNothing", spec := "contestOfNothing", unfollowed := true, recurses := true, apart := false }
def ContestOfNothingSaid : Prop := contestOfNothingRow.holds Try.pinned (OpenSpec.ofChange contestOfNothingSpec)

/-- ITS FALSE NEIGHBOUR: 'it returns false'. Refute it at one input. -/
def contestOfNothingWrong : ChangeSpec := { name := "contestOfNothing", fn := fun _ => fun
  | [d1, d2] => { results := [.lit (.bool false)], args := [d1, d2] }
  | _ => none }
def ContestOfNothingWrongFalsely : Prop := contestOfNothingRow.holds Try.pinned (OpenSpec.ofChange contestOfNothingWrong)

/- THE SECOND FORM. 'bulk': how many values and letters a reading holds, each counted each time it is reached (what is shared counts as often as it is met; a slice's spare places count too). A statement '..UptoSaid' is the law's where the arguments, and the package variables that the reading takes, are together of bulk at most 1048576: NARROWER than '..Said'. Prove '..Said' where nothing that the law and all that it calls make is longer than what came in: it says more and counts as full. Else prove '..UptoSaid'. A law counts once. -/
mutual
def uptoBulk {H : Type} : DataW H → Nat
  | .lit (.string bytes) => bytes.length + 1
  | .lit _ => 1
  | .nil => 1
  | .ptr d => uptoBulk d + 1
  | .slice elems spare => uptoBulkAll elems + uptoBulkAll spare + 1
  | .agg parts => uptoBulkAll parts + 1
  | .iface _ d => uptoBulk d + 1
  | .map entries => uptoBulkEntries entries + 1
  | .held _ => 1
def uptoBulkAll {H : Type} : List (DataW H) → Nat
  | [] => 0
  | d :: r => uptoBulk d + uptoBulkAll r
def uptoBulkEntries {H : Type} : List (Lit × DataW H) → Nat
  | [] => 0
  | x :: r => uptoBulkEntry x + uptoBulkEntries r
def uptoBulkEntry {H : Type} : Lit × DataW H → Nat
  | (.string bytes, d) => bytes.length + uptoBulk d + 1
  | (_, d) => uptoBulk d + 1
 end
def uptoSmall : (H : Type) → List (DataW H) → Bool := fun _ ds => decide (uptoBulkAll ds ≤ 1048576)
def OpenSpec.upto (s : _root_.Go.ChangeSpec) : _root_.Go.OpenSpec := { _root_.Go.OpenSpec.ofChange s with cond := some uptoSmall }

/-- 'gauntletlaw18.ContestFold', WHERE WHAT IT READS IS OF BULK AT MOST 1048576: true; the input reads as it did. -/
def contestFoldUptoRow : OpenClaim := { program := "ytamcjecgkfmjkaa", sum := "5caaa1675db6710496d4234054b9c20c13fd6578f6559714a2b574d324ac9024", func := "gauntlet/gauntletlaw18.ContestFold", spec := "contestFold", unfollowed := true, recurses := true, apart := false, narrowed := true }
def ContestFoldUptoSaid : Prop := contestFoldUptoRow.holds Try.pinned (OpenSpec.upto contestFoldSpec)

/-- 'gauntletlaw18.ContestForfeits', WHERE WHAT IT READS IS OF BULK AT MOST 1048576: true; the input reads as it did. -/
def contestForfeitsUptoRow : OpenClaim := { program := "ytamcjecgkfmjkaa", sum := "5caaa1675db6710496d4234054b9c20c13fd6578f6559714a2b574d324ac9024", func := "gauntlet/gauntletlaw18.ContestForfeits", spec := "contestForfeits", unfollowed := true, recurses := true, apart := false, narrowed := true }
def ContestForfeitsUptoSaid : Prop := contestForfeitsUptoRow.holds Try.pinned (OpenSpec.upto contestForfeitsSpec)

/-- 'gauntletlaw18.ContestEnds', WHERE WHAT IT READS IS OF BULK AT MOST 1048576: true; the input reads as it did. -/
def contestEndsUptoRow : OpenClaim := { program := "ytamcjecgkfmjkaa", sum := "5caaa1675db6710496d4234054b9c20c13fd6578f6559714a2b574d324ac9024", func := "gauntlet/gauntletlaw18.ContestEnds", spec := "contestEnds", unfollowed := true, recurses := true, apart := false, narrowed := true }
def ContestEndsUptoSaid : Prop := contestEndsUptoRow.holds Try.pinned (OpenSpec.upto contestEndsSpec)

/-- 'gauntletlaw18.ContestAhead', WHERE WHAT IT READS IS OF BULK AT MOST 1048576: true; the input reads as it did. -/
def contestAheadUptoRow : OpenClaim := { program := "ytamcjecgkfmjkaa", sum := "5caaa1675db6710496d4234054b9c20c13fd6578f6559714a2b574d324ac9024", func := "gauntlet/gauntletlaw18.ContestAhead", spec := "contestAhead", unfollowed := true, recurses := true, apart := false, narrowed := true }
def ContestAheadUptoSaid : Prop := contestAheadUptoRow.holds Try.pinned (OpenSpec.upto contestAheadSpec)

/-- 'gauntletlaw18.ContestJoins', WHERE WHAT IT READS IS OF BULK AT MOST 1048576: true; the input reads as it did. -/
def contestJoinsUptoRow : OpenClaim := { program := "ytamcjecgkfmjkaa", sum := "5caaa1675db6710496d4234054b9c20c13fd6578f6559714a2b574d324ac9024", func := "gauntlet/gauntletlaw18.ContestJoins", spec := "contestJoins", unfollowed := true, recurses := true, apart := false, narrowed := true }
def ContestJoinsUptoSaid : Prop := contestJoinsUptoRow.holds Try.pinned (OpenSpec.upto contestJoinsSpec)

/-- 'gauntletlaw18.ContestOfNothing', WHERE WHAT IT READS IS OF BULK AT MOST 1048576: true; the input reads as it did. -/
def contestOfNothingUptoRow : OpenClaim := { program := "ytamcjecgkfmjkaa", sum := "5caaa1675db6710496d4234054b9c20c13fd6578f6559714a2b574d324ac9024", func := "gauntlet/gauntletlaw18.ContestOfNothing", spec := "contestOfNothing", unfollowed := true, recurses := true, apart := false, narrowed := true }
def ContestOfNothingUptoSaid : Prop := contestOfNothingUptoRow.holds Try.pinned (OpenSpec.upto contestOfNothingSpec)

end Rows
end Go.Proofs.Ytamcjecgkfmjkaa
