/-
  No cell of these rows narrows 'for every input' (looked for: loops, veiled, ifaces, maps, wideKeys, modest, calm, conditions, laid).
  DERIVED. THE GIVEN ROWS OF THIS SEAT. 5 by the template 'for every input the law returns true; each argument reads behind the call as it read before'; 0 by the template 'total and deterministic' (their statements: YtgeelaafmnedmaaGreatTotals.lean).
  GIVEN WITH THE SEED: the statements are not yours to turn. If you find one false, say at which input.
  Laid BY PROGRAM, IN A SANDBOX (cutbox-rows.mjs): the forced cells as the released guide's own fill.sh prints them over the translation 9e5821f47a8a0cae… (all of the seat's roots in one cut). By AI agents, Wed Nov 11 2026. No macro, syntax, notation, axiom, sorry.
-/
import Derived.Test.YtgeelaafmnedmaaGreatChecked
import GoSem.Claim
import GoSem.ClaimJoined
import GoSem.ClaimMapViews
import Derived.JoinedTies
import Derived.KernelRfl
namespace Go.Proofs.YtgeelaafmnedmaaGreat
/- THE CELL 'sum', in the pinned program and in every row, IS THE sha256 OF THE DUMP (.gsa) THAT YtgeelaafmnedmaaGreatProg.lean LOADS. Nothing in Lean hashes anything: it is a label: what it is worth is what the hold of that sum in a sandbox is worth. -/
noncomputable def Tryz.pinned : Pinned := { name := "ytgeelaafmnedmaagreat", sum := "9e5821f47a8a0cae5861ddf86ff13aed44b80d39e1a49a4d86c81e1085c14c83", checked := Tryz.checked }
namespace Rows
def none {H : Type} : Left H := { results := [], args := [] }

/-- 'gauntletlaw21.JudgeIgnores': WHATEVER THE INPUT: true; the input reads as it did. -/
def judgeIgnoresSpec : ChangeSpec := { name := "judgeIgnores", fn := fun _ => fun
  | [d1, d2, d3, d4, d5] => { results := [.lit (.bool true)], args := [d1, d2, d3, d4, d5] }
  | _ => none }
def judgeIgnoresRow : OpenClaim := { program := "ytgeelaafmnedmaagreat", sum := "9e5821f47a8a0cae5861ddf86ff13aed44b80d39e1a49a4d86c81e1085c14c83", func := "gauntlet/gauntletlaw21.JudgeIgnores", spec := "judgeIgnores", unfollowed := true, recurses := true, apart := false }
def JudgeIgnoresSaid : Prop := judgeIgnoresRow.holds Tryz.pinned (OpenSpec.ofChange judgeIgnoresSpec)

/-- ITS FALSE NEIGHBOUR: 'it returns false'. Refute it at one input. -/
def judgeIgnoresWrong : ChangeSpec := { name := "judgeIgnores", fn := fun _ => fun
  | [d1, d2, d3, d4, d5] => { results := [.lit (.bool false)], args := [d1, d2, d3, d4, d5] }
  | _ => none }
def JudgeIgnoresWrongFalsely : Prop := judgeIgnoresRow.holds Tryz.pinned (OpenSpec.ofChange judgeIgnoresWrong)

/-- 'gauntletlaw21.JudgeHash': WHATEVER THE INPUT: true; the input reads as it did. -/
def judgeHashSpec : ChangeSpec := { name := "judgeHash", fn := fun _ => fun
  | [d1, d2] => { results := [.lit (.bool true)], args := [d1, d2] }
  | _ => none }
def judgeHashRow : OpenClaim := { program := "ytgeelaafmnedmaagreat", sum := "9e5821f47a8a0cae5861ddf86ff13aed44b80d39e1a49a4d86c81e1085c14c83", func := "gauntlet/gauntletlaw21.JudgeHash", spec := "judgeHash", unfollowed := true, recurses := true, apart := false }
def JudgeHashSaid : Prop := judgeHashRow.holds Tryz.pinned (OpenSpec.ofChange judgeHashSpec)

/-- ITS FALSE NEIGHBOUR: 'it returns false'. Refute it at one input. -/
def judgeHashWrong : ChangeSpec := { name := "judgeHash", fn := fun _ => fun
  | [d1, d2] => { results := [.lit (.bool false)], args := [d1, d2] }
  | _ => none }
def JudgeHashWrongFalsely : Prop := judgeHashRow.holds Tryz.pinned (OpenSpec.ofChange judgeHashWrong)

/-- 'gauntletlaw21.JudgeFirst': WHATEVER THE INPUT: true; the input reads as it did. -/
def judgeFirstSpec : ChangeSpec := { name := "judgeFirst", fn := fun _ => fun
  | [d1, d2, d3, d4] => { results := [.lit (.bool true)], args := [d1, d2, d3, d4] }
  | _ => none }
def judgeFirstRow : OpenClaim := { program := "ytgeelaafmnedmaagreat", sum := "9e5821f47a8a0cae5861ddf86ff13aed44b80d39e1a49a4d86c81e1085c14c83", func := "gauntlet/gauntletlaw21.JudgeFirst", spec := "judgeFirst", unfollowed := true, recurses := true, apart := false }
def JudgeFirstSaid : Prop := judgeFirstRow.holds Tryz.pinned (OpenSpec.ofChange judgeFirstSpec)

/-- ITS FALSE NEIGHBOUR: 'it returns false'. Refute it at one input. -/
def judgeFirstWrong : ChangeSpec := { name := "judgeFirst", fn := fun _ => fun
  | [d1, d2, d3, d4] => { results := [.lit (.bool false)], args := [d1, d2, d3, d4] }
  | _ => none }
def JudgeFirstWrongFalsely : Prop := judgeFirstRow.holds Tryz.pinned (OpenSpec.ofChange judgeFirstWrong)

/-- 'gauntletlaw21.JudgeTells': WHATEVER THE INPUT: true; the input reads as it did. -/
def judgeTellsSpec : ChangeSpec := { name := "judgeTells", fn := fun _ => fun
  | [d1, d2] => { results := [.lit (.bool true)], args := [d1, d2] }
  | _ => none }
def judgeTellsRow : OpenClaim := { program := "ytgeelaafmnedmaagreat", sum := "9e5821f47a8a0cae5861ddf86ff13aed44b80d39e1a49a4d86c81e1085c14c83", func := "gauntlet/gauntletlaw21.JudgeTells", spec := "judgeTells", unfollowed := true, recurses := true, apart := false }
def JudgeTellsSaid : Prop := judgeTellsRow.holds Tryz.pinned (OpenSpec.ofChange judgeTellsSpec)

/-- ITS FALSE NEIGHBOUR: 'it returns false'. Refute it at one input. -/
def judgeTellsWrong : ChangeSpec := { name := "judgeTells", fn := fun _ => fun
  | [d1, d2] => { results := [.lit (.bool false)], args := [d1, d2] }
  | _ => none }
def JudgeTellsWrongFalsely : Prop := judgeTellsRow.holds Tryz.pinned (OpenSpec.ofChange judgeTellsWrong)

/-- 'gauntletlaw21.JudgeAgrees': WHATEVER THE INPUT: true; the input reads as it did. -/
def judgeAgreesSpec : ChangeSpec := { name := "judgeAgrees", fn := fun _ => fun
  | [d1, d2] => { results := [.lit (.bool true)], args := [d1, d2] }
  | _ => none }
def judgeAgreesRow : OpenClaim := { program := "ytgeelaafmnedmaagreat", sum := "9e5821f47a8a0cae5861ddf86ff13aed44b80d39e1a49a4d86c81e1085c14c83", func := "gauntlet/gauntletlaw21.JudgeAgrees", spec := "judgeAgrees", unfollowed := true, recurses := true, apart := false }
def JudgeAgreesSaid : Prop := judgeAgreesRow.holds Tryz.pinned (OpenSpec.ofChange judgeAgreesSpec)

/-- ITS FALSE NEIGHBOUR: 'it returns false'. Refute it at one input. -/
def judgeAgreesWrong : ChangeSpec := { name := "judgeAgrees", fn := fun _ => fun
  | [d1, d2] => { results := [.lit (.bool false)], args := [d1, d2] }
  | _ => none }
def JudgeAgreesWrongFalsely : Prop := judgeAgreesRow.holds Tryz.pinned (OpenSpec.ofChange judgeAgreesWrong)

/- THE SECOND FORM. 'bulk': how many values and letters a reading holds, each counted each time it is reached (what is shared counts as often as it is met; a slice's spare places count too). A statement '..UptoSaid' is the law's where the arguments, and the package variables that the reading takes, are together of bulk at most 1048576: NARROWER than '..Said'. Prove '..Said' where nothing that the law and all that it calls make is longer than what came in: it says more and counts as full. Else prove '..UptoSaid'. A law counts once. -/
mutual
def uptoBulk {H : Type} : DataW H → Nat
  | .lit (.string bytes) => bytes.length + 1
  | .lit _ => 1
  | .nil => 1
  | .ptr d => uptoBulk d + 1
  | .slice elems spare => uptoBulkAll elems + uptoBulkAll spare + 1
  | .agg parts => uptoBulkAll parts + 1
  | .iface _ d => uptoBulk d + 1
  | .map entries => uptoBulkEntries entries + 1
  | .held _ => 1
def uptoBulkAll {H : Type} : List (DataW H) → Nat
  | [] => 0
  | d :: r => uptoBulk d + uptoBulkAll r
def uptoBulkEntries {H : Type} : List (Lit × DataW H) → Nat
  | [] => 0
  | x :: r => uptoBulkEntry x + uptoBulkEntries r
def uptoBulkEntry {H : Type} : Lit × DataW H → Nat
  | (.string bytes, d) => bytes.length + uptoBulk d + 1
  | (_, d) => uptoBulk d + 1
 end
def uptoSmall : (H : Type) → List (DataW H) → Bool := fun _ ds => decide (uptoBulkAll ds ≤ 1048576)
def OpenSpec.upto (s : _root_.Go.ChangeSpec) : _root_.Go.OpenSpec := { _root_.Go.OpenSpec.ofChange s with cond := some uptoSmall }

/-- 'gauntletlaw21.JudgeIgnores', WHERE WHAT IT READS IS OF BULK AT MOST 1048576: true; the input reads as it did. -/
def judgeIgnoresUptoRow : OpenClaim := { program := "ytgeelaafmnedmaagreat", sum := "9e5821f47a8a0cae5861ddf86ff13aed44b80d39e1a49a4d86c81e1085c14c83", func := "gauntlet/gauntletlaw21.JudgeIgnores", spec := "judgeIgnores", unfollowed := true, recurses := true, apart := false, narrowed := true }
def JudgeIgnoresUptoSaid : Prop := judgeIgnoresUptoRow.holds Tryz.pinned (OpenSpec.upto judgeIgnoresSpec)

/-- 'gauntletlaw21.JudgeHash', WHERE WHAT IT READS IS OF BULK AT MOST 1048576: true; the input reads as it did. -/
def judgeHashUptoRow : OpenClaim := { program := "ytgeelaafmnedmaagreat", sum := "9e5821f47a8a0cae5861ddf86ff13aed44b80d39e1a49a4d86c81e1085c14c83", func := "gauntlet/gauntletlaw21.JudgeHash", spec := "judgeHash", unfollowed := true, recurses := true, apart := false, narrowed := true }
def JudgeHashUptoSaid : Prop := judgeHashUptoRow.holds Tryz.pinned (OpenSpec.upto judgeHashSpec)

/-- 'gauntletlaw21.JudgeFirst', WHERE WHAT IT READS IS OF BULK AT MOST 1048576: true; the input reads as it did. -/
def judgeFirstUptoRow : OpenClaim := { program := "ytgeelaafmnedmaagreat", sum := "9e5821f47a8a0cae5861ddf86ff13aed44b80d39e1a49a4d86c81e1085c14c83", func := "gauntlet/gauntletlaw21.JudgeFirst", spec := "judgeFirst", unfollowed := true, recurses := true, apart := false, narrowed := true }
def JudgeFirstUptoSaid : Prop := judgeFirstUptoRow.holds Tryz.pinned (OpenSpec.upto judgeFirstSpec)

/-- 'gauntletlaw21.JudgeTells', WHERE WHAT IT READS IS OF BULK AT MOST 1048576: true; the input reads as it did. -/
def judgeTellsUptoRow : OpenClaim := { program := "ytgeelaafmnedmaagreat", sum := "9e5821f47a8a0cae5861ddf86ff13aed44b80d39e1a49a4d86c81e1085c14c83", func := "gauntlet/gauntletlaw21.JudgeTells", spec := "judgeTells", unfollowed := true, recurses := true, apart := false, narrowed := true }
def JudgeTellsUptoSaid : Prop := judgeTellsUptoRow.holds Tryz.pinned (OpenSpec.upto judgeTellsSpec)

/-- 'gauntletlaw21.JudgeAgrees', WHERE WHAT IT READS IS OF BULK AT MOST 1048576: true; the input reads as it did. -/
def judgeAgreesUptoRow : OpenClaim := { program := "ytgeelaafmnedmaagreat", sum := "9e5821f47a8a0cae5861ddf86ff13aed44b80d39e1a49a4d86c81e1085c14c83", func := "gauntlet/gauntletlaw21.JudgeAgrees", spec := "judgeAgrees", unfollowed := true, recurses := true, apart := false, narrowed := true }
def JudgeAgreesUptoSaid : Prop := judgeAgreesUptoRow.holds Tryz.pinned (OpenSpec.upto judgeAgreesSpec)

end Rows
end Go.Proofs.YtgeelaafmnedmaaGreat
