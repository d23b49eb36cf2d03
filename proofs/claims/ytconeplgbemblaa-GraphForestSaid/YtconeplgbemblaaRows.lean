/-
  No cell of these rows narrows 'for every input' (looked for: loops, veiled, ifaces, maps, wideKeys, modest, calm, conditions, laid).
  DERIVED. THE GIVEN ROWS OF THIS SEAT. 6 by the template 'for every input the law returns true; each argument reads behind the call as it read before'; 0 by the template 'total and deterministic' (their statements: YtconeplgbemblaaTotals.lean).
  GIVEN WITH THE SEED: the statements are not yours to turn. If you find one false, say at which input.
  Laid BY PROGRAM, IN A SANDBOX (cutbox-rows.mjs): the forced cells as the released guide's own fill.sh prints them over the translation de92654c83a86c5f… (all of the seat's roots in one cut). By AI agents, Wed Nov 11 2026. No macro, syntax, notation, axiom, sorry.
-/
import Derived.Test.YtconeplgbemblaaChecked
import GoSem.Claim
import GoSem.ClaimJoined
import GoSem.ClaimMapViews
import Derived.JoinedTies
import Derived.KernelRfl
namespace Go.Proofs.Ytconeplgbemblaa
/- THE CELL 'sum', in the pinned program and in every row, IS THE sha256 OF THE DUMP (.gsa) THAT YtconeplgbemblaaProg.lean LOADS. Nothing in Lean hashes anything: it is a label: what it is worth is what the hold of that sum in a sandbox is worth. -/
noncomputable def Try.pinned : Pinned := { name := "ytconeplgbemblaa", sum := "de92654c83a86c5f43e0d991f2bd2d9084204fe5c86d2c42c39f2e97f3cb4712", checked := Try.checked }
namespace Rows
def none {H : Type} : Left H := { results := [], args := [] }

/-- 'backstaylaw05.GraphTells': WHATEVER THE INPUT: true; the input reads as it did. -/
def graphTellsSpec : ChangeSpec := { name := "graphTells", fn := fun _ => fun
  | [d1, d2, d3, d4, d5] => { results := [.lit (.bool true)], args := [d1, d2, d3, d4, d5] }
  | _ => none }
def graphTellsRow : OpenClaim := { program := "ytconeplgbemblaa", sum := "de92654c83a86c5f43e0d991f2bd2d9084204fe5c86d2c42c39f2e97f3cb4712", func := "backstay/backstaylaw05.GraphTells", spec := "graphTells", unfollowed := true, recurses := true, plainKeys := false, apart := false }
def GraphTellsSaid : Prop := graphTellsRow.holds Try.pinned (OpenSpec.ofChange graphTellsSpec)

/-- ITS FALSE NEIGHBOUR: 'it returns false'. Refute it at one input. -/
def graphTellsWrong : ChangeSpec := { name := "graphTells", fn := fun _ => fun
  | [d1, d2, d3, d4, d5] => { results := [.lit (.bool false)], args := [d1, d2, d3, d4, d5] }
  | _ => none }
def GraphTellsWrongFalsely : Prop := graphTellsRow.holds Try.pinned (OpenSpec.ofChange graphTellsWrong)

/-- 'backstaylaw05.GraphTurns': WHATEVER THE INPUT: true; the input reads as it did. -/
def graphTurnsSpec : ChangeSpec := { name := "graphTurns", fn := fun _ => fun
  | [d1, d2, d3, d4, d5] => { results := [.lit (.bool true)], args := [d1, d2, d3, d4, d5] }
  | _ => none }
def graphTurnsRow : OpenClaim := { program := "ytconeplgbemblaa", sum := "de92654c83a86c5f43e0d991f2bd2d9084204fe5c86d2c42c39f2e97f3cb4712", func := "backstay/backstaylaw05.GraphTurns", spec := "graphTurns", unfollowed := true, recurses := true, plainKeys := false, apart := false }
def GraphTurnsSaid : Prop := graphTurnsRow.holds Try.pinned (OpenSpec.ofChange graphTurnsSpec)

/-- ITS FALSE NEIGHBOUR: 'it returns false'. Refute it at one input. -/
def graphTurnsWrong : ChangeSpec := { name := "graphTurns", fn := fun _ => fun
  | [d1, d2, d3, d4, d5] => { results := [.lit (.bool false)], args := [d1, d2, d3, d4, d5] }
  | _ => none }
def GraphTurnsWrongFalsely : Prop := graphTurnsRow.holds Try.pinned (OpenSpec.ofChange graphTurnsWrong)

/-- 'backstaylaw05.GraphFewer': WHATEVER THE INPUT: true; the input reads as it did. -/
def graphFewerSpec : ChangeSpec := { name := "graphFewer", fn := fun _ => fun
  | [d1, d2, d3, d4, d5] => { results := [.lit (.bool true)], args := [d1, d2, d3, d4, d5] }
  | _ => none }
def graphFewerRow : OpenClaim := { program := "ytconeplgbemblaa", sum := "de92654c83a86c5f43e0d991f2bd2d9084204fe5c86d2c42c39f2e97f3cb4712", func := "backstay/backstaylaw05.GraphFewer", spec := "graphFewer", unfollowed := true, recurses := true, plainKeys := false, apart := false }
def GraphFewerSaid : Prop := graphFewerRow.holds Try.pinned (OpenSpec.ofChange graphFewerSpec)

/-- ITS FALSE NEIGHBOUR: 'it returns false'. Refute it at one input. -/
def graphFewerWrong : ChangeSpec := { name := "graphFewer", fn := fun _ => fun
  | [d1, d2, d3, d4, d5] => { results := [.lit (.bool false)], args := [d1, d2, d3, d4, d5] }
  | _ => none }
def GraphFewerWrongFalsely : Prop := graphFewerRow.holds Try.pinned (OpenSpec.ofChange graphFewerWrong)

/-- 'backstaylaw05.GraphSteps': WHATEVER THE INPUT: true; the input reads as it did. -/
def graphStepsSpec : ChangeSpec := { name := "graphSteps", fn := fun _ => fun
  | [d1, d2, d3, d4] => { results := [.lit (.bool true)], args := [d1, d2, d3, d4] }
  | _ => none }
def graphStepsRow : OpenClaim := { program := "ytconeplgbemblaa", sum := "de92654c83a86c5f43e0d991f2bd2d9084204fe5c86d2c42c39f2e97f3cb4712", func := "backstay/backstaylaw05.GraphSteps", spec := "graphSteps", unfollowed := true, recurses := true, plainKeys := false, apart := false }
def GraphStepsSaid : Prop := graphStepsRow.holds Try.pinned (OpenSpec.ofChange graphStepsSpec)

/-- ITS FALSE NEIGHBOUR: 'it returns false'. Refute it at one input. -/
def graphStepsWrong : ChangeSpec := { name := "graphSteps", fn := fun _ => fun
  | [d1, d2, d3, d4] => { results := [.lit (.bool false)], args := [d1, d2, d3, d4] }
  | _ => none }
def GraphStepsWrongFalsely : Prop := graphStepsRow.holds Try.pinned (OpenSpec.ofChange graphStepsWrong)

/-- 'backstaylaw05.GraphParts': WHATEVER THE INPUT: true; the input reads as it did. -/
def graphPartsSpec : ChangeSpec := { name := "graphParts", fn := fun _ => fun
  | [d1, d2, d3, d4] => { results := [.lit (.bool true)], args := [d1, d2, d3, d4] }
  | _ => none }
def graphPartsRow : OpenClaim := { program := "ytconeplgbemblaa", sum := "de92654c83a86c5f43e0d991f2bd2d9084204fe5c86d2c42c39f2e97f3cb4712", func := "backstay/backstaylaw05.GraphParts", spec := "graphParts", unfollowed := true, recurses := true, plainKeys := false, apart := false }
def GraphPartsSaid : Prop := graphPartsRow.holds Try.pinned (OpenSpec.ofChange graphPartsSpec)

/-- ITS FALSE NEIGHBOUR: 'it returns false'. Refute it at one input. -/
def graphPartsWrong : ChangeSpec := { name := "graphParts", fn := fun _ => fun
  | [d1, d2, d3, d4] => { results := [.lit (.bool false)], args := [d1, d2, d3, d4] }
  | _ => none }
def GraphPartsWrongFalsely : Prop := graphPartsRow.holds Try.pinned (OpenSpec.ofChange graphPartsWrong)

/-- 'backstaylaw05.GraphForest': WHATEVER THE INPUT: true; the input reads as it did. -/
def graphForestSpec : ChangeSpec := { name := "graphForest", fn := fun _ => fun
  | [d1, d2] => { results := [.lit (.bool true)], args := [d1, d2] }
  | _ => none }
def graphForestRow : OpenClaim := { program := "ytconeplgbemblaa", sum := "de92654c83a86c5f43e0d991f2bd2d9084204fe5c86d2c42c39f2e97f3cb4712", func := "backstay/backstaylaw05.GraphForest", spec := "graphForest", unfollowed := true, recurses := true, plainKeys := false, apart := false }
def GraphForestSaid : Prop := graphForestRow.holds Try.pinned (OpenSpec.ofChange graphForestSpec)

/-- ITS FALSE NEIGHBOUR: 'it returns false'. Refute it at one input. -/
def graphForestWrong : ChangeSpec := { name := "graphForest", fn := fun _ => fun
  | [d1, d2] => { results := [.lit (.bool false)], args := [d1, d2] }
  | _ => none }
def GraphForestWrongFalsely : Prop := graphForestRow.holds Try.pinned (OpenSpec.ofChange graphForestWrong)

/- THE SECOND FORM. 'bulk': how many values and letters a reading holds, each counted each time it is reached (what is shared counts as often as it is met; a slice's spare places count too). A statement '..UptoSaid' is the law's where the arguments, and the package variables that the reading takes, are together of bulk at most 1048576: NARROWER than '..Said'. Prove '..Said' where nothing that the law and all that it calls make is longer than what came in: it says more and counts as full. Else prove '..UptoSaid'. A law counts once. -/
mutual
def uptoBulk {H : Type} : DataW H → Nat
  | .lit (.string bytes) => bytes.length + 1
  | .lit _ => 1
  | .nil => 1
  | .ptr d => uptoBulk d + 1
  | .slice elems spare => uptoBulkAll elems + uptoBulkAll spare + 1
  | .agg parts => uptoBulkAll parts + 1
  | .iface _ d => uptoBulk d + 1
  | .map entries => uptoBulkEntries entries + 1
  | .held _ => 1
def uptoBulkAll {H : Type} : List (DataW H) → Nat
  | [] => 0
  | d :: r => uptoBulk d + uptoBulkAll r
def uptoBulkEntries {H : Type} : List (Lit × DataW H) → Nat
  | [] => 0
  | x :: r => uptoBulkEntry x + uptoBulkEntries r
def uptoBulkEntry {H : Type} : Lit × DataW H → Nat
  | (.string bytes, d) => bytes.length + uptoBulk d + 1
  | (_, d) => uptoBulk d + 1
 end
def uptoSmall : (H : Type) → List (DataW H) → Bool := fun _ ds => decide (uptoBulkAll ds ≤ 1048576)
def OpenSpec.upto (s : _root_.Go.ChangeSpec) : _root_.Go.OpenSpec := { _root_.Go.OpenSpec.ofChange s with cond := some uptoSmall }

/-- 'backstaylaw05.GraphTells', WHERE WHAT IT READS IS OF BULK AT MOST 1048576: true; the input reads as it did. -/
def graphTellsUptoRow : OpenClaim := { program := "ytconeplgbemblaa", sum := "de92654c83a86c5f43e0d991f2bd2d9084204fe5c86d2c42c39f2e97f3cb4712", func := "backstay/backstaylaw05.GraphTells", spec := "graphTells", unfollowed := true, recurses := true, plainKeys := false, apart := false, narrowed := true }
def GraphTellsUptoSaid : Prop := graphTellsUptoRow.holds Try.pinned (OpenSpec.upto graphTellsSpec)

/-- 'backstaylaw05.GraphTurns', WHERE WHAT IT READS IS OF BULK AT MOST 1048576: true; the input reads as it did. -/
def graphTurnsUptoRow : OpenClaim := { program := "ytconeplgbemblaa", sum := "de92654c83a86c5f43e0d991f2bd2d9084204fe5c86d2c42c39f2e97f3cb4712", func := "backstay/backstaylaw05.GraphTurns", spec := "graphTurns", unfollowed := true, recurses := true, plainKeys := false, apart := false, narrowed := true }
def GraphTurnsUptoSaid : Prop := graphTurnsUptoRow.holds Try.pinned (OpenSpec.upto graphTurnsSpec)

/-- 'backstaylaw05.GraphFewer', WHERE WHAT IT READS IS OF BULK AT MOST 1048576: true; the input reads as it did. -/
def graphFewerUptoRow : OpenClaim := { program := "ytconeplgbemblaa", sum := "de92654c83a86c5f43e0d991f2bd2d9084204fe5c86d2c42c39f2e97f3cb4712", func := "backstay/backstaylaw05.GraphFewer", spec := "graphFewer", unfollowed := true, recurses := true, plainKeys := false, apart := false, narrowed := true }
def GraphFewerUptoSaid : Prop := graphFewerUptoRow.holds Try.pinned (OpenSpec.upto graphFewerSpec)

/-- 'backstaylaw05.GraphSteps', WHERE WHAT IT READS IS OF BULK AT MOST 1048576: true; the input reads as it did. -/
def graphStepsUptoRow : OpenClaim := { program := "ytconeplgbemblaa", sum := "de92654c83a86c5f43e0d991f2bd2d9084204fe5c86d2c42c39f2e97f3cb4712", func := "backstay/backstaylaw05.GraphSteps", spec := "graphSteps", unfollowed := true, recurses := true, plainKeys := false, apart := false, narrowed := true }
def GraphStepsUptoSaid : Prop := graphStepsUptoRow.holds Try.pinned (OpenSpec.upto graphStepsSpec)

/-- 'backstaylaw05.GraphParts', WHERE WHAT IT READS IS OF BULK AT MOST 1048576: true; the input reads as it did. -/
def graphPartsUptoRow : OpenClaim := { program := "ytconeplgbemblaa", sum := "de92654c83a86c5f43e0d991f2bd2d9084204fe5c86d2c42c39f2e97f3cb4712", func := "backstay/backstaylaw05.GraphParts", spec := "graphParts", unfollowed := true, recurses := true, plainKeys := false, apart := false, narrowed := true }
def GraphPartsUptoSaid : Prop := graphPartsUptoRow.holds Try.pinned (OpenSpec.upto graphPartsSpec)

/-- 'backstaylaw05.GraphForest', WHERE WHAT IT READS IS OF BULK AT MOST 1048576: true; the input reads as it did. -/
def graphForestUptoRow : OpenClaim := { program := "ytconeplgbemblaa", sum := "de92654c83a86c5f43e0d991f2bd2d9084204fe5c86d2c42c39f2e97f3cb4712", func := "backstay/backstaylaw05.GraphForest", spec := "graphForest", unfollowed := true, recurses := true, plainKeys := false, apart := false, narrowed := true }
def GraphForestUptoSaid : Prop := graphForestUptoRow.holds Try.pinned (OpenSpec.upto graphForestSpec)

end Rows
end Go.Proofs.Ytconeplgbemblaa
