/-
  No cell of these rows narrows 'for every input' (looked for: loops, veiled, ifaces, maps, wideKeys, modest, calm, conditions, laid).
  DERIVED. THE GIVEN ROWS OF THIS SEAT. 7 by the template 'for every input the law returns true; each argument reads behind the call as it read before'; 0 by the template 'total and deterministic' (their statements: YtablbagdnmbbfaaGreatTotals.lean).
  GIVEN WITH THE SEED: the statements are not yours to turn. If you find one false, say at which input.
  Laid BY PROGRAM, IN A SANDBOX (cutbox-rows.mjs): the forced cells as the released guide's own fill.sh prints them over the translation 0262a43e8781d52a… (all of the seat's roots in one cut). By AI agents, Wed Nov 11 2026. No macro, syntax, notation, axiom, sorry.
-/
import Derived.Test.YtablbagdnmbbfaaGreatChecked
import GoSem.Claim
import GoSem.ClaimJoined
import GoSem.ClaimMapViews
import Derived.JoinedTies
import Derived.KernelRfl
namespace Go.Proofs.YtablbagdnmbbfaaGreat
/- THE CELL 'sum', in the pinned program and in every row, IS THE sha256 OF THE DUMP (.gsa) THAT YtablbagdnmbbfaaGreatProg.lean LOADS. Nothing in Lean hashes anything: it is a label: what it is worth is what the hold of that sum in a sandbox is worth. -/
noncomputable def Tryz.pinned : Pinned := { name := "ytablbagdnmbbfaagreat", sum := "0262a43e8781d52af05fda66bac77cd8794788fb058b04b3ac1ed165ef47f717", checked := Tryz.checked }
namespace Rows
def none {H : Type} : Left H := { results := [], args := [] }

/-- 'backstaylaw10.StableTells': WHATEVER THE INPUT: true; the input reads as it did. -/
def stableTellsSpec : ChangeSpec := { name := "stableTells", fn := fun _ => fun
  | [d1, d2, d3, d4, d5] => { results := [.lit (.bool true)], args := [d1, d2, d3, d4, d5] }
  | _ => none }
def stableTellsRow : OpenClaim := { program := "ytablbagdnmbbfaagreat", sum := "0262a43e8781d52af05fda66bac77cd8794788fb058b04b3ac1ed165ef47f717", func := "backstay/backstaylaw10.StableTells", spec := "stableTells", unfollowed := true, recurses := true, plainKeys := false, apart := false }
def StableTellsSaid : Prop := stableTellsRow.holds Tryz.pinned (OpenSpec.ofChange stableTellsSpec)

/-- ITS FALSE NEIGHBOUR: 'it returns false'. Refute it at one input. -/
def stableTellsWrong : ChangeSpec := { name := "stableTells", fn := fun _ => fun
  | [d1, d2, d3, d4, d5] => { results := [.lit (.bool false)], args := [d1, d2, d3, d4, d5] }
  | _ => none }
def StableTellsWrongFalsely : Prop := stableTellsRow.holds Tryz.pinned (OpenSpec.ofChange stableTellsWrong)

/-- 'backstaylaw10.StableAny': WHATEVER THE INPUT: true; the input reads as it did. -/
def stableAnySpec : ChangeSpec := { name := "stableAny", fn := fun _ => fun
  | [d1, d2, d3] => { results := [.lit (.bool true)], args := [d1, d2, d3] }
  | _ => none }
def stableAnyRow : OpenClaim := { program := "ytablbagdnmbbfaagreat", sum := "0262a43e8781d52af05fda66bac77cd8794788fb058b04b3ac1ed165ef47f717", func := "backstay/backstaylaw10.StableAny", spec := "stableAny", unfollowed := true, recurses := true, plainKeys := false, apart := false }
def StableAnySaid : Prop := stableAnyRow.holds Tryz.pinned (OpenSpec.ofChange stableAnySpec)

/-- ITS FALSE NEIGHBOUR: 'it returns false'. Refute it at one input. -/
def stableAnyWrong : ChangeSpec := { name := "stableAny", fn := fun _ => fun
  | [d1, d2, d3] => { results := [.lit (.bool false)], args := [d1, d2, d3] }
  | _ => none }
def StableAnyWrongFalsely : Prop := stableAnyRow.holds Tryz.pinned (OpenSpec.ofChange stableAnyWrong)

/-- 'backstaylaw10.StableEnough': WHATEVER THE INPUT: true; the input reads as it did. -/
def stableEnoughSpec : ChangeSpec := { name := "stableEnough", fn := fun _ => fun
  | [d1, d2, d3] => { results := [.lit (.bool true)], args := [d1, d2, d3] }
  | _ => none }
def stableEnoughRow : OpenClaim := { program := "ytablbagdnmbbfaagreat", sum := "0262a43e8781d52af05fda66bac77cd8794788fb058b04b3ac1ed165ef47f717", func := "backstay/backstaylaw10.StableEnough", spec := "stableEnough", unfollowed := true, recurses := true, plainKeys := false, apart := false }
def StableEnoughSaid : Prop := stableEnoughRow.holds Tryz.pinned (OpenSpec.ofChange stableEnoughSpec)

/-- ITS FALSE NEIGHBOUR: 'it returns false'. Refute it at one input. -/
def stableEnoughWrong : ChangeSpec := { name := "stableEnough", fn := fun _ => fun
  | [d1, d2, d3] => { results := [.lit (.bool false)], args := [d1, d2, d3] }
  | _ => none }
def StableEnoughWrongFalsely : Prop := stableEnoughRow.holds Tryz.pinned (OpenSpec.ofChange stableEnoughWrong)

/-- 'backstaylaw10.StableFewer': WHATEVER THE INPUT: true; the input reads as it did. -/
def stableFewerSpec : ChangeSpec := { name := "stableFewer", fn := fun _ => fun
  | [d1, d2, d3] => { results := [.lit (.bool true)], args := [d1, d2, d3] }
  | _ => none }
def stableFewerRow : OpenClaim := { program := "ytablbagdnmbbfaagreat", sum := "0262a43e8781d52af05fda66bac77cd8794788fb058b04b3ac1ed165ef47f717", func := "backstay/backstaylaw10.StableFewer", spec := "stableFewer", unfollowed := true, recurses := true, plainKeys := false, apart := false }
def StableFewerSaid : Prop := stableFewerRow.holds Tryz.pinned (OpenSpec.ofChange stableFewerSpec)

/-- ITS FALSE NEIGHBOUR: 'it returns false'. Refute it at one input. -/
def stableFewerWrong : ChangeSpec := { name := "stableFewer", fn := fun _ => fun
  | [d1, d2, d3] => { results := [.lit (.bool false)], args := [d1, d2, d3] }
  | _ => none }
def StableFewerWrongFalsely : Prop := stableFewerRow.holds Tryz.pinned (OpenSpec.ofChange stableFewerWrong)

/-- 'backstaylaw10.StableNear': WHATEVER THE INPUT: true; the input reads as it did. -/
def stableNearSpec : ChangeSpec := { name := "stableNear", fn := fun _ => fun
  | [d1, d2, d3] => { results := [.lit (.bool true)], args := [d1, d2, d3] }
  | _ => none }
def stableNearRow : OpenClaim := { program := "ytablbagdnmbbfaagreat", sum := "0262a43e8781d52af05fda66bac77cd8794788fb058b04b3ac1ed165ef47f717", func := "backstay/backstaylaw10.StableNear", spec := "stableNear", unfollowed := true, recurses := true, plainKeys := false, apart := false }
def StableNearSaid : Prop := stableNearRow.holds Tryz.pinned (OpenSpec.ofChange stableNearSpec)

/-- ITS FALSE NEIGHBOUR: 'it returns false'. Refute it at one input. -/
def stableNearWrong : ChangeSpec := { name := "stableNear", fn := fun _ => fun
  | [d1, d2, d3] => { results := [.lit (.bool false)], args := [d1, d2, d3] }
  | _ => none }
def StableNearWrongFalsely : Prop := stableNearRow.holds Tryz.pinned (OpenSpec.ofChange stableNearWrong)

/-- 'backstaylaw10.StableFirst': WHATEVER THE INPUT: true; the input reads as it did. -/
def stableFirstSpec : ChangeSpec := { name := "stableFirst", fn := fun _ => fun
  | [d1, d2] => { results := [.lit (.bool true)], args := [d1, d2] }
  | _ => none }
def stableFirstRow : OpenClaim := { program := "ytablbagdnmbbfaagreat", sum := "0262a43e8781d52af05fda66bac77cd8794788fb058b04b3ac1ed165ef47f717", func := "backstay/backstaylaw10.StableFirst", spec := "stableFirst", unfollowed := true, recurses := true, plainKeys := false, apart := false }
def StableFirstSaid : Prop := stableFirstRow.holds Tryz.pinned (OpenSpec.ofChange stableFirstSpec)

/-- ITS FALSE NEIGHBOUR: 'it returns false'. Refute it at one input. -/
def stableFirstWrong : ChangeSpec := { name := "stableFirst", fn := fun _ => fun
  | [d1, d2] => { results := [.lit (.bool false)], args := [d1, d2] }
  | _ => none }
def StableFirstWrongFalsely : Prop := stableFirstRow.holds Tryz.pinned (OpenSpec.ofChange stableFirstWrong)

/-- 'backstaylaw10.StableParts': WHATEVER THE INPUT: true; the input reads as it did. -/
def stablePartsSpec : ChangeSpec := { name := "stableParts", fn := fun _ => fun
  | [d1, d2, d3, d4] => { results := [.lit (.bool true)], args := [d1, d2, d3, d4] }
  | _ => none }
def stablePartsRow : OpenClaim := { program := "ytablbagdnmbbfaagreat", sum := "0262a43e8781d52af05fda66bac77cd8794788fb058b04b3ac1ed165ef47f717", func := "backstay/backstaylaw10.StableParts", spec := "stableParts", unfollowed := true, recurses := true, plainKeys := false, apart := false }
def StablePartsSaid : Prop := stablePartsRow.holds Tryz.pinned (OpenSpec.ofChange stablePartsSpec)

/-- ITS FALSE NEIGHBOUR: 'it returns false'. Refute it at one input. -/
def stablePartsWrong : ChangeSpec := { name := "stableParts", fn := fun _ => fun
  | [d1, d2, d3, d4] => { results := [.lit (.bool false)], args := [d1, d2, d3, d4] }
  | _ => none }
def StablePartsWrongFalsely : Prop := stablePartsRow.holds Tryz.pinned (OpenSpec.ofChange stablePartsWrong)

/- THE SECOND FORM. 'bulk': how many values and letters a reading holds, each counted each time it is reached (what is shared counts as often as it is met; a slice's spare places count too). A statement '..UptoSaid' is the law's where the arguments, and the package variables that the reading takes, are together of bulk at most 1048576: NARROWER than '..Said'. Prove '..Said' where nothing that the law and all that it calls make is longer than what came in: it says more and counts as full. Else prove '..UptoSaid'. A law counts once. -/
mutual
def uptoBulk {H : Type} : DataW H → Nat
  | .lit (.string bytes) => bytes.length + 1
  | .lit _ => 1
  | .nil => 1
  | .ptr d => uptoBulk d + 1
  | .slice elems spare => uptoBulkAll elems + uptoBulkAll spare + 1
  | .agg parts => uptoBulkAll parts + 1
  | .iface _ d => uptoBulk d + 1
  | .map entries => uptoBulkEntries entries + 1
  | .held _ => 1
def uptoBulkAll {H : Type} : List (DataW H) → Nat
  | [] => 0
  | d :: r => uptoBulk d + uptoBulkAll r
def uptoBulkEntries {H : Type} : List (Lit × DataW H) → Nat
  | [] => 0
  | x :: r => uptoBulkEntry x + uptoBulkEntries r
def uptoBulkEntry {H : Type} : Lit × DataW H → Nat
  | (.string bytes, d) => bytes.length + uptoBulk d + 1
  | (_, d) => uptoBulk d + 1
 end
def uptoSmall : (H : Type) → List (DataW H) → Bool := fun _ ds => decide (uptoBulkAll ds ≤ 1048576)
def OpenSpec.upto (s : _root_.Go.ChangeSpec) : _root_.Go.OpenSpec := { _root_.Go.OpenSpec.ofChange s with cond := some uptoSmall }

/-- 'backstaylaw10.StableTells', WHERE WHAT IT READS IS OF BULK AT MOST 1048576: true; the input reads as it did. -/
def stableTellsUptoRow : OpenClaim := { program := "ytablbagdnmbbfaagreat", sum := "0262a43e8781d52af05fda66bac77cd8794788fb058b04b3ac1ed165ef47f717", func := "backstay/backstaylaw10.StableTells", spec := "stableTells", unfollowed := true, recurses := true, plainKeys := false, apart := false, narrowed := true }
def StableTellsUptoSaid : Prop := stableTellsUptoRow.holds Tryz.pinned (OpenSpec.upto stableTellsSpec)

/-- 'backstaylaw10.StableAny', WHERE WHAT IT READS IS OF BULK AT MOST 1048576: true; the input reads as it did. -/
def stableAnyUptoRow : OpenClaim := { program := "ytablbagdnmbbfaagreat", sum := "0262a43e8781d52af05fda66bac77cd8794788fb058b04b3ac1ed165ef47f717", func := "backstay/backstaylaw10.StableAny", spec := "stableAny", unfollowed := true, recurses := true, plainKeys := false, apart := false, narrowed := true }
def StableAnyUptoSaid : Prop := stableAnyUptoRow.holds Tryz.pinned (OpenSpec.upto stableAnySpec)

/-- 'backstaylaw10.StableEnough', WHERE WHAT IT READS IS OF BULK AT MOST 1048576: true; the input reads as it did. -/
def stableEnoughUptoRow : OpenClaim := { program := "ytablbagdnmbbfaagreat", sum := "0262a43e8781d52af05fda66bac77cd8794788fb058b04b3ac1ed165ef47f717", func := "backstay/backstaylaw10.StableEnough", spec := "stableEnough", unfollowed := true, recurses := true, plainKeys := false, apart := false, narrowed := true }
def StableEnoughUptoSaid : Prop := stableEnoughUptoRow.holds Tryz.pinned (OpenSpec.upto stableEnoughSpec)

/-- 'backstaylaw10.StableFewer', WHERE WHAT IT READS IS OF BULK AT MOST 1048576: true; the input reads as it did. -/
def stableFewerUptoRow : OpenClaim := { program := "ytablbagdnmbbfaagreat", sum := "0262a43e8781d52af05fda66bac77cd8794788fb058b04b3ac1ed165ef47f717", func := "backstay/backstaylaw10.StableFewer", spec := "stableFewer", unfollowed := true, recurses := true, plainKeys := false, apart := false, narrowed := true }
def StableFewerUptoSaid : Prop := stableFewerUptoRow.holds Tryz.pinned (OpenSpec.upto stableFewerSpec)

/-- 'backstaylaw10.StableNear', WHERE WHAT IT READS IS OF BULK AT MOST 1048576: true; the input reads as it did. -/
def stableNearUptoRow : OpenClaim := { program := "ytablbagdnmbbfaagreat", sum := "0262a43e8781d52af05fda66bac77cd8794788fb058b04b3ac1ed165ef47f717", func := "backstay/backstaylaw10.StableNear", spec := "stableNear", unfollowed := true, recurses := true, plainKeys := false, apart := false, narrowed := true }
def StableNearUptoSaid : Prop := stableNearUptoRow.holds Tryz.pinned (OpenSpec.upto stableNearSpec)

/-- 'backstaylaw10.StableFirst', WHERE WHAT IT READS IS OF BULK AT MOST 1048576: true; the input reads as it did. -/
def stableFirstUptoRow : OpenClaim := { program := "ytablbagdnmbbfaagreat", sum := "0262a43e8781d52af05fda66bac77cd8794788fb058b04b3ac1ed165ef47f717", func := "backstay/backstaylaw10.StableFirst", spec := "stableFirst", unfollowed := true, recurses := true, plainKeys := false, apart := false, narrowed := true }
def StableFirstUptoSaid : Prop := stableFirstUptoRow.holds Tryz.pinned (OpenSpec.upto stableFirstSpec)

/-- 'backstaylaw10.StableParts', WHERE WHAT IT READS IS OF BULK AT MOST 1048576: true; the input reads as it did. -/
def stablePartsUptoRow : OpenClaim := { program := "ytablbagdnmbbfaagreat", sum := "0262a43e8781d52af05fda66bac77cd8794788fb058b04b3ac1ed165ef47f717", func := "backstay/backstaylaw10.StableParts", spec := "stableParts", unfollowed := true, recurses := true, plainKeys := false, apart := false, narrowed := true }
def StablePartsUptoSaid : Prop := stablePartsUptoRow.holds Tryz.pinned (OpenSpec.upto stablePartsSpec)

end Rows
end Go.Proofs.YtablbagdnmbbfaaGreat
