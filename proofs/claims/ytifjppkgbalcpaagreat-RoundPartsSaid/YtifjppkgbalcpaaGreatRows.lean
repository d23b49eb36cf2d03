/-
  No cell of these rows narrows 'for every input' (looked for: loops, veiled, ifaces, maps, wideKeys, modest, calm, conditions, laid).
  DERIVED. THE GIVEN ROWS OF THIS SEAT. 6 by the template 'for every input the law returns true; each argument reads behind the call as it read before'; 0 by the template 'total and deterministic' (their statements: YtifjppkgbalcpaaGreatTotals.lean).
  GIVEN WITH THE SEED: the statements are not yours to turn. If you find one false, say at which input.
  Laid BY PROGRAM, IN A SANDBOX (cutbox-rows.mjs): the forced cells as the released guide's own fill.sh prints them over the translation fbf34aa462e219f8… (all of the seat's roots in one cut). By AI agents, Wed Nov 11 2026. No macro, syntax, notation, axiom, sorry.
-/
import Derived.Test.YtifjppkgbalcpaaGreatChecked
import GoSem.Claim
import GoSem.ClaimJoined
import GoSem.ClaimMapViews
import Derived.JoinedTies
import Derived.KernelRfl
namespace Go.Proofs.YtifjppkgbalcpaaGreat
/- THE CELL 'sum', in the pinned program and in every row, IS THE sha256 OF THE DUMP (.gsa) THAT YtifjppkgbalcpaaGreatProg.lean LOADS. Nothing in Lean hashes anything: it is a label: what it is worth is what the hold of that sum in a sandbox is worth. -/
noncomputable def Tryz.pinned : Pinned := { name := "ytifjppkgbalcpaagreat", sum := "fbf34aa462e219f83382b7ee7c75cee8aceb26b764a95e341d96e0b6914bfb24", checked := Tryz.checked }
namespace Rows
def none {H : Type} : Left H := { results := [], args := [] }

/-- 'backstaylaw09.RoundWays': WHATEVER THE INPUT: true; the input reads as it did. -/
def roundWaysSpec : ChangeSpec := { name := "roundWays", fn := fun _ => fun
  | [d1, d2, d3, d4] => { results := [.lit (.bool true)], args := [d1, d2, d3, d4] }
  | _ => none }
def roundWaysRow : OpenClaim := { program := "ytifjppkgbalcpaagreat", sum := "fbf34aa462e219f83382b7ee7c75cee8aceb26b764a95e341d96e0b6914bfb24", func := "backstay/backstaylaw09.RoundWays", spec := "roundWays", unfollowed := true, recurses := true, plainKeys := false, apart := false }
def RoundWaysSaid : Prop := roundWaysRow.holds Tryz.pinned (OpenSpec.ofChange roundWaysSpec)

/-- ITS FALSE NEIGHBOUR: 'it returns false'. Refute it at one input. -/
def roundWaysWrong : ChangeSpec := { name := "roundWays", fn := fun _ => fun
  | [d1, d2, d3, d4] => { results := [.lit (.bool false)], args := [d1, d2, d3, d4] }
  | _ => none }
def RoundWaysWrongFalsely : Prop := roundWaysRow.holds Tryz.pinned (OpenSpec.ofChange roundWaysWrong)

/-- 'backstaylaw09.RoundNear': WHATEVER THE INPUT: true; the input reads as it did. -/
def roundNearSpec : ChangeSpec := { name := "roundNear", fn := fun _ => fun
  | [d1, d2, d3, d4, d5] => { results := [.lit (.bool true)], args := [d1, d2, d3, d4, d5] }
  | _ => none }
def roundNearRow : OpenClaim := { program := "ytifjppkgbalcpaagreat", sum := "fbf34aa462e219f83382b7ee7c75cee8aceb26b764a95e341d96e0b6914bfb24", func := "backstay/backstaylaw09.RoundNear", spec := "roundNear", unfollowed := true, recurses := true, plainKeys := false, apart := false }
def RoundNearSaid : Prop := roundNearRow.holds Tryz.pinned (OpenSpec.ofChange roundNearSpec)

/-- ITS FALSE NEIGHBOUR: 'it returns false'. Refute it at one input. -/
def roundNearWrong : ChangeSpec := { name := "roundNear", fn := fun _ => fun
  | [d1, d2, d3, d4, d5] => { results := [.lit (.bool false)], args := [d1, d2, d3, d4, d5] }
  | _ => none }
def RoundNearWrongFalsely : Prop := roundNearRow.holds Tryz.pinned (OpenSpec.ofChange roundNearWrong)

/-- 'backstaylaw09.RoundAlone': WHATEVER THE INPUT: true; the input reads as it did. -/
def roundAloneSpec : ChangeSpec := { name := "roundAlone", fn := fun _ => fun
  | [d1, d2, d3] => { results := [.lit (.bool true)], args := [d1, d2, d3] }
  | _ => none }
def roundAloneRow : OpenClaim := { program := "ytifjppkgbalcpaagreat", sum := "fbf34aa462e219f83382b7ee7c75cee8aceb26b764a95e341d96e0b6914bfb24", func := "backstay/backstaylaw09.RoundAlone", spec := "roundAlone", unfollowed := true, recurses := true, plainKeys := false, apart := false }
def RoundAloneSaid : Prop := roundAloneRow.holds Tryz.pinned (OpenSpec.ofChange roundAloneSpec)

/-- ITS FALSE NEIGHBOUR: 'it returns false'. Refute it at one input. -/
def roundAloneWrong : ChangeSpec := { name := "roundAlone", fn := fun _ => fun
  | [d1, d2, d3] => { results := [.lit (.bool false)], args := [d1, d2, d3] }
  | _ => none }
def RoundAloneWrongFalsely : Prop := roundAloneRow.holds Tryz.pinned (OpenSpec.ofChange roundAloneWrong)

/-- 'backstaylaw09.RoundFits': WHATEVER THE INPUT: true; the input reads as it did. -/
def roundFitsSpec : ChangeSpec := { name := "roundFits", fn := fun _ => fun
  | [d1, d2, d3] => { results := [.lit (.bool true)], args := [d1, d2, d3] }
  | _ => none }
def roundFitsRow : OpenClaim := { program := "ytifjppkgbalcpaagreat", sum := "fbf34aa462e219f83382b7ee7c75cee8aceb26b764a95e341d96e0b6914bfb24", func := "backstay/backstaylaw09.RoundFits", spec := "roundFits", unfollowed := true, recurses := true, plainKeys := false, apart := false }
def RoundFitsSaid : Prop := roundFitsRow.holds Tryz.pinned (OpenSpec.ofChange roundFitsSpec)

/-- ITS FALSE NEIGHBOUR: 'it returns false'. Refute it at one input. -/
def roundFitsWrong : ChangeSpec := { name := "roundFits", fn := fun _ => fun
  | [d1, d2, d3] => { results := [.lit (.bool false)], args := [d1, d2, d3] }
  | _ => none }
def RoundFitsWrongFalsely : Prop := roundFitsRow.holds Tryz.pinned (OpenSpec.ofChange roundFitsWrong)

/-- 'backstaylaw09.RoundBetter': WHATEVER THE INPUT: true; the input reads as it did. -/
def roundBetterSpec : ChangeSpec := { name := "roundBetter", fn := fun _ => fun
  | [d1, d2, d3, d4] => { results := [.lit (.bool true)], args := [d1, d2, d3, d4] }
  | _ => none }
def roundBetterRow : OpenClaim := { program := "ytifjppkgbalcpaagreat", sum := "fbf34aa462e219f83382b7ee7c75cee8aceb26b764a95e341d96e0b6914bfb24", func := "backstay/backstaylaw09.RoundBetter", spec := "roundBetter", unfollowed := true, recurses := true, plainKeys := false, apart := false }
def RoundBetterSaid : Prop := roundBetterRow.holds Tryz.pinned (OpenSpec.ofChange roundBetterSpec)

/-- ITS FALSE NEIGHBOUR: 'it returns false'. Refute it at one input. -/
def roundBetterWrong : ChangeSpec := { name := "roundBetter", fn := fun _ => fun
  | [d1, d2, d3, d4] => { results := [.lit (.bool false)], args := [d1, d2, d3, d4] }
  | _ => none }
def RoundBetterWrongFalsely : Prop := roundBetterRow.holds Tryz.pinned (OpenSpec.ofChange roundBetterWrong)

/-- 'backstaylaw09.RoundParts': WHATEVER THE INPUT: true; the input reads as it did. -/
def roundPartsSpec : ChangeSpec := { name := "roundParts", fn := fun _ => fun
  | [d1, d2, d3, d4] => { results := [.lit (.bool true)], args := [d1, d2, d3, d4] }
  | _ => none }
def roundPartsRow : OpenClaim := { program := "ytifjppkgbalcpaagreat", sum := "fbf34aa462e219f83382b7ee7c75cee8aceb26b764a95e341d96e0b6914bfb24", func := "backstay/backstaylaw09.RoundParts", spec := "roundParts", unfollowed := true, recurses := true, plainKeys := false, apart := false }
def RoundPartsSaid : Prop := roundPartsRow.holds Tryz.pinned (OpenSpec.ofChange roundPartsSpec)

/-- ITS FALSE NEIGHBOUR: 'it returns false'. Refute it at one input. -/
def roundPartsWrong : ChangeSpec := { name := "roundParts", fn := fun _ => fun
  | [d1, d2, d3, d4] => { results := [.lit (.bool false)], args := [d1, d2, d3, d4] }
  | _ => none }
def RoundPartsWrongFalsely : Prop := roundPartsRow.holds Tryz.pinned (OpenSpec.ofChange roundPartsWrong)

/- THE SECOND FORM. 'bulk': how many values and letters a reading holds, each counted each time it is reached (what is shared counts as often as it is met; a slice's spare places count too). A statement '..UptoSaid' is the law's where the arguments, and the package variables that the reading takes, are together of bulk at most 1048576: NARROWER than '..Said'. Prove '..Said' where nothing that the law and all that it calls make is longer than what came in: it says more and counts as full. Else prove '..UptoSaid'. A law counts once. -/
mutual
def uptoBulk {H : Type} : DataW H → Nat
  | .lit (.string bytes) => bytes.length + 1
  | .lit _ => 1
  | .nil => 1
  | .ptr d => uptoBulk d + 1
  | .slice elems spare => uptoBulkAll elems + uptoBulkAll spare + 1
  | .agg parts => uptoBulkAll parts + 1
  | .iface _ d => uptoBulk d + 1
  | .map entries => uptoBulkEntries entries + 1
  | .held _ => 1
def uptoBulkAll {H : Type} : List (DataW H) → Nat
  | [] => 0
  | d :: r => uptoBulk d + uptoBulkAll r
def uptoBulkEntries {H : Type} : List (Lit × DataW H) → Nat
  | [] => 0
  | x :: r => uptoBulkEntry x + uptoBulkEntries r
def uptoBulkEntry {H : Type} : Lit × DataW H → Nat
  | (.string bytes, d) => bytes.length + uptoBulk d + 1
  | (_, d) => uptoBulk d + 1
 end
def uptoSmall : (H : Type) → List (DataW H) → Bool := fun _ ds => decide (uptoBulkAll ds ≤ 1048576)
def OpenSpec.upto (s : _root_.Go.ChangeSpec) : _root_.Go.OpenSpec := { _root_.Go.OpenSpec.ofChange s with cond := some uptoSmall }

/-- 'backstaylaw09.RoundWays', WHERE WHAT IT READS IS OF BULK AT MOST 1048576: true; the input reads as it did. -/
def roundWaysUptoRow : OpenClaim := { program := "ytifjppkgbalcpaagreat", sum := "fbf34aa462e219f83382b7ee7c75cee8aceb26b764a95e341d96e0b6914bfb24", func := "backstay/backstaylaw09.RoundWays", spec := "roundWays", unfollowed := true, recurses := true, plainKeys := false, apart := false, narrowed := true }
def RoundWaysUptoSaid : Prop := roundWaysUptoRow.holds Tryz.pinned (OpenSpec.upto roundWaysSpec)

/-- 'backstaylaw09.RoundNear', WHERE WHAT IT READS IS OF BULK AT MOST 1048576: true; the input reads as it did. -/
def roundNearUptoRow : OpenClaim := { program := "ytifjppkgbalcpaagreat", sum := "fbf34aa462e219f83382b7ee7c75cee8aceb26b764a95e341d96e0b6914bfb24", func := "backstay/backstaylaw09.RoundNear", spec := "roundNear", unfollowed := true, recurses := true, plainKeys := false, apart := false, narrowed := true }
def RoundNearUptoSaid : Prop := roundNearUptoRow.holds Tryz.pinned (OpenSpec.upto roundNearSpec)

/-- 'backstaylaw09.RoundAlone', WHERE WHAT IT READS IS OF BULK AT MOST 1048576: true; the input reads as it did. -/
def roundAloneUptoRow : OpenClaim := { program := "ytifjppkgbalcpaagreat", sum := "fbf34aa462e219f83382b7ee7c75cee8aceb26b764a95e341d96e0b6914bfb24", func := "backstay/backstaylaw09.RoundAlone", spec := "roundAlone", unfollowed := true, recurses := true, plainKeys := false, apart := false, narrowed := true }
def RoundAloneUptoSaid : Prop := roundAloneUptoRow.holds Tryz.pinned (OpenSpec.upto roundAloneSpec)

/-- 'backstaylaw09.RoundFits', WHERE WHAT IT READS IS OF BULK AT MOST 1048576: true; the input reads as it did. -/
def roundFitsUptoRow : OpenClaim := { program := "ytifjppkgbalcpaagreat", sum := "fbf34aa462e219f83382b7ee7c75cee8aceb26b764a95e341d96e0b6914bfb24", func := "backstay/backstaylaw09.RoundFits", spec := "roundFits", unfollowed := true, recurses := true, plainKeys := false, apart := false, narrowed := true }
def RoundFitsUptoSaid : Prop := roundFitsUptoRow.holds Tryz.pinned (OpenSpec.upto roundFitsSpec)

/-- 'backstaylaw09.RoundBetter', WHERE WHAT IT READS IS OF BULK AT MOST 1048576: true; the input reads as it did. -/
def roundBetterUptoRow : OpenClaim := { program := "ytifjppkgbalcpaagreat", sum := "fbf34aa462e219f83382b7ee7c75cee8aceb26b764a95e341d96e0b6914bfb24", func := "backstay/backstaylaw09.RoundBetter", spec := "roundBetter", unfollowed := true, recurses := true, plainKeys := false, apart := false, narrowed := true }
def RoundBetterUptoSaid : Prop := roundBetterUptoRow.holds Tryz.pinned (OpenSpec.upto roundBetterSpec)

/-- 'backstaylaw09.RoundParts', WHERE WHAT IT READS IS OF BULK AT MOST 1048576: true; the input reads as it did. -/
def roundPartsUptoRow : OpenClaim := { program := "ytifjppkgbalcpaagreat", sum := "fbf34aa462e219f83382b7ee7c75cee8aceb26b764a95e341d96e0b6914bfb24", func := "backstay/backstaylaw09.RoundParts", spec := "roundParts", unfollowed := true, recurses := true, plainKeys := false, apart := false, narrowed := true }
def RoundPartsUptoSaid : Prop := roundPartsUptoRow.holds Tryz.pinned (OpenSpec.upto roundPartsSpec)

end Rows
end Go.Proofs.YtifjppkgbalcpaaGreat
