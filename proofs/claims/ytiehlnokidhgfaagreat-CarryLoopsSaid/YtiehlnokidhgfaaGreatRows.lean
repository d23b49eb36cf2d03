/-
  No cell of these rows narrows 'for every input' (looked for: loops, veiled, ifaces, maps, wideKeys, modest, calm, conditions, laid).
  DERIVED. THE GIVEN ROWS OF THIS SEAT. 6 by the template 'for every input the law returns true; each argument reads behind the call as it read before'; 0 by the template 'total and deterministic' (their statements: YtiehlnokidhgfaaGreatTotals.lean).
  GIVEN WITH THE SEED: the statements are not yours to turn. If you find one false, say at which input.
  Laid BY PROGRAM, IN A SANDBOX (cutbox-rows.mjs): the forced cells as the released guide's own fill.sh prints them over the translation 1f0a882384cd6a89… (all of the seat's roots in one cut). By AI agents, Wed Nov 11 2026. No macro, syntax, notation, axiom, sorry.
-/
import Derived.Test.YtiehlnokidhgfaaGreatChecked
import GoSem.Claim
import GoSem.ClaimJoined
import GoSem.ClaimMapViews
import Derived.JoinedTies
import Derived.KernelRfl
namespace Go.Proofs.YtiehlnokidhgfaaGreat
/- THE CELL 'sum', in the pinned program and in every row, IS THE sha256 OF THE DUMP (.gsa) THAT YtiehlnokidhgfaaGreatProg.lean LOADS. Nothing in Lean hashes anything: it is a label: what it is worth is what the hold of that sum in a sandbox is worth. -/
noncomputable def Tryz.pinned : Pinned := { name := "ytiehlnokidhgfaagreat", sum := "1f0a882384cd6a89b8a113de18b30ab5fdd30227bca7185f2f3e6a5edd1d41fb", checked := Tryz.checked }
namespace Rows
def none {H : Type} : Left H := { results := [], args := [] }

/-- 'backstaylaw07.CarryTells': WHATEVER THE INPUT: true; the input reads as it did. -/
def carryTellsSpec : ChangeSpec := { name := "carryTells", fn := fun _ => fun
  | [d1, d2, d3, d4, d5, d6] => { results := [.lit (.bool true)], args := [d1, d2, d3, d4, d5, d6] }
  | _ => none }
def carryTellsRow : OpenClaim := { program := "ytiehlnokidhgfaagreat", sum := "1f0a882384cd6a89b8a113de18b30ab5fdd30227bca7185f2f3e6a5edd1d41fb", func := "backstay/backstaylaw07.CarryTells", spec := "carryTells", unfollowed := true, recurses := true, plainKeys := false, apart := false }
def CarryTellsSaid : Prop := carryTellsRow.holds Tryz.pinned (OpenSpec.ofChange carryTellsSpec)

/-- ITS FALSE NEIGHBOUR: 'it returns false'. Refute it at one input. -/
def carryTellsWrong : ChangeSpec := { name := "carryTells", fn := fun _ => fun
  | [d1, d2, d3, d4, d5, d6] => { results := [.lit (.bool false)], args := [d1, d2, d3, d4, d5, d6] }
  | _ => none }
def CarryTellsWrongFalsely : Prop := carryTellsRow.holds Tryz.pinned (OpenSpec.ofChange carryTellsWrong)

/-- 'backstaylaw07.CarryLoops': WHATEVER THE INPUT: true; the input reads as it did. -/
def carryLoopsSpec : ChangeSpec := { name := "carryLoops", fn := fun _ => fun
  | [d1, d2, d3] => { results := [.lit (.bool true)], args := [d1, d2, d3] }
  | _ => none }
def carryLoopsRow : OpenClaim := { program := "ytiehlnokidhgfaagreat", sum := "1f0a882384cd6a89b8a113de18b30ab5fdd30227bca7185f2f3e6a5edd1d41fb", func := "backstay/backstaylaw07.CarryLoops", spec := "carryLoops", unfollowed := true, recurses := true, plainKeys := false, apart := false }
def CarryLoopsSaid : Prop := carryLoopsRow.holds Tryz.pinned (OpenSpec.ofChange carryLoopsSpec)

/-- ITS FALSE NEIGHBOUR: 'it returns false'. Refute it at one input. -/
def carryLoopsWrong : ChangeSpec := { name := "carryLoops", fn := fun _ => fun
  | [d1, d2, d3] => { results := [.lit (.bool false)], args := [d1, d2, d3] }
  | _ => none }
def CarryLoopsWrongFalsely : Prop := carryLoopsRow.holds Tryz.pinned (OpenSpec.ofChange carryLoopsWrong)

/-- 'backstaylaw07.CarryTwice': WHATEVER THE INPUT: true; the input reads as it did. -/
def carryTwiceSpec : ChangeSpec := { name := "carryTwice", fn := fun _ => fun
  | [d1, d2, d3] => { results := [.lit (.bool true)], args := [d1, d2, d3] }
  | _ => none }
def carryTwiceRow : OpenClaim := { program := "ytiehlnokidhgfaagreat", sum := "1f0a882384cd6a89b8a113de18b30ab5fdd30227bca7185f2f3e6a5edd1d41fb", func := "backstay/backstaylaw07.CarryTwice", spec := "carryTwice", unfollowed := true, recurses := true, plainKeys := false, apart := false }
def CarryTwiceSaid : Prop := carryTwiceRow.holds Tryz.pinned (OpenSpec.ofChange carryTwiceSpec)

/-- ITS FALSE NEIGHBOUR: 'it returns false'. Refute it at one input. -/
def carryTwiceWrong : ChangeSpec := { name := "carryTwice", fn := fun _ => fun
  | [d1, d2, d3] => { results := [.lit (.bool false)], args := [d1, d2, d3] }
  | _ => none }
def CarryTwiceWrongFalsely : Prop := carryTwiceRow.holds Tryz.pinned (OpenSpec.ofChange carryTwiceWrong)

/-- 'backstaylaw07.CarryKeeps': WHATEVER THE INPUT: true; the input reads as it did. -/
def carryKeepsSpec : ChangeSpec := { name := "carryKeeps", fn := fun _ => fun
  | [d1, d2, d3, d4, d5] => { results := [.lit (.bool true)], args := [d1, d2, d3, d4, d5] }
  | _ => none }
def carryKeepsRow : OpenClaim := { program := "ytiehlnokidhgfaagreat", sum := "1f0a882384cd6a89b8a113de18b30ab5fdd30227bca7185f2f3e6a5edd1d41fb", func := "backstay/backstaylaw07.CarryKeeps", spec := "carryKeeps", unfollowed := true, recurses := true, plainKeys := false, apart := false }
def CarryKeepsSaid : Prop := carryKeepsRow.holds Tryz.pinned (OpenSpec.ofChange carryKeepsSpec)

/-- ITS FALSE NEIGHBOUR: 'it returns false'. Refute it at one input. -/
def carryKeepsWrong : ChangeSpec := { name := "carryKeeps", fn := fun _ => fun
  | [d1, d2, d3, d4, d5] => { results := [.lit (.bool false)], args := [d1, d2, d3, d4, d5] }
  | _ => none }
def CarryKeepsWrongFalsely : Prop := carryKeepsRow.holds Tryz.pinned (OpenSpec.ofChange carryKeepsWrong)

/-- 'backstaylaw07.CarryLonger': WHATEVER THE INPUT: true; the input reads as it did. -/
def carryLongerSpec : ChangeSpec := { name := "carryLonger", fn := fun _ => fun
  | [d1, d2, d3, d4] => { results := [.lit (.bool true)], args := [d1, d2, d3, d4] }
  | _ => none }
def carryLongerRow : OpenClaim := { program := "ytiehlnokidhgfaagreat", sum := "1f0a882384cd6a89b8a113de18b30ab5fdd30227bca7185f2f3e6a5edd1d41fb", func := "backstay/backstaylaw07.CarryLonger", spec := "carryLonger", unfollowed := true, recurses := true, plainKeys := false, apart := false }
def CarryLongerSaid : Prop := carryLongerRow.holds Tryz.pinned (OpenSpec.ofChange carryLongerSpec)

/-- ITS FALSE NEIGHBOUR: 'it returns false'. Refute it at one input. -/
def carryLongerWrong : ChangeSpec := { name := "carryLonger", fn := fun _ => fun
  | [d1, d2, d3, d4] => { results := [.lit (.bool false)], args := [d1, d2, d3, d4] }
  | _ => none }
def CarryLongerWrongFalsely : Prop := carryLongerRow.holds Tryz.pinned (OpenSpec.ofChange carryLongerWrong)

/-- 'backstaylaw07.CarryOwn': WHATEVER THE INPUT: true; the input reads as it did. -/
def carryOwnSpec : ChangeSpec := { name := "carryOwn", fn := fun _ => fun
  | [d1, d2, d3, d4] => { results := [.lit (.bool true)], args := [d1, d2, d3, d4] }
  | _ => none }
def carryOwnRow : OpenClaim := { program := "ytiehlnokidhgfaagreat", sum := "1f0a882384cd6a89b8a113de18b30ab5fdd30227bca7185f2f3e6a5edd1d41fb", func := "backstay/backstaylaw07.CarryOwn", spec := "carryOwn", unfollowed := true, recurses := true, plainKeys := false, apart := false }
def CarryOwnSaid : Prop := carryOwnRow.holds Tryz.pinned (OpenSpec.ofChange carryOwnSpec)

/-- ITS FALSE NEIGHBOUR: 'it returns false'. Refute it at one input. -/
def carryOwnWrong : ChangeSpec := { name := "carryOwn", fn := fun _ => fun
  | [d1, d2, d3, d4] => { results := [.lit (.bool false)], args := [d1, d2, d3, d4] }
  | _ => none }
def CarryOwnWrongFalsely : Prop := carryOwnRow.holds Tryz.pinned (OpenSpec.ofChange carryOwnWrong)

/- THE SECOND FORM. 'bulk': how many values and letters a reading holds, each counted each time it is reached (what is shared counts as often as it is met; a slice's spare places count too). A statement '..UptoSaid' is the law's where the arguments, and the package variables that the reading takes, are together of bulk at most 1048576: NARROWER than '..Said'. Prove '..Said' where nothing that the law and all that it calls make is longer than what came in: it says more and counts as full. Else prove '..UptoSaid'. A law counts once. -/
mutual
def uptoBulk {H : Type} : DataW H → Nat
  | .lit (.string bytes) => bytes.length + 1
  | .lit _ => 1
  | .nil => 1
  | .ptr d => uptoBulk d + 1
  | .slice elems spare => uptoBulkAll elems + uptoBulkAll spare + 1
  | .agg parts => uptoBulkAll parts + 1
  | .iface _ d => uptoBulk d + 1
  | .map entries => uptoBulkEntries entries + 1
  | .held _ => 1
def uptoBulkAll {H : Type} : List (DataW H) → Nat
  | [] => 0
  | d :: r => uptoBulk d + uptoBulkAll r
def uptoBulkEntries {H : Type} : List (Lit × DataW H) → Nat
  | [] => 0
  | x :: r => uptoBulkEntry x + uptoBulkEntries r
def uptoBulkEntry {H : Type} : Lit × DataW H → Nat
  | (.string bytes, d) => bytes.length + uptoBulk d + 1
  | (_, d) => uptoBulk d + 1
 end
def uptoSmall : (H : Type) → List (DataW H) → Bool := fun _ ds => decide (uptoBulkAll ds ≤ 1048576)
def OpenSpec.upto (s : _root_.Go.ChangeSpec) : _root_.Go.OpenSpec := { _root_.Go.OpenSpec.ofChange s with cond := some uptoSmall }

/-- 'backstaylaw07.CarryTells', WHERE WHAT IT READS IS OF BULK AT MOST 1048576: true; the input reads as it did. -/
def carryTellsUptoRow : OpenClaim := { program := "ytiehlnokidhgfaagreat", sum := "1f0a882384cd6a89b8a113de18b30ab5fdd30227bca7185f2f3e6a5edd1d41fb", func := "backstay/backstaylaw07.CarryTells", spec := "carryTells", unfollowed := true, recurses := true, plainKeys := false, apart := false, narrowed := true }
def CarryTellsUptoSaid : Prop := carryTellsUptoRow.holds Tryz.pinned (OpenSpec.upto carryTellsSpec)

/-- 'backstaylaw07.CarryLoops', WHERE WHAT IT READS IS OF BULK AT MOST 1048576: true; the input reads as it did. -/
def carryLoopsUptoRow : OpenClaim := { program := "ytiehlnokidhgfaagreat", sum := "1f0a882384cd6a89b8a113de18b30ab5fdd30227bca7185f2f3e6a5edd1d41fb", func := "backstay/backstaylaw07.CarryLoops", spec := "carryLoops", unfollowed := true, recurses := true, plainKeys := false, apart := false, narrowed := true }
def CarryLoopsUptoSaid : Prop := carryLoopsUptoRow.holds Tryz.pinned (OpenSpec.upto carryLoopsSpec)

/-- 'backstaylaw07.CarryTwice', WHERE WHAT IT READS IS OF BULK AT MOST 1048576: true; the input reads as it did. -/
def carryTwiceUptoRow : OpenClaim := { program := "ytiehlnokidhgfaagreat", sum := "1f0a882384cd6a89b8a113de18b30ab5fdd30227bca7185f2f3e6a5edd1d41fb", func := "backstay/backstaylaw07.CarryTwice", spec := "carryTwice", unfollowed := true, recurses := true, plainKeys := false, apart := false, narrowed := true }
def CarryTwiceUptoSaid : Prop := carryTwiceUptoRow.holds Tryz.pinned (OpenSpec.upto carryTwiceSpec)

/-- 'backstaylaw07.CarryKeeps', WHERE WHAT IT READS IS OF BULK AT MOST 1048576: true; the input reads as it did. -/
def carryKeepsUptoRow : OpenClaim := { program := "ytiehlnokidhgfaagreat", sum := "1f0a882384cd6a89b8a113de18b30ab5fdd30227bca7185f2f3e6a5edd1d41fb", func := "backstay/backstaylaw07.CarryKeeps", spec := "carryKeeps", unfollowed := true, recurses := true, plainKeys := false, apart := false, narrowed := true }
def CarryKeepsUptoSaid : Prop := carryKeepsUptoRow.holds Tryz.pinned (OpenSpec.upto carryKeepsSpec)

/-- 'backstaylaw07.CarryLonger', WHERE WHAT IT READS IS OF BULK AT MOST 1048576: true; the input reads as it did. -/
def carryLongerUptoRow : OpenClaim := { program := "ytiehlnokidhgfaagreat", sum := "1f0a882384cd6a89b8a113de18b30ab5fdd30227bca7185f2f3e6a5edd1d41fb", func := "backstay/backstaylaw07.CarryLonger", spec := "carryLonger", unfollowed := true, recurses := true, plainKeys := false, apart := false, narrowed := true }
def CarryLongerUptoSaid : Prop := carryLongerUptoRow.holds Tryz.pinned (OpenSpec.upto carryLongerSpec)

/-- 'backstaylaw07.CarryOwn', WHERE WHAT IT READS IS OF BULK AT MOST 1048576: true; the input reads as it did. -/
def carryOwnUptoRow : OpenClaim := { program := "ytiehlnokidhgfaagreat", sum := "1f0a882384cd6a89b8a113de18b30ab5fdd30227bca7185f2f3e6a5edd1d41fb", func := "backstay/backstaylaw07.CarryOwn", spec := "carryOwn", unfollowed := true, recurses := true, plainKeys := false, apart := false, narrowed := true }
def CarryOwnUptoSaid : Prop := carryOwnUptoRow.holds Tryz.pinned (OpenSpec.upto carryOwnSpec)

end Rows
end Go.Proofs.YtiehlnokidhgfaaGreat
