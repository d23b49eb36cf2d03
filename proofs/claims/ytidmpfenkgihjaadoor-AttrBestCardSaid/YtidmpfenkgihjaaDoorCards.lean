/-
  DERIVED. GIVEN WITH THE SEED: THE CARDS: each row of YtidmpfenkgihjaaDoorRows.lean that lists a variable, with what it lists TIED to the program's text (the seventh form; the later family's looks); each row that meets fmt, with fmt's text TOLD by the authors' own Lean function (tested against real Go, not proved from fmt's source: count such statements apart). THE CARD IS WHAT COUNTS. Prove the row's statement (the work); the ties are given (YtidmpfenkgihjaaDoorTie.lean); close each card by the builder's one call (the guide's Derived/Test/ToyasCard.lean, 'card_holds'). Laid BY PROGRAM, IN A SANDBOX (cutbox-door.mjs). By AI agents, Wed Nov 11 2026. No macro, syntax, notation, axiom, sorry.
-/
import Derived.Test.YtidmpfenkgihjaaDoorRows
import GoSem.ClaimSeven
namespace Go.Proofs.YtidmpfenkgihjaaDoor
namespace Rows

/-- THE TIED CARD OF 'backstaylaw05.GraphCuts'. -/
def graphCutsCard : Claim7 := { stood := { row := graphCutsRow, standIns := [], harness := (true, "433bdaacfa8a8e068ca830af65d2315ca7e8a437566a7e84943dc974edba0eca"), looks := false }, kinds := [], alts := [], laidByText := true, laidKinds := [.data], laidTests := true, laidLooks := .later }
def GraphCutsCardSaid : Prop := Claim7.holds Tryd.pinned (.plain (OpenSpec.ofChange graphCutsSpec)) graphCutsCard

/-- THE TIED CARD OF 'backstaylaw06.AttrTells'. -/
def attrTellsCard : Claim7 := { stood := { row := attrTellsRow, standIns := [], harness := (true, "433bdaacfa8a8e068ca830af65d2315ca7e8a437566a7e84943dc974edba0eca"), looks := false }, kinds := [], alts := [], laidByText := true, laidKinds := [.data, .data, .data], laidTests := true, laidLooks := .later }
def AttrTellsCardSaid : Prop := Claim7.holds Tryd.pinned (.plain (OpenSpec.ofChange attrTellsSpec)) attrTellsCard

/-- THE TIED CARD OF 'backstaylaw06.AttrBest'. -/
def attrBestCard : Claim7 := { stood := { row := attrBestRow, standIns := [], harness := (true, "433bdaacfa8a8e068ca830af65d2315ca7e8a437566a7e84943dc974edba0eca"), looks := false }, kinds := [], alts := [], laidByText := true, laidKinds := [.data, .data, .data], laidTests := true, laidLooks := .later }
def AttrBestCardSaid : Prop := Claim7.holds Tryd.pinned (.plain (OpenSpec.ofChange attrBestSpec)) attrBestCard

/-- THE SECOND FORM's CARD OF 'backstaylaw05.GraphCuts'. -/
def graphCutsUptoCard : Claim7 := { stood := { row := graphCutsUptoRow, standIns := [], harness := (true, "433bdaacfa8a8e068ca830af65d2315ca7e8a437566a7e84943dc974edba0eca"), looks := false }, kinds := [], alts := [], laidByText := true, laidKinds := [.data], laidTests := true, laidLooks := .later }
def GraphCutsUptoCardSaid : Prop := Claim7.holds Tryd.pinned (.plain (OpenSpec.upto graphCutsSpec)) graphCutsUptoCard

/-- THE SECOND FORM's CARD OF 'backstaylaw06.AttrTells'. -/
def attrTellsUptoCard : Claim7 := { stood := { row := attrTellsUptoRow, standIns := [], harness := (true, "433bdaacfa8a8e068ca830af65d2315ca7e8a437566a7e84943dc974edba0eca"), looks := false }, kinds := [], alts := [], laidByText := true, laidKinds := [.data, .data, .data], laidTests := true, laidLooks := .later }
def AttrTellsUptoCardSaid : Prop := Claim7.holds Tryd.pinned (.plain (OpenSpec.upto attrTellsSpec)) attrTellsUptoCard

/-- THE SECOND FORM's CARD OF 'backstaylaw06.AttrBest'. -/
def attrBestUptoCard : Claim7 := { stood := { row := attrBestUptoRow, standIns := [], harness := (true, "433bdaacfa8a8e068ca830af65d2315ca7e8a437566a7e84943dc974edba0eca"), looks := false }, kinds := [], alts := [], laidByText := true, laidKinds := [.data, .data, .data], laidTests := true, laidLooks := .later }
def AttrBestUptoCardSaid : Prop := Claim7.holds Tryd.pinned (.plain (OpenSpec.upto attrBestSpec)) attrBestUptoCard
end Rows
end Go.Proofs.YtidmpfenkgihjaaDoor
