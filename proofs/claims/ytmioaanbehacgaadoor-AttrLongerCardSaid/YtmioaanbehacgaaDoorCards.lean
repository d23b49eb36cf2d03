/-
  DERIVED. GIVEN WITH THE SEED: THE CARDS: each row of YtmioaanbehacgaaDoorRows.lean that lists a variable, with what it lists TIED to the program's text (the seventh form; the later family's looks); each row that meets fmt, with fmt's text TOLD by the authors' own Lean function (tested against real Go, not proved from fmt's source: count such statements apart). THE CARD IS WHAT COUNTS. Prove the row's statement (the work); the ties are given (YtmioaanbehacgaaDoorTie.lean); close each card by the builder's one call (the guide's Derived/Test/ToyasCard.lean, 'card_holds'). Laid BY PROGRAM, IN A SANDBOX (cutbox-door.mjs). By AI agents, Wed Nov 11 2026. No macro, syntax, notation, axiom, sorry.
-/
import Derived.Test.YtmioaanbehacgaaDoorRows
import GoSem.ClaimSeven
namespace Go.Proofs.YtmioaanbehacgaaDoor
namespace Rows

/-- THE TIED CARD OF 'backstaylaw06.AttrTells'. -/
def attrTellsCard : Claim7 := { stood := { row := attrTellsRow, standIns := [], harness := (true, "8d01a5eb74306d9e7a514e64388208f0734709985bd6312a84668a28885513ea"), looks := false }, kinds := [], alts := [], laidByText := true, laidKinds := [.data, .data, .data], laidTests := true, laidLooks := .later }
def AttrTellsCardSaid : Prop := Claim7.holds Tryd.pinned (.plain (OpenSpec.ofChange attrTellsSpec)) attrTellsCard

/-- THE TIED CARD OF 'backstaylaw06.AttrOrder'. -/
def attrOrderCard : Claim7 := { stood := { row := attrOrderRow, standIns := [], harness := (true, "8d01a5eb74306d9e7a514e64388208f0734709985bd6312a84668a28885513ea"), looks := false }, kinds := [], alts := [], laidByText := true, laidKinds := [.data, .data, .data], laidTests := true, laidLooks := .later }
def AttrOrderCardSaid : Prop := Claim7.holds Tryd.pinned (.plain (OpenSpec.ofChange attrOrderSpec)) attrOrderCard

/-- THE TIED CARD OF 'backstaylaw06.AttrBest'. -/
def attrBestCard : Claim7 := { stood := { row := attrBestRow, standIns := [], harness := (true, "8d01a5eb74306d9e7a514e64388208f0734709985bd6312a84668a28885513ea"), looks := false }, kinds := [], alts := [], laidByText := true, laidKinds := [.data, .data, .data], laidTests := true, laidLooks := .later }
def AttrBestCardSaid : Prop := Claim7.holds Tryd.pinned (.plain (OpenSpec.ofChange attrBestSpec)) attrBestCard

/-- THE TIED CARD OF 'backstaylaw06.AttrPrints'. -/
def attrPrintsCard : Claim7 := { stood := { row := attrPrintsRow, standIns := [], harness := (true, "8d01a5eb74306d9e7a514e64388208f0734709985bd6312a84668a28885513ea"), looks := false }, kinds := [], alts := [], laidByText := true, laidKinds := [.data, .data, .data], laidTests := true, laidLooks := .later }
def AttrPrintsCardSaid : Prop := Claim7.holds Tryd.pinned (.plain (OpenSpec.ofChange attrPrintsSpec)) attrPrintsCard

/-- THE TIED CARD OF 'backstaylaw06.AttrLonger'. -/
def attrLongerCard : Claim7 := { stood := { row := attrLongerRow, standIns := [], harness := (true, "8d01a5eb74306d9e7a514e64388208f0734709985bd6312a84668a28885513ea"), looks := false }, kinds := [], alts := [], laidByText := true, laidKinds := [.data, .data, .data], laidTests := true, laidLooks := .later }
def AttrLongerCardSaid : Prop := Claim7.holds Tryd.pinned (.plain (OpenSpec.ofChange attrLongerSpec)) attrLongerCard

/-- THE TIED CARD OF 'backstaylaw06.AttrWrong'. -/
def attrWrongCard : Claim7 := { stood := { row := attrWrongRow, standIns := [], harness := (true, "8d01a5eb74306d9e7a514e64388208f0734709985bd6312a84668a28885513ea"), looks := false }, kinds := [], alts := [], laidByText := true, laidKinds := [.data, .data, .data], laidTests := true, laidLooks := .later }
def AttrWrongCardSaid : Prop := Claim7.holds Tryd.pinned (.plain (OpenSpec.ofChange attrWrongSpec)) attrWrongCard

/-- THE TIED CARD OF 'backstaylaw06.AttrKinds'. -/
def attrKindsCard : Claim7 := { stood := { row := attrKindsRow, standIns := [], harness := (true, "8d01a5eb74306d9e7a514e64388208f0734709985bd6312a84668a28885513ea"), looks := false }, kinds := [], alts := [], laidByText := true, laidKinds := [.data, .data, .data], laidTests := true, laidLooks := .later }
def AttrKindsCardSaid : Prop := Claim7.holds Tryd.pinned (.plain (OpenSpec.ofChange attrKindsSpec)) attrKindsCard

/-- THE TIED CARD OF 'backstaylaw06.AttrFirst'. -/
def attrFirstCard : Claim7 := { stood := { row := attrFirstRow, standIns := [], harness := (true, "8d01a5eb74306d9e7a514e64388208f0734709985bd6312a84668a28885513ea"), looks := false }, kinds := [], alts := [], laidByText := true, laidKinds := [.data, .data, .data], laidTests := true, laidLooks := .later }
def AttrFirstCardSaid : Prop := Claim7.holds Tryd.pinned (.plain (OpenSpec.ofChange attrFirstSpec)) attrFirstCard

/-- THE SECOND FORM's CARD OF 'backstaylaw06.AttrTells'. -/
def attrTellsUptoCard : Claim7 := { stood := { row := attrTellsUptoRow, standIns := [], harness := (true, "8d01a5eb74306d9e7a514e64388208f0734709985bd6312a84668a28885513ea"), looks := false }, kinds := [], alts := [], laidByText := true, laidKinds := [.data, .data, .data], laidTests := true, laidLooks := .later }
def AttrTellsUptoCardSaid : Prop := Claim7.holds Tryd.pinned (.plain (OpenSpec.upto attrTellsSpec)) attrTellsUptoCard

/-- THE SECOND FORM's CARD OF 'backstaylaw06.AttrOrder'. -/
def attrOrderUptoCard : Claim7 := { stood := { row := attrOrderUptoRow, standIns := [], harness := (true, "8d01a5eb74306d9e7a514e64388208f0734709985bd6312a84668a28885513ea"), looks := false }, kinds := [], alts := [], laidByText := true, laidKinds := [.data, .data, .data], laidTests := true, laidLooks := .later }
def AttrOrderUptoCardSaid : Prop := Claim7.holds Tryd.pinned (.plain (OpenSpec.upto attrOrderSpec)) attrOrderUptoCard

/-- THE SECOND FORM's CARD OF 'backstaylaw06.AttrBest'. -/
def attrBestUptoCard : Claim7 := { stood := { row := attrBestUptoRow, standIns := [], harness := (true, "8d01a5eb74306d9e7a514e64388208f0734709985bd6312a84668a28885513ea"), looks := false }, kinds := [], alts := [], laidByText := true, laidKinds := [.data, .data, .data], laidTests := true, laidLooks := .later }
def AttrBestUptoCardSaid : Prop := Claim7.holds Tryd.pinned (.plain (OpenSpec.upto attrBestSpec)) attrBestUptoCard

/-- THE SECOND FORM's CARD OF 'backstaylaw06.AttrPrints'. -/
def attrPrintsUptoCard : Claim7 := { stood := { row := attrPrintsUptoRow, standIns := [], harness := (true, "8d01a5eb74306d9e7a514e64388208f0734709985bd6312a84668a28885513ea"), looks := false }, kinds := [], alts := [], laidByText := true, laidKinds := [.data, .data, .data], laidTests := true, laidLooks := .later }
def AttrPrintsUptoCardSaid : Prop := Claim7.holds Tryd.pinned (.plain (OpenSpec.upto attrPrintsSpec)) attrPrintsUptoCard

/-- THE SECOND FORM's CARD OF 'backstaylaw06.AttrLonger'. -/
def attrLongerUptoCard : Claim7 := { stood := { row := attrLongerUptoRow, standIns := [], harness := (true, "8d01a5eb74306d9e7a514e64388208f0734709985bd6312a84668a28885513ea"), looks := false }, kinds := [], alts := [], laidByText := true, laidKinds := [.data, .data, .data], laidTests := true, laidLooks := .later }
def AttrLongerUptoCardSaid : Prop := Claim7.holds Tryd.pinned (.plain (OpenSpec.upto attrLongerSpec)) attrLongerUptoCard

/-- THE SECOND FORM's CARD OF 'backstaylaw06.AttrWrong'. -/
def attrWrongUptoCard : Claim7 := { stood := { row := attrWrongUptoRow, standIns := [], harness := (true, "8d01a5eb74306d9e7a514e64388208f0734709985bd6312a84668a28885513ea"), looks := false }, kinds := [], alts := [], laidByText := true, laidKinds := [.data, .data, .data], laidTests := true, laidLooks := .later }
def AttrWrongUptoCardSaid : Prop := Claim7.holds Tryd.pinned (.plain (OpenSpec.upto attrWrongSpec)) attrWrongUptoCard

/-- THE SECOND FORM's CARD OF 'backstaylaw06.AttrKinds'. -/
def attrKindsUptoCard : Claim7 := { stood := { row := attrKindsUptoRow, standIns := [], harness := (true, "8d01a5eb74306d9e7a514e64388208f0734709985bd6312a84668a28885513ea"), looks := false }, kinds := [], alts := [], laidByText := true, laidKinds := [.data, .data, .data], laidTests := true, laidLooks := .later }
def AttrKindsUptoCardSaid : Prop := Claim7.holds Tryd.pinned (.plain (OpenSpec.upto attrKindsSpec)) attrKindsUptoCard

/-- THE SECOND FORM's CARD OF 'backstaylaw06.AttrFirst'. -/
def attrFirstUptoCard : Claim7 := { stood := { row := attrFirstUptoRow, standIns := [], harness := (true, "8d01a5eb74306d9e7a514e64388208f0734709985bd6312a84668a28885513ea"), looks := false }, kinds := [], alts := [], laidByText := true, laidKinds := [.data, .data, .data], laidTests := true, laidLooks := .later }
def AttrFirstUptoCardSaid : Prop := Claim7.holds Tryd.pinned (.plain (OpenSpec.upto attrFirstSpec)) attrFirstUptoCard
end Rows
end Go.Proofs.YtmioaanbehacgaaDoor
