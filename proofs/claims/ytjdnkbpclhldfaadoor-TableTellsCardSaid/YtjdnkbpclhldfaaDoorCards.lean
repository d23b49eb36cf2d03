/-
  DERIVED. GIVEN WITH THE SEED: THE CARDS: each row of YtjdnkbpclhldfaaDoorRows.lean that lists a variable, with what it lists TIED to the program's text (the seventh form; the later family's looks); each row that meets fmt, with fmt's text TOLD by the authors' own Lean function (tested against real Go, not proved from fmt's source: count such statements apart). THE CARD IS WHAT COUNTS. Prove the row's statement (the work); the ties are given (YtjdnkbpclhldfaaDoorTie.lean); close each card by the builder's one call (the guide's Derived/Test/ToyasCard.lean, 'card_holds'). Laid BY PROGRAM, IN A SANDBOX (cutbox-door.mjs). By AI agents, Wed Nov 11 2026. No macro, syntax, notation, axiom, sorry.
-/
import Derived.Test.YtjdnkbpclhldfaaDoorRows
import GoSem.ClaimSeven
namespace Go.Proofs.YtjdnkbpclhldfaaDoor
namespace Rows

/-- THE TIED CARD OF 'backstaylaw08.TableTells'. -/
def tableTellsCard : Claim7 := { stood := { row := tableTellsRow, standIns := [], harness := (true, "600be0196d1509b20a66bf5e851ea5f5d8a44ffce14cd71d655d27ca8e633371"), looks := false }, kinds := [], alts := [], laidByText := true, laidKinds := [.data, .data, .data], laidTests := true, laidLooks := .later }
def TableTellsCardSaid : Prop := Claim7.holds Tryd.pinned (.plain (OpenSpec.ofChange tableTellsSpec)) tableTellsCard

/-- THE TIED CARD OF 'backstaylaw08.TableKeeps'. -/
def tableKeepsCard : Claim7 := { stood := { row := tableKeepsRow, standIns := [], harness := (true, "600be0196d1509b20a66bf5e851ea5f5d8a44ffce14cd71d655d27ca8e633371"), looks := false }, kinds := [], alts := [], laidByText := true, laidKinds := [.data, .data, .data], laidTests := true, laidLooks := .later }
def TableKeepsCardSaid : Prop := Claim7.holds Tryd.pinned (.plain (OpenSpec.ofChange tableKeepsSpec)) tableKeepsCard

/-- THE TIED CARD OF 'backstaylaw08.TableRoom'. -/
def tableRoomCard : Claim7 := { stood := { row := tableRoomRow, standIns := [], harness := (true, "600be0196d1509b20a66bf5e851ea5f5d8a44ffce14cd71d655d27ca8e633371"), looks := false }, kinds := [], alts := [], laidByText := true, laidKinds := [.data, .data, .data], laidTests := true, laidLooks := .later }
def TableRoomCardSaid : Prop := Claim7.holds Tryd.pinned (.plain (OpenSpec.ofChange tableRoomSpec)) tableRoomCard

/-- THE TIED CARD OF 'backstaylaw08.TableOrder'. -/
def tableOrderCard : Claim7 := { stood := { row := tableOrderRow, standIns := [], harness := (true, "600be0196d1509b20a66bf5e851ea5f5d8a44ffce14cd71d655d27ca8e633371"), looks := false }, kinds := [], alts := [], laidByText := true, laidKinds := [.data, .data, .data], laidTests := true, laidLooks := .later }
def TableOrderCardSaid : Prop := Claim7.holds Tryd.pinned (.plain (OpenSpec.ofChange tableOrderSpec)) tableOrderCard

/-- THE TIED CARD OF 'backstaylaw08.TableApart'. -/
def tableApartCard : Claim7 := { stood := { row := tableApartRow, standIns := [], harness := (true, "600be0196d1509b20a66bf5e851ea5f5d8a44ffce14cd71d655d27ca8e633371"), looks := false }, kinds := [], alts := [], laidByText := true, laidKinds := [.data, .data, .data], laidTests := true, laidLooks := .later }
def TableApartCardSaid : Prop := Claim7.holds Tryd.pinned (.plain (OpenSpec.ofChange tableApartSpec)) tableApartCard

/-- THE SECOND FORM's CARD OF 'backstaylaw08.TableTells'. -/
def tableTellsUptoCard : Claim7 := { stood := { row := tableTellsUptoRow, standIns := [], harness := (true, "600be0196d1509b20a66bf5e851ea5f5d8a44ffce14cd71d655d27ca8e633371"), looks := false }, kinds := [], alts := [], laidByText := true, laidKinds := [.data, .data, .data], laidTests := true, laidLooks := .later }
def TableTellsUptoCardSaid : Prop := Claim7.holds Tryd.pinned (.plain (OpenSpec.upto tableTellsSpec)) tableTellsUptoCard

/-- THE SECOND FORM's CARD OF 'backstaylaw08.TableKeeps'. -/
def tableKeepsUptoCard : Claim7 := { stood := { row := tableKeepsUptoRow, standIns := [], harness := (true, "600be0196d1509b20a66bf5e851ea5f5d8a44ffce14cd71d655d27ca8e633371"), looks := false }, kinds := [], alts := [], laidByText := true, laidKinds := [.data, .data, .data], laidTests := true, laidLooks := .later }
def TableKeepsUptoCardSaid : Prop := Claim7.holds Tryd.pinned (.plain (OpenSpec.upto tableKeepsSpec)) tableKeepsUptoCard

/-- THE SECOND FORM's CARD OF 'backstaylaw08.TableRoom'. -/
def tableRoomUptoCard : Claim7 := { stood := { row := tableRoomUptoRow, standIns := [], harness := (true, "600be0196d1509b20a66bf5e851ea5f5d8a44ffce14cd71d655d27ca8e633371"), looks := false }, kinds := [], alts := [], laidByText := true, laidKinds := [.data, .data, .data], laidTests := true, laidLooks := .later }
def TableRoomUptoCardSaid : Prop := Claim7.holds Tryd.pinned (.plain (OpenSpec.upto tableRoomSpec)) tableRoomUptoCard

/-- THE SECOND FORM's CARD OF 'backstaylaw08.TableOrder'. -/
def tableOrderUptoCard : Claim7 := { stood := { row := tableOrderUptoRow, standIns := [], harness := (true, "600be0196d1509b20a66bf5e851ea5f5d8a44ffce14cd71d655d27ca8e633371"), looks := false }, kinds := [], alts := [], laidByText := true, laidKinds := [.data, .data, .data], laidTests := true, laidLooks := .later }
def TableOrderUptoCardSaid : Prop := Claim7.holds Tryd.pinned (.plain (OpenSpec.upto tableOrderSpec)) tableOrderUptoCard

/-- THE SECOND FORM's CARD OF 'backstaylaw08.TableApart'. -/
def tableApartUptoCard : Claim7 := { stood := { row := tableApartUptoRow, standIns := [], harness := (true, "600be0196d1509b20a66bf5e851ea5f5d8a44ffce14cd71d655d27ca8e633371"), looks := false }, kinds := [], alts := [], laidByText := true, laidKinds := [.data, .data, .data], laidTests := true, laidLooks := .later }
def TableApartUptoCardSaid : Prop := Claim7.holds Tryd.pinned (.plain (OpenSpec.upto tableApartSpec)) tableApartUptoCard
end Rows
end Go.Proofs.YtjdnkbpclhldfaaDoor
