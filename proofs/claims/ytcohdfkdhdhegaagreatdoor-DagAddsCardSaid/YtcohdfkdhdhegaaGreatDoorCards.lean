/-
  DERIVED. GIVEN WITH THE SEED: THE CARDS: each row of YtcohdfkdhdhegaaGreatDoorRows.lean that lists a variable, with what it lists TIED to the program's text (the seventh form; the later family's looks); each row that meets fmt, with fmt's text TOLD by the authors' own Lean function (tested against real Go, not proved from fmt's source: count such statements apart). THE CARD IS WHAT COUNTS. Prove the row's statement (the work); the ties are given (YtcohdfkdhdhegaaGreatDoorTie.lean); close each card by the builder's one call (the guide's Derived/Test/ToyasCard.lean, 'card_holds'). Laid BY PROGRAM, IN A SANDBOX (cutbox-door.mjs). By AI agents, Wed Nov 11 2026. No macro, syntax, notation, axiom, sorry.
-/
import Derived.Test.YtcohdfkdhdhegaaGreatDoorRows
import GoSem.ClaimSeven
namespace Go.Proofs.YtcohdfkdhdhegaaGreatDoor
namespace Rows

/-- THE TIED CARD OF 'coxswainlaw13.DagAdds'. -/
def dagAddsCard : Claim7 := { stood := { row := dagAddsRow, standIns := [], harness := (true, "d397f8b45dd5f12bc5c665b517c12eb4e52ecc4ba2d114b6d4878038478b17eb"), looks := true }, kinds := [], alts := [], laidByText := true, laidKinds := [.data, .data], laidTests := true, laidLooks := .later }
def DagAddsCardSaid : Prop := Claim7.holds Tryz.pinned (.plain (OpenSpec.ofChange dagAddsSpec)) dagAddsCard

/-- THE TIED CARD OF 'coxswainlaw13.DagTipsets'. -/
def dagTipsetsCard : Claim7 := { stood := { row := dagTipsetsRow, standIns := [], harness := (true, "d397f8b45dd5f12bc5c665b517c12eb4e52ecc4ba2d114b6d4878038478b17eb"), looks := true }, kinds := [], alts := [], laidByText := true, laidKinds := [.data, .data], laidTests := true, laidLooks := .later }
def DagTipsetsCardSaid : Prop := Claim7.holds Tryz.pinned (.plain (OpenSpec.ofChange dagTipsetsSpec)) dagTipsetsCard

/-- THE TIED CARD OF 'coxswainlaw13.DagClosed'. -/
def dagClosedCard : Claim7 := { stood := { row := dagClosedRow, standIns := [], harness := (true, "d397f8b45dd5f12bc5c665b517c12eb4e52ecc4ba2d114b6d4878038478b17eb"), looks := true }, kinds := [], alts := [], laidByText := true, laidKinds := [.data, .data], laidTests := true, laidLooks := .later }
def DagClosedCardSaid : Prop := Claim7.holds Tryz.pinned (.plain (OpenSpec.ofChange dagClosedSpec)) dagClosedCard

/-- THE TIED CARD OF 'coxswainlaw18.MarkFloors'. -/
def markFloorsCard : Claim7 := { stood := { row := markFloorsRow, standIns := [], harness := (true, "d397f8b45dd5f12bc5c665b517c12eb4e52ecc4ba2d114b6d4878038478b17eb"), looks := true }, kinds := [], alts := [], laidByText := true, laidKinds := [.data, .data], laidTests := true, laidLooks := .later }
def MarkFloorsCardSaid : Prop := Claim7.holds Tryz.pinned (.plain (OpenSpec.ofChange markFloorsSpec)) markFloorsCard

/-- THE TIED CARD OF 'coxswainlaw18.MarkPoints'. -/
def markPointsCard : Claim7 := { stood := { row := markPointsRow, standIns := [], harness := (true, "d397f8b45dd5f12bc5c665b517c12eb4e52ecc4ba2d114b6d4878038478b17eb"), looks := true }, kinds := [], alts := [], laidByText := true, laidKinds := [.data, .data], laidTests := true, laidLooks := .later }
def MarkPointsCardSaid : Prop := Claim7.holds Tryz.pinned (.plain (OpenSpec.ofChange markPointsSpec)) markPointsCard

/-- THE TIED CARD OF 'coxswainlaw14.PathHeights'. -/
def pathHeightsCard : Claim7 := { stood := { row := pathHeightsRow, standIns := [], harness := (true, "d397f8b45dd5f12bc5c665b517c12eb4e52ecc4ba2d114b6d4878038478b17eb"), looks := true }, kinds := [], alts := [], laidByText := true, laidKinds := [.data, .data], laidTests := true, laidLooks := .later }
def PathHeightsCardSaid : Prop := Claim7.holds Tryz.pinned (.plain (OpenSpec.ofChange pathHeightsSpec)) pathHeightsCard

/-- THE TIED CARD OF 'coxswainlaw14.PathWalks'. -/
def pathWalksCard : Claim7 := { stood := { row := pathWalksRow, standIns := [], harness := (true, "d397f8b45dd5f12bc5c665b517c12eb4e52ecc4ba2d114b6d4878038478b17eb"), looks := true }, kinds := [], alts := [], laidByText := true, laidKinds := [.data, .data], laidTests := true, laidLooks := .later }
def PathWalksCardSaid : Prop := Claim7.holds Tryz.pinned (.plain (OpenSpec.ofChange pathWalksSpec)) pathWalksCard

/-- THE TIED CARD OF 'coxswainlaw14.PathThree'. -/
def pathThreeCard : Claim7 := { stood := { row := pathThreeRow, standIns := [], harness := (true, "d397f8b45dd5f12bc5c665b517c12eb4e52ecc4ba2d114b6d4878038478b17eb"), looks := true }, kinds := [], alts := [], laidByText := true, laidKinds := [.data, .data], laidTests := true, laidLooks := .later }
def PathThreeCardSaid : Prop := Claim7.holds Tryz.pinned (.plain (OpenSpec.ofChange pathThreeSpec)) pathThreeCard

/-- THE TIED CARD OF 'coxswainlaw14.PathTwo'. -/
def pathTwoCard : Claim7 := { stood := { row := pathTwoRow, standIns := [], harness := (true, "d397f8b45dd5f12bc5c665b517c12eb4e52ecc4ba2d114b6d4878038478b17eb"), looks := true }, kinds := [], alts := [], laidByText := true, laidKinds := [.data, .data], laidTests := true, laidLooks := .later }
def PathTwoCardSaid : Prop := Claim7.holds Tryz.pinned (.plain (OpenSpec.ofChange pathTwoSpec)) pathTwoCard

/-- THE TIED CARD OF 'coxswainlaw23.FeedHubs'. -/
def feedHubsCard : Claim7 := { stood := { row := feedHubsRow, standIns := [], harness := (true, "d397f8b45dd5f12bc5c665b517c12eb4e52ecc4ba2d114b6d4878038478b17eb"), looks := true }, kinds := [], alts := [], laidByText := true, laidKinds := [.data, .data], laidTests := true, laidLooks := .later }
def FeedHubsCardSaid : Prop := Claim7.holds Tryz.pinned (.plain (OpenSpec.ofChange feedHubsSpec)) feedHubsCard

/-- THE SECOND FORM's CARD OF 'coxswainlaw13.DagAdds'. -/
def dagAddsUptoCard : Claim7 := { stood := { row := dagAddsUptoRow, standIns := [], harness := (true, "d397f8b45dd5f12bc5c665b517c12eb4e52ecc4ba2d114b6d4878038478b17eb"), looks := true }, kinds := [], alts := [], laidByText := true, laidKinds := [.data, .data], laidTests := true, laidLooks := .later }
def DagAddsUptoCardSaid : Prop := Claim7.holds Tryz.pinned (.plain (OpenSpec.upto dagAddsSpec)) dagAddsUptoCard

/-- THE SECOND FORM's CARD OF 'coxswainlaw13.DagTipsets'. -/
def dagTipsetsUptoCard : Claim7 := { stood := { row := dagTipsetsUptoRow, standIns := [], harness := (true, "d397f8b45dd5f12bc5c665b517c12eb4e52ecc4ba2d114b6d4878038478b17eb"), looks := true }, kinds := [], alts := [], laidByText := true, laidKinds := [.data, .data], laidTests := true, laidLooks := .later }
def DagTipsetsUptoCardSaid : Prop := Claim7.holds Tryz.pinned (.plain (OpenSpec.upto dagTipsetsSpec)) dagTipsetsUptoCard

/-- THE SECOND FORM's CARD OF 'coxswainlaw13.DagClosed'. -/
def dagClosedUptoCard : Claim7 := { stood := { row := dagClosedUptoRow, standIns := [], harness := (true, "d397f8b45dd5f12bc5c665b517c12eb4e52ecc4ba2d114b6d4878038478b17eb"), looks := true }, kinds := [], alts := [], laidByText := true, laidKinds := [.data, .data], laidTests := true, laidLooks := .later }
def DagClosedUptoCardSaid : Prop := Claim7.holds Tryz.pinned (.plain (OpenSpec.upto dagClosedSpec)) dagClosedUptoCard

/-- THE SECOND FORM's CARD OF 'coxswainlaw18.MarkFloors'. -/
def markFloorsUptoCard : Claim7 := { stood := { row := markFloorsUptoRow, standIns := [], harness := (true, "d397f8b45dd5f12bc5c665b517c12eb4e52ecc4ba2d114b6d4878038478b17eb"), looks := true }, kinds := [], alts := [], laidByText := true, laidKinds := [.data, .data], laidTests := true, laidLooks := .later }
def MarkFloorsUptoCardSaid : Prop := Claim7.holds Tryz.pinned (.plain (OpenSpec.upto markFloorsSpec)) markFloorsUptoCard

/-- THE SECOND FORM's CARD OF 'coxswainlaw18.MarkPoints'. -/
def markPointsUptoCard : Claim7 := { stood := { row := markPointsUptoRow, standIns := [], harness := (true, "d397f8b45dd5f12bc5c665b517c12eb4e52ecc4ba2d114b6d4878038478b17eb"), looks := true }, kinds := [], alts := [], laidByText := true, laidKinds := [.data, .data], laidTests := true, laidLooks := .later }
def MarkPointsUptoCardSaid : Prop := Claim7.holds Tryz.pinned (.plain (OpenSpec.upto markPointsSpec)) markPointsUptoCard

/-- THE SECOND FORM's CARD OF 'coxswainlaw14.PathHeights'. -/
def pathHeightsUptoCard : Claim7 := { stood := { row := pathHeightsUptoRow, standIns := [], harness := (true, "d397f8b45dd5f12bc5c665b517c12eb4e52ecc4ba2d114b6d4878038478b17eb"), looks := true }, kinds := [], alts := [], laidByText := true, laidKinds := [.data, .data], laidTests := true, laidLooks := .later }
def PathHeightsUptoCardSaid : Prop := Claim7.holds Tryz.pinned (.plain (OpenSpec.upto pathHeightsSpec)) pathHeightsUptoCard

/-- THE SECOND FORM's CARD OF 'coxswainlaw14.PathWalks'. -/
def pathWalksUptoCard : Claim7 := { stood := { row := pathWalksUptoRow, standIns := [], harness := (true, "d397f8b45dd5f12bc5c665b517c12eb4e52ecc4ba2d114b6d4878038478b17eb"), looks := true }, kinds := [], alts := [], laidByText := true, laidKinds := [.data, .data], laidTests := true, laidLooks := .later }
def PathWalksUptoCardSaid : Prop := Claim7.holds Tryz.pinned (.plain (OpenSpec.upto pathWalksSpec)) pathWalksUptoCard

/-- THE SECOND FORM's CARD OF 'coxswainlaw14.PathThree'. -/
def pathThreeUptoCard : Claim7 := { stood := { row := pathThreeUptoRow, standIns := [], harness := (true, "d397f8b45dd5f12bc5c665b517c12eb4e52ecc4ba2d114b6d4878038478b17eb"), looks := true }, kinds := [], alts := [], laidByText := true, laidKinds := [.data, .data], laidTests := true, laidLooks := .later }
def PathThreeUptoCardSaid : Prop := Claim7.holds Tryz.pinned (.plain (OpenSpec.upto pathThreeSpec)) pathThreeUptoCard

/-- THE SECOND FORM's CARD OF 'coxswainlaw14.PathTwo'. -/
def pathTwoUptoCard : Claim7 := { stood := { row := pathTwoUptoRow, standIns := [], harness := (true, "d397f8b45dd5f12bc5c665b517c12eb4e52ecc4ba2d114b6d4878038478b17eb"), looks := true }, kinds := [], alts := [], laidByText := true, laidKinds := [.data, .data], laidTests := true, laidLooks := .later }
def PathTwoUptoCardSaid : Prop := Claim7.holds Tryz.pinned (.plain (OpenSpec.upto pathTwoSpec)) pathTwoUptoCard

/-- THE SECOND FORM's CARD OF 'coxswainlaw23.FeedHubs'. -/
def feedHubsUptoCard : Claim7 := { stood := { row := feedHubsUptoRow, standIns := [], harness := (true, "d397f8b45dd5f12bc5c665b517c12eb4e52ecc4ba2d114b6d4878038478b17eb"), looks := true }, kinds := [], alts := [], laidByText := true, laidKinds := [.data, .data], laidTests := true, laidLooks := .later }
def FeedHubsUptoCardSaid : Prop := Claim7.holds Tryz.pinned (.plain (OpenSpec.upto feedHubsSpec)) feedHubsUptoCard
end Rows
end Go.Proofs.YtcohdfkdhdhegaaGreatDoor
