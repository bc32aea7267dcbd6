/-
  DERIVED. GIVEN WITH THE SEED: THE CARDS: each row of YtpehmlfghddnaaaGreatDoorRows.lean that lists a variable, with what it lists TIED to the program's text (the seventh form; the later family's looks); each row that meets fmt, with fmt's text TOLD by the authors' own Lean function (tested against real Go, not proved from fmt's source: count such statements apart). THE CARD IS WHAT COUNTS. Prove the row's statement (the work); the ties are given (YtpehmlfghddnaaaGreatDoorTie.lean); close each card by the builder's one call (the guide's Derived/Test/ToyasCard.lean, 'card_holds'). Laid BY PROGRAM, IN A SANDBOX (cutbox-door.mjs). By AI agents, Wed Nov 11 2026. No macro, syntax, notation, axiom, sorry.
-/
import Derived.Test.YtpehmlfghddnaaaGreatDoorRows
import GoSem.ClaimSeven
namespace Go.Proofs.YtpehmlfghddnaaaGreatDoor
namespace Rows

/-- THE TIED CARD OF 'coxswainlaw08.TipsetOrder'. -/
def tipsetOrderCard : Claim7 := { stood := { row := tipsetOrderRow, standIns := [], harness := (true, "951be2ec7fea0f3db2d85f705be2658fdd72b416739b1184567e533fc066b7e1"), looks := true }, kinds := [], alts := [], laidByText := true, laidKinds := [.data, .data], laidTests := true, laidLooks := .later }
def TipsetOrderCardSaid : Prop := Claim7.holds Tryz.pinned (.plain (OpenSpec.ofChange tipsetOrderSpec)) tipsetOrderCard

/-- THE TIED CARD OF 'coxswainlaw13.DagGrows'. -/
def dagGrowsCard : Claim7 := { stood := { row := dagGrowsRow, standIns := [], harness := (true, "951be2ec7fea0f3db2d85f705be2658fdd72b416739b1184567e533fc066b7e1"), looks := true }, kinds := [], alts := [], laidByText := true, laidKinds := [.data, .data], laidTests := true, laidLooks := .later }
def DagGrowsCardSaid : Prop := Claim7.holds Tryz.pinned (.plain (OpenSpec.ofChange dagGrowsSpec)) dagGrowsCard

/-- THE TIED CARD OF 'coxswainlaw13.DagAdds'. -/
def dagAddsCard : Claim7 := { stood := { row := dagAddsRow, standIns := [], harness := (true, "951be2ec7fea0f3db2d85f705be2658fdd72b416739b1184567e533fc066b7e1"), looks := true }, kinds := [], alts := [], laidByText := true, laidKinds := [.data, .data], laidTests := true, laidLooks := .later }
def DagAddsCardSaid : Prop := Claim7.holds Tryz.pinned (.plain (OpenSpec.ofChange dagAddsSpec)) dagAddsCard

/-- THE TIED CARD OF 'coxswainlaw13.DagTipsets'. -/
def dagTipsetsCard : Claim7 := { stood := { row := dagTipsetsRow, standIns := [], harness := (true, "951be2ec7fea0f3db2d85f705be2658fdd72b416739b1184567e533fc066b7e1"), looks := true }, kinds := [], alts := [], laidByText := true, laidKinds := [.data, .data], laidTests := true, laidLooks := .later }
def DagTipsetsCardSaid : Prop := Claim7.holds Tryz.pinned (.plain (OpenSpec.ofChange dagTipsetsSpec)) dagTipsetsCard

/-- THE TIED CARD OF 'coxswainlaw13.DagClosed'. -/
def dagClosedCard : Claim7 := { stood := { row := dagClosedRow, standIns := [], harness := (true, "951be2ec7fea0f3db2d85f705be2658fdd72b416739b1184567e533fc066b7e1"), looks := true }, kinds := [], alts := [], laidByText := true, laidKinds := [.data, .data], laidTests := true, laidLooks := .later }
def DagClosedCardSaid : Prop := Claim7.holds Tryz.pinned (.plain (OpenSpec.ofChange dagClosedSpec)) dagClosedCard

/-- THE TIED CARD OF 'coxswainlaw18.MarkFloors'. -/
def markFloorsCard : Claim7 := { stood := { row := markFloorsRow, standIns := [], harness := (true, "951be2ec7fea0f3db2d85f705be2658fdd72b416739b1184567e533fc066b7e1"), looks := true }, kinds := [], alts := [], laidByText := true, laidKinds := [.data, .data], laidTests := true, laidLooks := .later }
def MarkFloorsCardSaid : Prop := Claim7.holds Tryz.pinned (.plain (OpenSpec.ofChange markFloorsSpec)) markFloorsCard

/-- THE TIED CARD OF 'coxswainlaw18.MarkPoints'. -/
def markPointsCard : Claim7 := { stood := { row := markPointsRow, standIns := [], harness := (true, "951be2ec7fea0f3db2d85f705be2658fdd72b416739b1184567e533fc066b7e1"), looks := true }, kinds := [], alts := [], laidByText := true, laidKinds := [.data, .data], laidTests := true, laidLooks := .later }
def MarkPointsCardSaid : Prop := Claim7.holds Tryz.pinned (.plain (OpenSpec.ofChange markPointsSpec)) markPointsCard

/-- THE TIED CARD OF 'coxswainlaw23.FeedPushes'. -/
def feedPushesCard : Claim7 := { stood := { row := feedPushesRow, standIns := [], harness := (true, "951be2ec7fea0f3db2d85f705be2658fdd72b416739b1184567e533fc066b7e1"), looks := true }, kinds := [], alts := [], laidByText := true, laidKinds := [.data, .data], laidTests := true, laidLooks := .later }
def FeedPushesCardSaid : Prop := Claim7.holds Tryz.pinned (.plain (OpenSpec.ofChange feedPushesSpec)) feedPushesCard

/-- THE TIED CARD OF 'coxswainlaw23.FeedOverflows'. -/
def feedOverflowsCard : Claim7 := { stood := { row := feedOverflowsRow, standIns := [], harness := (true, "951be2ec7fea0f3db2d85f705be2658fdd72b416739b1184567e533fc066b7e1"), looks := true }, kinds := [], alts := [], laidByText := true, laidKinds := [.data, .data], laidTests := true, laidLooks := .later }
def FeedOverflowsCardSaid : Prop := Claim7.holds Tryz.pinned (.plain (OpenSpec.ofChange feedOverflowsSpec)) feedOverflowsCard

/-- THE TIED CARD OF 'coxswainlaw23.FeedRefuses'. -/
def feedRefusesCard : Claim7 := { stood := { row := feedRefusesRow, standIns := [], harness := (true, "951be2ec7fea0f3db2d85f705be2658fdd72b416739b1184567e533fc066b7e1"), looks := true }, kinds := [], alts := [], laidByText := true, laidKinds := [.data, .data], laidTests := true, laidLooks := .later }
def FeedRefusesCardSaid : Prop := Claim7.holds Tryz.pinned (.plain (OpenSpec.ofChange feedRefusesSpec)) feedRefusesCard

/-- THE TIED CARD OF 'coxswainlaw23.FeedFolds'. -/
def feedFoldsCard : Claim7 := { stood := { row := feedFoldsRow, standIns := [], harness := (true, "951be2ec7fea0f3db2d85f705be2658fdd72b416739b1184567e533fc066b7e1"), looks := true }, kinds := [], alts := [], laidByText := true, laidKinds := [.data, .data], laidTests := true, laidLooks := .later }
def FeedFoldsCardSaid : Prop := Claim7.holds Tryz.pinned (.plain (OpenSpec.ofChange feedFoldsSpec)) feedFoldsCard

/-- THE TIED CARD OF 'coxswainlaw14.PathHeights'. -/
def pathHeightsCard : Claim7 := { stood := { row := pathHeightsRow, standIns := [], harness := (true, "951be2ec7fea0f3db2d85f705be2658fdd72b416739b1184567e533fc066b7e1"), looks := true }, kinds := [], alts := [], laidByText := true, laidKinds := [.data, .data], laidTests := true, laidLooks := .later }
def PathHeightsCardSaid : Prop := Claim7.holds Tryz.pinned (.plain (OpenSpec.ofChange pathHeightsSpec)) pathHeightsCard

/-- THE TIED CARD OF 'coxswainlaw14.PathWalks'. -/
def pathWalksCard : Claim7 := { stood := { row := pathWalksRow, standIns := [], harness := (true, "951be2ec7fea0f3db2d85f705be2658fdd72b416739b1184567e533fc066b7e1"), looks := true }, kinds := [], alts := [], laidByText := true, laidKinds := [.data, .data], laidTests := true, laidLooks := .later }
def PathWalksCardSaid : Prop := Claim7.holds Tryz.pinned (.plain (OpenSpec.ofChange pathWalksSpec)) pathWalksCard

/-- THE TIED CARD OF 'coxswainlaw14.PathThree'. -/
def pathThreeCard : Claim7 := { stood := { row := pathThreeRow, standIns := [], harness := (true, "951be2ec7fea0f3db2d85f705be2658fdd72b416739b1184567e533fc066b7e1"), looks := true }, kinds := [], alts := [], laidByText := true, laidKinds := [.data, .data], laidTests := true, laidLooks := .later }
def PathThreeCardSaid : Prop := Claim7.holds Tryz.pinned (.plain (OpenSpec.ofChange pathThreeSpec)) pathThreeCard

/-- THE TIED CARD OF 'coxswainlaw14.PathTwo'. -/
def pathTwoCard : Claim7 := { stood := { row := pathTwoRow, standIns := [], harness := (true, "951be2ec7fea0f3db2d85f705be2658fdd72b416739b1184567e533fc066b7e1"), looks := true }, kinds := [], alts := [], laidByText := true, laidKinds := [.data, .data], laidTests := true, laidLooks := .later }
def PathTwoCardSaid : Prop := Claim7.holds Tryz.pinned (.plain (OpenSpec.ofChange pathTwoSpec)) pathTwoCard

/-- THE TIED CARD OF 'coxswainlaw14.PathWeights'. -/
def pathWeightsCard : Claim7 := { stood := { row := pathWeightsRow, standIns := [], harness := (true, "951be2ec7fea0f3db2d85f705be2658fdd72b416739b1184567e533fc066b7e1"), looks := true }, kinds := [], alts := [], laidByText := true, laidKinds := [.data, .data], laidTests := true, laidLooks := .later }
def PathWeightsCardSaid : Prop := Claim7.holds Tryz.pinned (.plain (OpenSpec.ofChange pathWeightsSpec)) pathWeightsCard

/-- THE TIED CARD OF 'coxswainlaw19.ChoiceBest'. -/
def choiceBestCard : Claim7 := { stood := { row := choiceBestRow, standIns := [], harness := (true, "951be2ec7fea0f3db2d85f705be2658fdd72b416739b1184567e533fc066b7e1"), looks := true }, kinds := [], alts := [], laidByText := true, laidKinds := [.data, .data], laidTests := true, laidLooks := .later }
def ChoiceBestCardSaid : Prop := Claim7.holds Tryz.pinned (.plain (OpenSpec.ofChange choiceBestSpec)) choiceBestCard

/-- THE TIED CARD OF 'coxswainlaw19.ChoiceOrder'. -/
def choiceOrderCard : Claim7 := { stood := { row := choiceOrderRow, standIns := [], harness := (true, "951be2ec7fea0f3db2d85f705be2658fdd72b416739b1184567e533fc066b7e1"), looks := true }, kinds := [], alts := [], laidByText := true, laidKinds := [.data, .data], laidTests := true, laidLooks := .later }
def ChoiceOrderCardSaid : Prop := Claim7.holds Tryz.pinned (.plain (OpenSpec.ofChange choiceOrderSpec)) choiceOrderCard

/-- THE TIED CARD OF 'coxswainlaw19.ChoiceRises'. -/
def choiceRisesCard : Claim7 := { stood := { row := choiceRisesRow, standIns := [], harness := (true, "951be2ec7fea0f3db2d85f705be2658fdd72b416739b1184567e533fc066b7e1"), looks := true }, kinds := [], alts := [], laidByText := true, laidKinds := [.data, .data], laidTests := true, laidLooks := .later }
def ChoiceRisesCardSaid : Prop := Claim7.holds Tryz.pinned (.plain (OpenSpec.ofChange choiceRisesSpec)) choiceRisesCard

/-- THE TIED CARD OF 'coxswainlaw19.ChoiceMost'. -/
def choiceMostCard : Claim7 := { stood := { row := choiceMostRow, standIns := [], harness := (true, "951be2ec7fea0f3db2d85f705be2658fdd72b416739b1184567e533fc066b7e1"), looks := true }, kinds := [], alts := [], laidByText := true, laidKinds := [.data, .data], laidTests := true, laidLooks := .later }
def ChoiceMostCardSaid : Prop := Claim7.holds Tryz.pinned (.plain (OpenSpec.ofChange choiceMostSpec)) choiceMostCard

/-- THE TIED CARD OF 'coxswainlaw23.FeedHubs'. -/
def feedHubsCard : Claim7 := { stood := { row := feedHubsRow, standIns := [], harness := (true, "951be2ec7fea0f3db2d85f705be2658fdd72b416739b1184567e533fc066b7e1"), looks := true }, kinds := [], alts := [], laidByText := true, laidKinds := [.data, .data], laidTests := true, laidLooks := .later }
def FeedHubsCardSaid : Prop := Claim7.holds Tryz.pinned (.plain (OpenSpec.ofChange feedHubsSpec)) feedHubsCard

/-- THE SECOND FORM's CARD OF 'coxswainlaw08.TipsetOrder'. -/
def tipsetOrderUptoCard : Claim7 := { stood := { row := tipsetOrderUptoRow, standIns := [], harness := (true, "951be2ec7fea0f3db2d85f705be2658fdd72b416739b1184567e533fc066b7e1"), looks := true }, kinds := [], alts := [], laidByText := true, laidKinds := [.data, .data], laidTests := true, laidLooks := .later }
def TipsetOrderUptoCardSaid : Prop := Claim7.holds Tryz.pinned (.plain (OpenSpec.upto tipsetOrderSpec)) tipsetOrderUptoCard

/-- THE SECOND FORM's CARD OF 'coxswainlaw13.DagGrows'. -/
def dagGrowsUptoCard : Claim7 := { stood := { row := dagGrowsUptoRow, standIns := [], harness := (true, "951be2ec7fea0f3db2d85f705be2658fdd72b416739b1184567e533fc066b7e1"), looks := true }, kinds := [], alts := [], laidByText := true, laidKinds := [.data, .data], laidTests := true, laidLooks := .later }
def DagGrowsUptoCardSaid : Prop := Claim7.holds Tryz.pinned (.plain (OpenSpec.upto dagGrowsSpec)) dagGrowsUptoCard

/-- THE SECOND FORM's CARD OF 'coxswainlaw13.DagAdds'. -/
def dagAddsUptoCard : Claim7 := { stood := { row := dagAddsUptoRow, standIns := [], harness := (true, "951be2ec7fea0f3db2d85f705be2658fdd72b416739b1184567e533fc066b7e1"), looks := true }, kinds := [], alts := [], laidByText := true, laidKinds := [.data, .data], laidTests := true, laidLooks := .later }
def DagAddsUptoCardSaid : Prop := Claim7.holds Tryz.pinned (.plain (OpenSpec.upto dagAddsSpec)) dagAddsUptoCard

/-- THE SECOND FORM's CARD OF 'coxswainlaw13.DagTipsets'. -/
def dagTipsetsUptoCard : Claim7 := { stood := { row := dagTipsetsUptoRow, standIns := [], harness := (true, "951be2ec7fea0f3db2d85f705be2658fdd72b416739b1184567e533fc066b7e1"), looks := true }, kinds := [], alts := [], laidByText := true, laidKinds := [.data, .data], laidTests := true, laidLooks := .later }
def DagTipsetsUptoCardSaid : Prop := Claim7.holds Tryz.pinned (.plain (OpenSpec.upto dagTipsetsSpec)) dagTipsetsUptoCard

/-- THE SECOND FORM's CARD OF 'coxswainlaw13.DagClosed'. -/
def dagClosedUptoCard : Claim7 := { stood := { row := dagClosedUptoRow, standIns := [], harness := (true, "951be2ec7fea0f3db2d85f705be2658fdd72b416739b1184567e533fc066b7e1"), looks := true }, kinds := [], alts := [], laidByText := true, laidKinds := [.data, .data], laidTests := true, laidLooks := .later }
def DagClosedUptoCardSaid : Prop := Claim7.holds Tryz.pinned (.plain (OpenSpec.upto dagClosedSpec)) dagClosedUptoCard

/-- THE SECOND FORM's CARD OF 'coxswainlaw18.MarkFloors'. -/
def markFloorsUptoCard : Claim7 := { stood := { row := markFloorsUptoRow, standIns := [], harness := (true, "951be2ec7fea0f3db2d85f705be2658fdd72b416739b1184567e533fc066b7e1"), looks := true }, kinds := [], alts := [], laidByText := true, laidKinds := [.data, .data], laidTests := true, laidLooks := .later }
def MarkFloorsUptoCardSaid : Prop := Claim7.holds Tryz.pinned (.plain (OpenSpec.upto markFloorsSpec)) markFloorsUptoCard

/-- THE SECOND FORM's CARD OF 'coxswainlaw18.MarkPoints'. -/
def markPointsUptoCard : Claim7 := { stood := { row := markPointsUptoRow, standIns := [], harness := (true, "951be2ec7fea0f3db2d85f705be2658fdd72b416739b1184567e533fc066b7e1"), looks := true }, kinds := [], alts := [], laidByText := true, laidKinds := [.data, .data], laidTests := true, laidLooks := .later }
def MarkPointsUptoCardSaid : Prop := Claim7.holds Tryz.pinned (.plain (OpenSpec.upto markPointsSpec)) markPointsUptoCard

/-- THE SECOND FORM's CARD OF 'coxswainlaw23.FeedPushes'. -/
def feedPushesUptoCard : Claim7 := { stood := { row := feedPushesUptoRow, standIns := [], harness := (true, "951be2ec7fea0f3db2d85f705be2658fdd72b416739b1184567e533fc066b7e1"), looks := true }, kinds := [], alts := [], laidByText := true, laidKinds := [.data, .data], laidTests := true, laidLooks := .later }
def FeedPushesUptoCardSaid : Prop := Claim7.holds Tryz.pinned (.plain (OpenSpec.upto feedPushesSpec)) feedPushesUptoCard

/-- THE SECOND FORM's CARD OF 'coxswainlaw23.FeedOverflows'. -/
def feedOverflowsUptoCard : Claim7 := { stood := { row := feedOverflowsUptoRow, standIns := [], harness := (true, "951be2ec7fea0f3db2d85f705be2658fdd72b416739b1184567e533fc066b7e1"), looks := true }, kinds := [], alts := [], laidByText := true, laidKinds := [.data, .data], laidTests := true, laidLooks := .later }
def FeedOverflowsUptoCardSaid : Prop := Claim7.holds Tryz.pinned (.plain (OpenSpec.upto feedOverflowsSpec)) feedOverflowsUptoCard

/-- THE SECOND FORM's CARD OF 'coxswainlaw23.FeedRefuses'. -/
def feedRefusesUptoCard : Claim7 := { stood := { row := feedRefusesUptoRow, standIns := [], harness := (true, "951be2ec7fea0f3db2d85f705be2658fdd72b416739b1184567e533fc066b7e1"), looks := true }, kinds := [], alts := [], laidByText := true, laidKinds := [.data, .data], laidTests := true, laidLooks := .later }
def FeedRefusesUptoCardSaid : Prop := Claim7.holds Tryz.pinned (.plain (OpenSpec.upto feedRefusesSpec)) feedRefusesUptoCard

/-- THE SECOND FORM's CARD OF 'coxswainlaw23.FeedFolds'. -/
def feedFoldsUptoCard : Claim7 := { stood := { row := feedFoldsUptoRow, standIns := [], harness := (true, "951be2ec7fea0f3db2d85f705be2658fdd72b416739b1184567e533fc066b7e1"), looks := true }, kinds := [], alts := [], laidByText := true, laidKinds := [.data, .data], laidTests := true, laidLooks := .later }
def FeedFoldsUptoCardSaid : Prop := Claim7.holds Tryz.pinned (.plain (OpenSpec.upto feedFoldsSpec)) feedFoldsUptoCard

/-- THE SECOND FORM's CARD OF 'coxswainlaw14.PathHeights'. -/
def pathHeightsUptoCard : Claim7 := { stood := { row := pathHeightsUptoRow, standIns := [], harness := (true, "951be2ec7fea0f3db2d85f705be2658fdd72b416739b1184567e533fc066b7e1"), looks := true }, kinds := [], alts := [], laidByText := true, laidKinds := [.data, .data], laidTests := true, laidLooks := .later }
def PathHeightsUptoCardSaid : Prop := Claim7.holds Tryz.pinned (.plain (OpenSpec.upto pathHeightsSpec)) pathHeightsUptoCard

/-- THE SECOND FORM's CARD OF 'coxswainlaw14.PathWalks'. -/
def pathWalksUptoCard : Claim7 := { stood := { row := pathWalksUptoRow, standIns := [], harness := (true, "951be2ec7fea0f3db2d85f705be2658fdd72b416739b1184567e533fc066b7e1"), looks := true }, kinds := [], alts := [], laidByText := true, laidKinds := [.data, .data], laidTests := true, laidLooks := .later }
def PathWalksUptoCardSaid : Prop := Claim7.holds Tryz.pinned (.plain (OpenSpec.upto pathWalksSpec)) pathWalksUptoCard

/-- THE SECOND FORM's CARD OF 'coxswainlaw14.PathThree'. -/
def pathThreeUptoCard : Claim7 := { stood := { row := pathThreeUptoRow, standIns := [], harness := (true, "951be2ec7fea0f3db2d85f705be2658fdd72b416739b1184567e533fc066b7e1"), looks := true }, kinds := [], alts := [], laidByText := true, laidKinds := [.data, .data], laidTests := true, laidLooks := .later }
def PathThreeUptoCardSaid : Prop := Claim7.holds Tryz.pinned (.plain (OpenSpec.upto pathThreeSpec)) pathThreeUptoCard

/-- THE SECOND FORM's CARD OF 'coxswainlaw14.PathTwo'. -/
def pathTwoUptoCard : Claim7 := { stood := { row := pathTwoUptoRow, standIns := [], harness := (true, "951be2ec7fea0f3db2d85f705be2658fdd72b416739b1184567e533fc066b7e1"), looks := true }, kinds := [], alts := [], laidByText := true, laidKinds := [.data, .data], laidTests := true, laidLooks := .later }
def PathTwoUptoCardSaid : Prop := Claim7.holds Tryz.pinned (.plain (OpenSpec.upto pathTwoSpec)) pathTwoUptoCard

/-- THE SECOND FORM's CARD OF 'coxswainlaw14.PathWeights'. -/
def pathWeightsUptoCard : Claim7 := { stood := { row := pathWeightsUptoRow, standIns := [], harness := (true, "951be2ec7fea0f3db2d85f705be2658fdd72b416739b1184567e533fc066b7e1"), looks := true }, kinds := [], alts := [], laidByText := true, laidKinds := [.data, .data], laidTests := true, laidLooks := .later }
def PathWeightsUptoCardSaid : Prop := Claim7.holds Tryz.pinned (.plain (OpenSpec.upto pathWeightsSpec)) pathWeightsUptoCard

/-- THE SECOND FORM's CARD OF 'coxswainlaw19.ChoiceBest'. -/
def choiceBestUptoCard : Claim7 := { stood := { row := choiceBestUptoRow, standIns := [], harness := (true, "951be2ec7fea0f3db2d85f705be2658fdd72b416739b1184567e533fc066b7e1"), looks := true }, kinds := [], alts := [], laidByText := true, laidKinds := [.data, .data], laidTests := true, laidLooks := .later }
def ChoiceBestUptoCardSaid : Prop := Claim7.holds Tryz.pinned (.plain (OpenSpec.upto choiceBestSpec)) choiceBestUptoCard

/-- THE SECOND FORM's CARD OF 'coxswainlaw19.ChoiceOrder'. -/
def choiceOrderUptoCard : Claim7 := { stood := { row := choiceOrderUptoRow, standIns := [], harness := (true, "951be2ec7fea0f3db2d85f705be2658fdd72b416739b1184567e533fc066b7e1"), looks := true }, kinds := [], alts := [], laidByText := true, laidKinds := [.data, .data], laidTests := true, laidLooks := .later }
def ChoiceOrderUptoCardSaid : Prop := Claim7.holds Tryz.pinned (.plain (OpenSpec.upto choiceOrderSpec)) choiceOrderUptoCard

/-- THE SECOND FORM's CARD OF 'coxswainlaw19.ChoiceRises'. -/
def choiceRisesUptoCard : Claim7 := { stood := { row := choiceRisesUptoRow, standIns := [], harness := (true, "951be2ec7fea0f3db2d85f705be2658fdd72b416739b1184567e533fc066b7e1"), looks := true }, kinds := [], alts := [], laidByText := true, laidKinds := [.data, .data], laidTests := true, laidLooks := .later }
def ChoiceRisesUptoCardSaid : Prop := Claim7.holds Tryz.pinned (.plain (OpenSpec.upto choiceRisesSpec)) choiceRisesUptoCard

/-- THE SECOND FORM's CARD OF 'coxswainlaw19.ChoiceMost'. -/
def choiceMostUptoCard : Claim7 := { stood := { row := choiceMostUptoRow, standIns := [], harness := (true, "951be2ec7fea0f3db2d85f705be2658fdd72b416739b1184567e533fc066b7e1"), looks := true }, kinds := [], alts := [], laidByText := true, laidKinds := [.data, .data], laidTests := true, laidLooks := .later }
def ChoiceMostUptoCardSaid : Prop := Claim7.holds Tryz.pinned (.plain (OpenSpec.upto choiceMostSpec)) choiceMostUptoCard

/-- THE SECOND FORM's CARD OF 'coxswainlaw23.FeedHubs'. -/
def feedHubsUptoCard : Claim7 := { stood := { row := feedHubsUptoRow, standIns := [], harness := (true, "951be2ec7fea0f3db2d85f705be2658fdd72b416739b1184567e533fc066b7e1"), looks := true }, kinds := [], alts := [], laidByText := true, laidKinds := [.data, .data], laidTests := true, laidLooks := .later }
def FeedHubsUptoCardSaid : Prop := Claim7.holds Tryz.pinned (.plain (OpenSpec.upto feedHubsSpec)) feedHubsUptoCard
end Rows
end Go.Proofs.YtpehmlfghddnaaaGreatDoor
