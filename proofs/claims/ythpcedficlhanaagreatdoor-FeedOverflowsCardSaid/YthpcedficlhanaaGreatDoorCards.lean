/-
  DERIVED. GIVEN WITH THE SEED: THE CARDS: each row of YthpcedficlhanaaGreatDoorRows.lean that lists a variable, with what it lists TIED to the program's text (the seventh form; the later family's looks); each row that meets fmt, with fmt's text TOLD by the authors' own Lean function (tested against real Go, not proved from fmt's source: count such statements apart). THE CARD IS WHAT COUNTS. Prove the row's statement (the work); the ties are given (YthpcedficlhanaaGreatDoorTie.lean); close each card by the builder's one call (the guide's Derived/Test/ToyasCard.lean, 'card_holds'). Laid BY PROGRAM, IN A SANDBOX (cutbox-door.mjs). By AI agents, Wed Nov 11 2026. No macro, syntax, notation, axiom, sorry.
-/
import Derived.Test.YthpcedficlhanaaGreatDoorRows
import GoSem.ClaimSeven
namespace Go.Proofs.YthpcedficlhanaaGreatDoor
namespace Rows

/-- THE TIED CARD OF 'coxswainlaw08.TipsetShares'. -/
def tipsetSharesCard : Claim7 := { stood := { row := tipsetSharesRow, standIns := [], harness := (true, "47400c14b419bd4e11ac781b66f11117516e431e73d247d8ef8bdae6b525370e"), looks := true }, kinds := [], alts := [], laidByText := true, laidKinds := [.data, .data], laidTests := true, laidLooks := .later }
def TipsetSharesCardSaid : Prop := Claim7.holds Tryz.pinned (.plain (OpenSpec.ofChange tipsetSharesSpec)) tipsetSharesCard

/-- THE TIED CARD OF 'coxswainlaw08.TipsetParts'. -/
def tipsetPartsCard : Claim7 := { stood := { row := tipsetPartsRow, standIns := [], harness := (true, "47400c14b419bd4e11ac781b66f11117516e431e73d247d8ef8bdae6b525370e"), looks := true }, kinds := [], alts := [], laidByText := true, laidKinds := [.data, .data], laidTests := true, laidLooks := .later }
def TipsetPartsCardSaid : Prop := Claim7.holds Tryz.pinned (.plain (OpenSpec.ofChange tipsetPartsSpec)) tipsetPartsCard

/-- THE TIED CARD OF 'coxswainlaw08.TipsetCompares'. -/
def tipsetComparesCard : Claim7 := { stood := { row := tipsetComparesRow, standIns := [], harness := (true, "47400c14b419bd4e11ac781b66f11117516e431e73d247d8ef8bdae6b525370e"), looks := true }, kinds := [], alts := [], laidByText := true, laidKinds := [.data, .data], laidTests := true, laidLooks := .later }
def TipsetComparesCardSaid : Prop := Claim7.holds Tryz.pinned (.plain (OpenSpec.ofChange tipsetComparesSpec)) tipsetComparesCard

/-- THE TIED CARD OF 'coxswainlaw08.TipsetOrder'. -/
def tipsetOrderCard : Claim7 := { stood := { row := tipsetOrderRow, standIns := [], harness := (true, "47400c14b419bd4e11ac781b66f11117516e431e73d247d8ef8bdae6b525370e"), looks := true }, kinds := [], alts := [], laidByText := true, laidKinds := [.data, .data], laidTests := true, laidLooks := .later }
def TipsetOrderCardSaid : Prop := Claim7.holds Tryz.pinned (.plain (OpenSpec.ofChange tipsetOrderSpec)) tipsetOrderCard

/-- THE TIED CARD OF 'coxswainlaw13.DagGrows'. -/
def dagGrowsCard : Claim7 := { stood := { row := dagGrowsRow, standIns := [], harness := (true, "47400c14b419bd4e11ac781b66f11117516e431e73d247d8ef8bdae6b525370e"), looks := true }, kinds := [], alts := [], laidByText := true, laidKinds := [.data, .data], laidTests := true, laidLooks := .later }
def DagGrowsCardSaid : Prop := Claim7.holds Tryz.pinned (.plain (OpenSpec.ofChange dagGrowsSpec)) dagGrowsCard

/-- THE TIED CARD OF 'coxswainlaw13.DagOrder'. -/
def dagOrderCard : Claim7 := { stood := { row := dagOrderRow, standIns := [], harness := (true, "47400c14b419bd4e11ac781b66f11117516e431e73d247d8ef8bdae6b525370e"), looks := true }, kinds := [], alts := [], laidByText := true, laidKinds := [.data, .data], laidTests := true, laidLooks := .later }
def DagOrderCardSaid : Prop := Claim7.holds Tryz.pinned (.plain (OpenSpec.ofChange dagOrderSpec)) dagOrderCard

/-- THE TIED CARD OF 'coxswainlaw13.DagAdds'. -/
def dagAddsCard : Claim7 := { stood := { row := dagAddsRow, standIns := [], harness := (true, "47400c14b419bd4e11ac781b66f11117516e431e73d247d8ef8bdae6b525370e"), looks := true }, kinds := [], alts := [], laidByText := true, laidKinds := [.data, .data], laidTests := true, laidLooks := .later }
def DagAddsCardSaid : Prop := Claim7.holds Tryz.pinned (.plain (OpenSpec.ofChange dagAddsSpec)) dagAddsCard

/-- THE TIED CARD OF 'coxswainlaw13.DagTipsets'. -/
def dagTipsetsCard : Claim7 := { stood := { row := dagTipsetsRow, standIns := [], harness := (true, "47400c14b419bd4e11ac781b66f11117516e431e73d247d8ef8bdae6b525370e"), looks := true }, kinds := [], alts := [], laidByText := true, laidKinds := [.data, .data], laidTests := true, laidLooks := .later }
def DagTipsetsCardSaid : Prop := Claim7.holds Tryz.pinned (.plain (OpenSpec.ofChange dagTipsetsSpec)) dagTipsetsCard

/-- THE TIED CARD OF 'coxswainlaw13.DagClosed'. -/
def dagClosedCard : Claim7 := { stood := { row := dagClosedRow, standIns := [], harness := (true, "47400c14b419bd4e11ac781b66f11117516e431e73d247d8ef8bdae6b525370e"), looks := true }, kinds := [], alts := [], laidByText := true, laidKinds := [.data, .data], laidTests := true, laidLooks := .later }
def DagClosedCardSaid : Prop := Claim7.holds Tryz.pinned (.plain (OpenSpec.ofChange dagClosedSpec)) dagClosedCard

/-- THE TIED CARD OF 'coxswainlaw18.MarkFloors'. -/
def markFloorsCard : Claim7 := { stood := { row := markFloorsRow, standIns := [], harness := (true, "47400c14b419bd4e11ac781b66f11117516e431e73d247d8ef8bdae6b525370e"), looks := true }, kinds := [], alts := [], laidByText := true, laidKinds := [.data, .data], laidTests := true, laidLooks := .later }
def MarkFloorsCardSaid : Prop := Claim7.holds Tryz.pinned (.plain (OpenSpec.ofChange markFloorsSpec)) markFloorsCard

/-- THE TIED CARD OF 'coxswainlaw18.MarkPoints'. -/
def markPointsCard : Claim7 := { stood := { row := markPointsRow, standIns := [], harness := (true, "47400c14b419bd4e11ac781b66f11117516e431e73d247d8ef8bdae6b525370e"), looks := true }, kinds := [], alts := [], laidByText := true, laidKinds := [.data, .data], laidTests := true, laidLooks := .later }
def MarkPointsCardSaid : Prop := Claim7.holds Tryz.pinned (.plain (OpenSpec.ofChange markPointsSpec)) markPointsCard

/-- THE TIED CARD OF 'coxswainlaw23.FeedPushes'. -/
def feedPushesCard : Claim7 := { stood := { row := feedPushesRow, standIns := [], harness := (true, "47400c14b419bd4e11ac781b66f11117516e431e73d247d8ef8bdae6b525370e"), looks := true }, kinds := [], alts := [], laidByText := true, laidKinds := [.data, .data], laidTests := true, laidLooks := .later }
def FeedPushesCardSaid : Prop := Claim7.holds Tryz.pinned (.plain (OpenSpec.ofChange feedPushesSpec)) feedPushesCard

/-- THE TIED CARD OF 'coxswainlaw23.FeedOverflows'. -/
def feedOverflowsCard : Claim7 := { stood := { row := feedOverflowsRow, standIns := [], harness := (true, "47400c14b419bd4e11ac781b66f11117516e431e73d247d8ef8bdae6b525370e"), looks := true }, kinds := [], alts := [], laidByText := true, laidKinds := [.data, .data], laidTests := true, laidLooks := .later }
def FeedOverflowsCardSaid : Prop := Claim7.holds Tryz.pinned (.plain (OpenSpec.ofChange feedOverflowsSpec)) feedOverflowsCard

/-- THE TIED CARD OF 'coxswainlaw23.FeedRefuses'. -/
def feedRefusesCard : Claim7 := { stood := { row := feedRefusesRow, standIns := [], harness := (true, "47400c14b419bd4e11ac781b66f11117516e431e73d247d8ef8bdae6b525370e"), looks := true }, kinds := [], alts := [], laidByText := true, laidKinds := [.data, .data], laidTests := true, laidLooks := .later }
def FeedRefusesCardSaid : Prop := Claim7.holds Tryz.pinned (.plain (OpenSpec.ofChange feedRefusesSpec)) feedRefusesCard

/-- THE TIED CARD OF 'coxswainlaw23.FeedFolds'. -/
def feedFoldsCard : Claim7 := { stood := { row := feedFoldsRow, standIns := [], harness := (true, "47400c14b419bd4e11ac781b66f11117516e431e73d247d8ef8bdae6b525370e"), looks := true }, kinds := [], alts := [], laidByText := true, laidKinds := [.data, .data], laidTests := true, laidLooks := .later }
def FeedFoldsCardSaid : Prop := Claim7.holds Tryz.pinned (.plain (OpenSpec.ofChange feedFoldsSpec)) feedFoldsCard

/-- THE SECOND FORM's CARD OF 'coxswainlaw08.TipsetShares'. -/
def tipsetSharesUptoCard : Claim7 := { stood := { row := tipsetSharesUptoRow, standIns := [], harness := (true, "47400c14b419bd4e11ac781b66f11117516e431e73d247d8ef8bdae6b525370e"), looks := true }, kinds := [], alts := [], laidByText := true, laidKinds := [.data, .data], laidTests := true, laidLooks := .later }
def TipsetSharesUptoCardSaid : Prop := Claim7.holds Tryz.pinned (.plain (OpenSpec.upto tipsetSharesSpec)) tipsetSharesUptoCard

/-- THE SECOND FORM's CARD OF 'coxswainlaw08.TipsetParts'. -/
def tipsetPartsUptoCard : Claim7 := { stood := { row := tipsetPartsUptoRow, standIns := [], harness := (true, "47400c14b419bd4e11ac781b66f11117516e431e73d247d8ef8bdae6b525370e"), looks := true }, kinds := [], alts := [], laidByText := true, laidKinds := [.data, .data], laidTests := true, laidLooks := .later }
def TipsetPartsUptoCardSaid : Prop := Claim7.holds Tryz.pinned (.plain (OpenSpec.upto tipsetPartsSpec)) tipsetPartsUptoCard

/-- THE SECOND FORM's CARD OF 'coxswainlaw08.TipsetCompares'. -/
def tipsetComparesUptoCard : Claim7 := { stood := { row := tipsetComparesUptoRow, standIns := [], harness := (true, "47400c14b419bd4e11ac781b66f11117516e431e73d247d8ef8bdae6b525370e"), looks := true }, kinds := [], alts := [], laidByText := true, laidKinds := [.data, .data], laidTests := true, laidLooks := .later }
def TipsetComparesUptoCardSaid : Prop := Claim7.holds Tryz.pinned (.plain (OpenSpec.upto tipsetComparesSpec)) tipsetComparesUptoCard

/-- THE SECOND FORM's CARD OF 'coxswainlaw08.TipsetOrder'. -/
def tipsetOrderUptoCard : Claim7 := { stood := { row := tipsetOrderUptoRow, standIns := [], harness := (true, "47400c14b419bd4e11ac781b66f11117516e431e73d247d8ef8bdae6b525370e"), looks := true }, kinds := [], alts := [], laidByText := true, laidKinds := [.data, .data], laidTests := true, laidLooks := .later }
def TipsetOrderUptoCardSaid : Prop := Claim7.holds Tryz.pinned (.plain (OpenSpec.upto tipsetOrderSpec)) tipsetOrderUptoCard

/-- THE SECOND FORM's CARD OF 'coxswainlaw13.DagGrows'. -/
def dagGrowsUptoCard : Claim7 := { stood := { row := dagGrowsUptoRow, standIns := [], harness := (true, "47400c14b419bd4e11ac781b66f11117516e431e73d247d8ef8bdae6b525370e"), looks := true }, kinds := [], alts := [], laidByText := true, laidKinds := [.data, .data], laidTests := true, laidLooks := .later }
def DagGrowsUptoCardSaid : Prop := Claim7.holds Tryz.pinned (.plain (OpenSpec.upto dagGrowsSpec)) dagGrowsUptoCard

/-- THE SECOND FORM's CARD OF 'coxswainlaw13.DagOrder'. -/
def dagOrderUptoCard : Claim7 := { stood := { row := dagOrderUptoRow, standIns := [], harness := (true, "47400c14b419bd4e11ac781b66f11117516e431e73d247d8ef8bdae6b525370e"), looks := true }, kinds := [], alts := [], laidByText := true, laidKinds := [.data, .data], laidTests := true, laidLooks := .later }
def DagOrderUptoCardSaid : Prop := Claim7.holds Tryz.pinned (.plain (OpenSpec.upto dagOrderSpec)) dagOrderUptoCard

/-- THE SECOND FORM's CARD OF 'coxswainlaw13.DagAdds'. -/
def dagAddsUptoCard : Claim7 := { stood := { row := dagAddsUptoRow, standIns := [], harness := (true, "47400c14b419bd4e11ac781b66f11117516e431e73d247d8ef8bdae6b525370e"), looks := true }, kinds := [], alts := [], laidByText := true, laidKinds := [.data, .data], laidTests := true, laidLooks := .later }
def DagAddsUptoCardSaid : Prop := Claim7.holds Tryz.pinned (.plain (OpenSpec.upto dagAddsSpec)) dagAddsUptoCard

/-- THE SECOND FORM's CARD OF 'coxswainlaw13.DagTipsets'. -/
def dagTipsetsUptoCard : Claim7 := { stood := { row := dagTipsetsUptoRow, standIns := [], harness := (true, "47400c14b419bd4e11ac781b66f11117516e431e73d247d8ef8bdae6b525370e"), looks := true }, kinds := [], alts := [], laidByText := true, laidKinds := [.data, .data], laidTests := true, laidLooks := .later }
def DagTipsetsUptoCardSaid : Prop := Claim7.holds Tryz.pinned (.plain (OpenSpec.upto dagTipsetsSpec)) dagTipsetsUptoCard

/-- THE SECOND FORM's CARD OF 'coxswainlaw13.DagClosed'. -/
def dagClosedUptoCard : Claim7 := { stood := { row := dagClosedUptoRow, standIns := [], harness := (true, "47400c14b419bd4e11ac781b66f11117516e431e73d247d8ef8bdae6b525370e"), looks := true }, kinds := [], alts := [], laidByText := true, laidKinds := [.data, .data], laidTests := true, laidLooks := .later }
def DagClosedUptoCardSaid : Prop := Claim7.holds Tryz.pinned (.plain (OpenSpec.upto dagClosedSpec)) dagClosedUptoCard

/-- THE SECOND FORM's CARD OF 'coxswainlaw18.MarkFloors'. -/
def markFloorsUptoCard : Claim7 := { stood := { row := markFloorsUptoRow, standIns := [], harness := (true, "47400c14b419bd4e11ac781b66f11117516e431e73d247d8ef8bdae6b525370e"), looks := true }, kinds := [], alts := [], laidByText := true, laidKinds := [.data, .data], laidTests := true, laidLooks := .later }
def MarkFloorsUptoCardSaid : Prop := Claim7.holds Tryz.pinned (.plain (OpenSpec.upto markFloorsSpec)) markFloorsUptoCard

/-- THE SECOND FORM's CARD OF 'coxswainlaw18.MarkPoints'. -/
def markPointsUptoCard : Claim7 := { stood := { row := markPointsUptoRow, standIns := [], harness := (true, "47400c14b419bd4e11ac781b66f11117516e431e73d247d8ef8bdae6b525370e"), looks := true }, kinds := [], alts := [], laidByText := true, laidKinds := [.data, .data], laidTests := true, laidLooks := .later }
def MarkPointsUptoCardSaid : Prop := Claim7.holds Tryz.pinned (.plain (OpenSpec.upto markPointsSpec)) markPointsUptoCard

/-- THE SECOND FORM's CARD OF 'coxswainlaw23.FeedPushes'. -/
def feedPushesUptoCard : Claim7 := { stood := { row := feedPushesUptoRow, standIns := [], harness := (true, "47400c14b419bd4e11ac781b66f11117516e431e73d247d8ef8bdae6b525370e"), looks := true }, kinds := [], alts := [], laidByText := true, laidKinds := [.data, .data], laidTests := true, laidLooks := .later }
def FeedPushesUptoCardSaid : Prop := Claim7.holds Tryz.pinned (.plain (OpenSpec.upto feedPushesSpec)) feedPushesUptoCard

/-- THE SECOND FORM's CARD OF 'coxswainlaw23.FeedOverflows'. -/
def feedOverflowsUptoCard : Claim7 := { stood := { row := feedOverflowsUptoRow, standIns := [], harness := (true, "47400c14b419bd4e11ac781b66f11117516e431e73d247d8ef8bdae6b525370e"), looks := true }, kinds := [], alts := [], laidByText := true, laidKinds := [.data, .data], laidTests := true, laidLooks := .later }
def FeedOverflowsUptoCardSaid : Prop := Claim7.holds Tryz.pinned (.plain (OpenSpec.upto feedOverflowsSpec)) feedOverflowsUptoCard

/-- THE SECOND FORM's CARD OF 'coxswainlaw23.FeedRefuses'. -/
def feedRefusesUptoCard : Claim7 := { stood := { row := feedRefusesUptoRow, standIns := [], harness := (true, "47400c14b419bd4e11ac781b66f11117516e431e73d247d8ef8bdae6b525370e"), looks := true }, kinds := [], alts := [], laidByText := true, laidKinds := [.data, .data], laidTests := true, laidLooks := .later }
def FeedRefusesUptoCardSaid : Prop := Claim7.holds Tryz.pinned (.plain (OpenSpec.upto feedRefusesSpec)) feedRefusesUptoCard

/-- THE SECOND FORM's CARD OF 'coxswainlaw23.FeedFolds'. -/
def feedFoldsUptoCard : Claim7 := { stood := { row := feedFoldsUptoRow, standIns := [], harness := (true, "47400c14b419bd4e11ac781b66f11117516e431e73d247d8ef8bdae6b525370e"), looks := true }, kinds := [], alts := [], laidByText := true, laidKinds := [.data, .data], laidTests := true, laidLooks := .later }
def FeedFoldsUptoCardSaid : Prop := Claim7.holds Tryz.pinned (.plain (OpenSpec.upto feedFoldsSpec)) feedFoldsUptoCard
end Rows
end Go.Proofs.YthpcedficlhanaaGreatDoor
