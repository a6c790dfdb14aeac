/-
  DERIVED. GIVEN WITH THE SEED: THE CARDS: each row of YtklmhegmombegaaDoorRows.lean that lists a variable, with what it lists TIED to the program's text (the seventh form; the later family's looks); each row that meets fmt, with fmt's text TOLD by the authors' own Lean function (tested against real Go, not proved from fmt's source: count such statements apart). THE CARD IS WHAT COUNTS. Prove the row's statement (the work); the ties are given (YtklmhegmombegaaDoorTie.lean); close each card by the builder's one call (the guide's Derived/Test/ToyasCard.lean, 'card_holds'). Laid BY PROGRAM, IN A SANDBOX (cutbox-door.mjs). By AI agents, Wed Nov 11 2026. No macro, syntax, notation, axiom, sorry.
-/
import Derived.Test.YtklmhegmombegaaDoorRows
import GoSem.ClaimSeven
namespace Go.Proofs.YtklmhegmombegaaDoor
namespace Rows

/-- THE TIED CARD OF 'inspeximuslaw10.KeysTags'. -/
def keysTagsCard : Claim7 := { stood := { row := keysTagsRow, standIns := [], harness := (true, "b4ca711ae8f9768dfd12f173d745febeea2e15dae49ea11c522066e6eb627792"), looks := false }, kinds := [], alts := [], laidByText := true, laidKinds := [.data, .data], laidTests := true, laidLooks := .later }
def KeysTagsCardSaid : Prop := Claim7.holds Tryd.pinned (.plain (OpenSpec.ofChange keysTagsSpec)) keysTagsCard

/-- THE TIED CARD OF 'inspeximuslaw10.KeysPoints'. -/
def keysPointsCard : Claim7 := { stood := { row := keysPointsRow, standIns := [], harness := (true, "b4ca711ae8f9768dfd12f173d745febeea2e15dae49ea11c522066e6eb627792"), looks := false }, kinds := [], alts := [], laidByText := true, laidKinds := [.data, .data], laidTests := true, laidLooks := .later }
def KeysPointsCardSaid : Prop := Claim7.holds Tryd.pinned (.plain (OpenSpec.ofChange keysPointsSpec)) keysPointsCard

/-- THE TIED CARD OF 'inspeximuslaw10.KeysHold'. -/
def keysHoldCard : Claim7 := { stood := { row := keysHoldRow, standIns := [], harness := (true, "b4ca711ae8f9768dfd12f173d745febeea2e15dae49ea11c522066e6eb627792"), looks := false }, kinds := [], alts := [], laidByText := true, laidKinds := [.data, .data], laidTests := true, laidLooks := .later }
def KeysHoldCardSaid : Prop := Claim7.holds Tryd.pinned (.plain (OpenSpec.ofChange keysHoldSpec)) keysHoldCard

/-- THE TIED CARD OF 'inspeximuslaw10.KeysEnough'. -/
def keysEnoughCard : Claim7 := { stood := { row := keysEnoughRow, standIns := [], harness := (true, "b4ca711ae8f9768dfd12f173d745febeea2e15dae49ea11c522066e6eb627792"), looks := false }, kinds := [], alts := [], laidByText := true, laidKinds := [.data, .data], laidTests := true, laidLooks := .later }
def KeysEnoughCardSaid : Prop := Claim7.holds Tryd.pinned (.plain (OpenSpec.ofChange keysEnoughSpec)) keysEnoughCard

/-- THE TIED CARD OF 'inspeximuslaw10.KeysApart'. -/
def keysApartCard : Claim7 := { stood := { row := keysApartRow, standIns := [], harness := (true, "b4ca711ae8f9768dfd12f173d745febeea2e15dae49ea11c522066e6eb627792"), looks := false }, kinds := [], alts := [], laidByText := true, laidKinds := [.data, .data], laidTests := true, laidLooks := .later }
def KeysApartCardSaid : Prop := Claim7.holds Tryd.pinned (.plain (OpenSpec.ofChange keysApartSpec)) keysApartCard

/-- THE TIED CARD OF 'inspeximuslaw10.KeysBare'. -/
def keysBareCard : Claim7 := { stood := { row := keysBareRow, standIns := [], harness := (true, "b4ca711ae8f9768dfd12f173d745febeea2e15dae49ea11c522066e6eb627792"), looks := false }, kinds := [], alts := [], laidByText := true, laidKinds := [.data, .data], laidTests := true, laidLooks := .later }
def KeysBareCardSaid : Prop := Claim7.holds Tryd.pinned (.plain (OpenSpec.ofChange keysBareSpec)) keysBareCard

/-- THE TIED CARD OF 'inspeximuslaw10.KeysNone'. -/
def keysNoneCard : Claim7 := { stood := { row := keysNoneRow, standIns := [], harness := (true, "b4ca711ae8f9768dfd12f173d745febeea2e15dae49ea11c522066e6eb627792"), looks := false }, kinds := [], alts := [], laidByText := true, laidKinds := [.data, .data], laidTests := true, laidLooks := .later }
def KeysNoneCardSaid : Prop := Claim7.holds Tryd.pinned (.plain (OpenSpec.ofChange keysNoneSpec)) keysNoneCard

/-- THE TIED CARD OF 'inspeximuslaw13.PartActs'. -/
def partActsCard : Claim7 := { stood := { row := partActsRow, standIns := [], harness := (true, "b4ca711ae8f9768dfd12f173d745febeea2e15dae49ea11c522066e6eb627792"), looks := false }, kinds := [], alts := [], laidByText := true, laidKinds := [.data, .data], laidTests := true, laidLooks := .later }
def PartActsCardSaid : Prop := Claim7.holds Tryd.pinned (.plain (OpenSpec.ofChange partActsSpec)) partActsCard

/-- THE TIED CARD OF 'inspeximuslaw13.PartReceipts'. -/
def partReceiptsCard : Claim7 := { stood := { row := partReceiptsRow, standIns := [], harness := (true, "b4ca711ae8f9768dfd12f173d745febeea2e15dae49ea11c522066e6eb627792"), looks := false }, kinds := [], alts := [], laidByText := true, laidKinds := [.data, .data], laidTests := true, laidLooks := .later }
def PartReceiptsCardSaid : Prop := Claim7.holds Tryd.pinned (.plain (OpenSpec.ofChange partReceiptsSpec)) partReceiptsCard

/-- THE TIED CARD OF 'inspeximuslaw13.PartOnce'. -/
def partOnceCard : Claim7 := { stood := { row := partOnceRow, standIns := [], harness := (true, "b4ca711ae8f9768dfd12f173d745febeea2e15dae49ea11c522066e6eb627792"), looks := false }, kinds := [], alts := [], laidByText := true, laidKinds := [.data, .data], laidTests := true, laidLooks := .later }
def PartOnceCardSaid : Prop := Claim7.holds Tryd.pinned (.plain (OpenSpec.ofChange partOnceSpec)) partOnceCard

/-- THE TIED CARD OF 'inspeximuslaw13.PartAgain'. -/
def partAgainCard : Claim7 := { stood := { row := partAgainRow, standIns := [], harness := (true, "b4ca711ae8f9768dfd12f173d745febeea2e15dae49ea11c522066e6eb627792"), looks := false }, kinds := [], alts := [], laidByText := true, laidKinds := [.data, .data], laidTests := true, laidLooks := .later }
def PartAgainCardSaid : Prop := Claim7.holds Tryd.pinned (.plain (OpenSpec.ofChange partAgainSpec)) partAgainCard

/-- THE TIED CARD OF 'inspeximuslaw13.PartApart'. -/
def partApartCard : Claim7 := { stood := { row := partApartRow, standIns := [], harness := (true, "b4ca711ae8f9768dfd12f173d745febeea2e15dae49ea11c522066e6eb627792"), looks := false }, kinds := [], alts := [], laidByText := true, laidKinds := [.data, .data], laidTests := true, laidLooks := .later }
def PartApartCardSaid : Prop := Claim7.holds Tryd.pinned (.plain (OpenSpec.ofChange partApartSpec)) partApartCard

/-- THE TIED CARD OF 'inspeximuslaw13.PartRefuses'. -/
def partRefusesCard : Claim7 := { stood := { row := partRefusesRow, standIns := [], harness := (true, "b4ca711ae8f9768dfd12f173d745febeea2e15dae49ea11c522066e6eb627792"), looks := false }, kinds := [], alts := [], laidByText := true, laidKinds := [.data, .data], laidTests := true, laidLooks := .later }
def PartRefusesCardSaid : Prop := Claim7.holds Tryd.pinned (.plain (OpenSpec.ofChange partRefusesSpec)) partRefusesCard

/-- THE TIED CARD OF 'inspeximuslaw12.BookGone'. -/
def bookGoneCard : Claim7 := { stood := { row := bookGoneRow, standIns := [], harness := (true, "b4ca711ae8f9768dfd12f173d745febeea2e15dae49ea11c522066e6eb627792"), looks := false }, kinds := [], alts := [], laidByText := true, laidKinds := [.data, .data], laidTests := true, laidLooks := .later }
def BookGoneCardSaid : Prop := Claim7.holds Tryd.pinned (.plain (OpenSpec.ofChange bookGoneSpec)) bookGoneCard

/-- THE SECOND FORM's CARD OF 'inspeximuslaw10.KeysTags'. -/
def keysTagsUptoCard : Claim7 := { stood := { row := keysTagsUptoRow, standIns := [], harness := (true, "b4ca711ae8f9768dfd12f173d745febeea2e15dae49ea11c522066e6eb627792"), looks := false }, kinds := [], alts := [], laidByText := true, laidKinds := [.data, .data], laidTests := true, laidLooks := .later }
def KeysTagsUptoCardSaid : Prop := Claim7.holds Tryd.pinned (.plain (OpenSpec.upto keysTagsSpec)) keysTagsUptoCard

/-- THE SECOND FORM's CARD OF 'inspeximuslaw10.KeysPoints'. -/
def keysPointsUptoCard : Claim7 := { stood := { row := keysPointsUptoRow, standIns := [], harness := (true, "b4ca711ae8f9768dfd12f173d745febeea2e15dae49ea11c522066e6eb627792"), looks := false }, kinds := [], alts := [], laidByText := true, laidKinds := [.data, .data], laidTests := true, laidLooks := .later }
def KeysPointsUptoCardSaid : Prop := Claim7.holds Tryd.pinned (.plain (OpenSpec.upto keysPointsSpec)) keysPointsUptoCard

/-- THE SECOND FORM's CARD OF 'inspeximuslaw10.KeysHold'. -/
def keysHoldUptoCard : Claim7 := { stood := { row := keysHoldUptoRow, standIns := [], harness := (true, "b4ca711ae8f9768dfd12f173d745febeea2e15dae49ea11c522066e6eb627792"), looks := false }, kinds := [], alts := [], laidByText := true, laidKinds := [.data, .data], laidTests := true, laidLooks := .later }
def KeysHoldUptoCardSaid : Prop := Claim7.holds Tryd.pinned (.plain (OpenSpec.upto keysHoldSpec)) keysHoldUptoCard

/-- THE SECOND FORM's CARD OF 'inspeximuslaw10.KeysEnough'. -/
def keysEnoughUptoCard : Claim7 := { stood := { row := keysEnoughUptoRow, standIns := [], harness := (true, "b4ca711ae8f9768dfd12f173d745febeea2e15dae49ea11c522066e6eb627792"), looks := false }, kinds := [], alts := [], laidByText := true, laidKinds := [.data, .data], laidTests := true, laidLooks := .later }
def KeysEnoughUptoCardSaid : Prop := Claim7.holds Tryd.pinned (.plain (OpenSpec.upto keysEnoughSpec)) keysEnoughUptoCard

/-- THE SECOND FORM's CARD OF 'inspeximuslaw10.KeysApart'. -/
def keysApartUptoCard : Claim7 := { stood := { row := keysApartUptoRow, standIns := [], harness := (true, "b4ca711ae8f9768dfd12f173d745febeea2e15dae49ea11c522066e6eb627792"), looks := false }, kinds := [], alts := [], laidByText := true, laidKinds := [.data, .data], laidTests := true, laidLooks := .later }
def KeysApartUptoCardSaid : Prop := Claim7.holds Tryd.pinned (.plain (OpenSpec.upto keysApartSpec)) keysApartUptoCard

/-- THE SECOND FORM's CARD OF 'inspeximuslaw10.KeysBare'. -/
def keysBareUptoCard : Claim7 := { stood := { row := keysBareUptoRow, standIns := [], harness := (true, "b4ca711ae8f9768dfd12f173d745febeea2e15dae49ea11c522066e6eb627792"), looks := false }, kinds := [], alts := [], laidByText := true, laidKinds := [.data, .data], laidTests := true, laidLooks := .later }
def KeysBareUptoCardSaid : Prop := Claim7.holds Tryd.pinned (.plain (OpenSpec.upto keysBareSpec)) keysBareUptoCard

/-- THE SECOND FORM's CARD OF 'inspeximuslaw10.KeysNone'. -/
def keysNoneUptoCard : Claim7 := { stood := { row := keysNoneUptoRow, standIns := [], harness := (true, "b4ca711ae8f9768dfd12f173d745febeea2e15dae49ea11c522066e6eb627792"), looks := false }, kinds := [], alts := [], laidByText := true, laidKinds := [.data, .data], laidTests := true, laidLooks := .later }
def KeysNoneUptoCardSaid : Prop := Claim7.holds Tryd.pinned (.plain (OpenSpec.upto keysNoneSpec)) keysNoneUptoCard

/-- THE SECOND FORM's CARD OF 'inspeximuslaw13.PartActs'. -/
def partActsUptoCard : Claim7 := { stood := { row := partActsUptoRow, standIns := [], harness := (true, "b4ca711ae8f9768dfd12f173d745febeea2e15dae49ea11c522066e6eb627792"), looks := false }, kinds := [], alts := [], laidByText := true, laidKinds := [.data, .data], laidTests := true, laidLooks := .later }
def PartActsUptoCardSaid : Prop := Claim7.holds Tryd.pinned (.plain (OpenSpec.upto partActsSpec)) partActsUptoCard

/-- THE SECOND FORM's CARD OF 'inspeximuslaw13.PartReceipts'. -/
def partReceiptsUptoCard : Claim7 := { stood := { row := partReceiptsUptoRow, standIns := [], harness := (true, "b4ca711ae8f9768dfd12f173d745febeea2e15dae49ea11c522066e6eb627792"), looks := false }, kinds := [], alts := [], laidByText := true, laidKinds := [.data, .data], laidTests := true, laidLooks := .later }
def PartReceiptsUptoCardSaid : Prop := Claim7.holds Tryd.pinned (.plain (OpenSpec.upto partReceiptsSpec)) partReceiptsUptoCard

/-- THE SECOND FORM's CARD OF 'inspeximuslaw13.PartOnce'. -/
def partOnceUptoCard : Claim7 := { stood := { row := partOnceUptoRow, standIns := [], harness := (true, "b4ca711ae8f9768dfd12f173d745febeea2e15dae49ea11c522066e6eb627792"), looks := false }, kinds := [], alts := [], laidByText := true, laidKinds := [.data, .data], laidTests := true, laidLooks := .later }
def PartOnceUptoCardSaid : Prop := Claim7.holds Tryd.pinned (.plain (OpenSpec.upto partOnceSpec)) partOnceUptoCard

/-- THE SECOND FORM's CARD OF 'inspeximuslaw13.PartAgain'. -/
def partAgainUptoCard : Claim7 := { stood := { row := partAgainUptoRow, standIns := [], harness := (true, "b4ca711ae8f9768dfd12f173d745febeea2e15dae49ea11c522066e6eb627792"), looks := false }, kinds := [], alts := [], laidByText := true, laidKinds := [.data, .data], laidTests := true, laidLooks := .later }
def PartAgainUptoCardSaid : Prop := Claim7.holds Tryd.pinned (.plain (OpenSpec.upto partAgainSpec)) partAgainUptoCard

/-- THE SECOND FORM's CARD OF 'inspeximuslaw13.PartApart'. -/
def partApartUptoCard : Claim7 := { stood := { row := partApartUptoRow, standIns := [], harness := (true, "b4ca711ae8f9768dfd12f173d745febeea2e15dae49ea11c522066e6eb627792"), looks := false }, kinds := [], alts := [], laidByText := true, laidKinds := [.data, .data], laidTests := true, laidLooks := .later }
def PartApartUptoCardSaid : Prop := Claim7.holds Tryd.pinned (.plain (OpenSpec.upto partApartSpec)) partApartUptoCard

/-- THE SECOND FORM's CARD OF 'inspeximuslaw13.PartRefuses'. -/
def partRefusesUptoCard : Claim7 := { stood := { row := partRefusesUptoRow, standIns := [], harness := (true, "b4ca711ae8f9768dfd12f173d745febeea2e15dae49ea11c522066e6eb627792"), looks := false }, kinds := [], alts := [], laidByText := true, laidKinds := [.data, .data], laidTests := true, laidLooks := .later }
def PartRefusesUptoCardSaid : Prop := Claim7.holds Tryd.pinned (.plain (OpenSpec.upto partRefusesSpec)) partRefusesUptoCard

/-- THE SECOND FORM's CARD OF 'inspeximuslaw12.BookGone'. -/
def bookGoneUptoCard : Claim7 := { stood := { row := bookGoneUptoRow, standIns := [], harness := (true, "b4ca711ae8f9768dfd12f173d745febeea2e15dae49ea11c522066e6eb627792"), looks := false }, kinds := [], alts := [], laidByText := true, laidKinds := [.data, .data], laidTests := true, laidLooks := .later }
def BookGoneUptoCardSaid : Prop := Claim7.holds Tryd.pinned (.plain (OpenSpec.upto bookGoneSpec)) bookGoneUptoCard
end Rows
end Go.Proofs.YtklmhegmombegaaDoor
