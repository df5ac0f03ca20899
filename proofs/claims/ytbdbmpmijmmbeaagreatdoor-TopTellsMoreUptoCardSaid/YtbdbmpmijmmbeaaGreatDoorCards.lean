/-
  DERIVED. GIVEN WITH THE SEED: THE CARDS: each row of YtbdbmpmijmmbeaaGreatDoorRows.lean that lists a variable, with what it lists TIED to the program's text (the seventh form; the later family's looks); each row that meets fmt, with fmt's text TOLD by the authors' own Lean function (tested against real Go, not proved from fmt's source: count such statements apart). THE CARD IS WHAT COUNTS. Prove the row's statement (the work); the ties are given (YtbdbmpmijmmbeaaGreatDoorTie.lean); close each card by the builder's one call (the guide's Derived/Test/ToyasCard.lean, 'card_holds'). Laid BY PROGRAM, IN A SANDBOX (cutbox-door.mjs). By AI agents, Wed Nov 11 2026. No macro, syntax, notation, axiom, sorry.
-/
import Derived.Test.YtbdbmpmijmmbeaaGreatDoorRows
import GoSem.ClaimSeven
namespace Go.Proofs.YtbdbmpmijmmbeaaGreatDoor
namespace Rows

/-- THE TIED CARD OF 'harriertop.TopGroupsAsked'. -/
def topGroupsAskedCard : Claim7 := { stood := { row := topGroupsAskedRow, standIns := [], harness := (true, "0a2afc013038adf80f2a7393bf0a1521ec4d8666e87b15dd81ef4eba478bbf0a"), looks := true }, kinds := [], alts := [], laidByText := true, laidKinds := [.data, .data, .data], laidTests := true, laidLooks := .later }
def TopGroupsAskedCardSaid : Prop := Claim7.holds Tryz.pinned (.plain (OpenSpec.ofChange topGroupsAskedSpec)) topGroupsAskedCard

/-- THE TIED CARD OF 'harriertop.TopTellsMore'. -/
def topTellsMoreCard : Claim7 := { stood := { row := topTellsMoreRow, standIns := [], harness := (true, "0a2afc013038adf80f2a7393bf0a1521ec4d8666e87b15dd81ef4eba478bbf0a"), looks := true }, kinds := [], alts := [], laidByText := true, laidKinds := [.data, .data, .data], laidTests := true, laidLooks := .later }
def TopTellsMoreCardSaid : Prop := Claim7.holds Tryz.pinned (.plain (OpenSpec.ofChange topTellsMoreSpec)) topTellsMoreCard

/-- THE TIED CARD OF 'harriertop.TopCondsKept'. -/
def topCondsKeptCard : Claim7 := { stood := { row := topCondsKeptRow, standIns := [], harness := (true, "0a2afc013038adf80f2a7393bf0a1521ec4d8666e87b15dd81ef4eba478bbf0a"), looks := true }, kinds := [], alts := [], laidByText := true, laidKinds := [.data, .data, .data, .sentinel, .sentinel], laidTests := true, laidLooks := .later }
def TopCondsKeptCardSaid : Prop := Claim7.holds Tryz.pinned (.plain (OpenSpec.ofChange topCondsKeptSpec)) topCondsKeptCard

/-- THE TIED CARD OF 'harriertop.TopCondsDenied'. -/
def topCondsDeniedCard : Claim7 := { stood := { row := topCondsDeniedRow, standIns := [], harness := (true, "0a2afc013038adf80f2a7393bf0a1521ec4d8666e87b15dd81ef4eba478bbf0a"), looks := true }, kinds := [], alts := [], laidByText := true, laidKinds := [.data, .data, .data, .sentinel, .sentinel], laidTests := true, laidLooks := .later }
def TopCondsDeniedCardSaid : Prop := Claim7.holds Tryz.pinned (.plain (OpenSpec.ofChange topCondsDeniedSpec)) topCondsDeniedCard

/-- THE TIED CARD OF 'harriertop.TopCondsAbsorbed'. -/
def topCondsAbsorbedCard : Claim7 := { stood := { row := topCondsAbsorbedRow, standIns := [], harness := (true, "0a2afc013038adf80f2a7393bf0a1521ec4d8666e87b15dd81ef4eba478bbf0a"), looks := true }, kinds := [], alts := [], laidByText := true, laidKinds := [.data, .data, .data, .sentinel, .sentinel], laidTests := true, laidLooks := .later }
def TopCondsAbsorbedCardSaid : Prop := Claim7.holds Tryz.pinned (.plain (OpenSpec.ofChange topCondsAbsorbedSpec)) topCondsAbsorbedCard

/-- THE TIED CARD OF 'harriertop.TopCondsDistributed'. -/
def topCondsDistributedCard : Claim7 := { stood := { row := topCondsDistributedRow, standIns := [], harness := (true, "0a2afc013038adf80f2a7393bf0a1521ec4d8666e87b15dd81ef4eba478bbf0a"), looks := true }, kinds := [], alts := [], laidByText := true, laidKinds := [.data, .data, .data, .sentinel, .sentinel], laidTests := true, laidLooks := .later }
def TopCondsDistributedCardSaid : Prop := Claim7.holds Tryz.pinned (.plain (OpenSpec.ofChange topCondsDistributedSpec)) topCondsDistributedCard

/-- THE TIED CARD OF 'harriertop.TopFieldsParted'. -/
def topFieldsPartedCard : Claim7 := { stood := { row := topFieldsPartedRow, standIns := [], harness := (true, "0a2afc013038adf80f2a7393bf0a1521ec4d8666e87b15dd81ef4eba478bbf0a"), looks := true }, kinds := [], alts := [], laidByText := true, laidKinds := [.data, .data, .data, .sentinel, .sentinel], laidTests := true, laidLooks := .later }
def TopFieldsPartedCardSaid : Prop := Claim7.holds Tryz.pinned (.plain (OpenSpec.ofChange topFieldsPartedSpec)) topFieldsPartedCard

/-- THE TIED CARD OF 'harriertop.TopFieldsDenied'. -/
def topFieldsDeniedCard : Claim7 := { stood := { row := topFieldsDeniedRow, standIns := [], harness := (true, "0a2afc013038adf80f2a7393bf0a1521ec4d8666e87b15dd81ef4eba478bbf0a"), looks := true }, kinds := [], alts := [], laidByText := true, laidKinds := [.data, .data, .data, .sentinel, .sentinel], laidTests := true, laidLooks := .later }
def TopFieldsDeniedCardSaid : Prop := Claim7.holds Tryz.pinned (.plain (OpenSpec.ofChange topFieldsDeniedSpec)) topFieldsDeniedCard

/-- THE TIED CARD OF 'harriertop.TopDaysAsStarts'. -/
def topDaysAsStartsCard : Claim7 := { stood := { row := topDaysAsStartsRow, standIns := [], harness := (true, "0a2afc013038adf80f2a7393bf0a1521ec4d8666e87b15dd81ef4eba478bbf0a"), looks := true }, kinds := [], alts := [], laidByText := true, laidKinds := [.data, .data, .data, .sentinel, .sentinel], laidTests := true, laidLooks := .later }
def TopDaysAsStartsCardSaid : Prop := Claim7.holds Tryz.pinned (.plain (OpenSpec.ofChange topDaysAsStartsSpec)) topDaysAsStartsCard

/-- THE TIED CARD OF 'harriertop.TopSportsApart'. -/
def topSportsApartCard : Claim7 := { stood := { row := topSportsApartRow, standIns := [], harness := (true, "0a2afc013038adf80f2a7393bf0a1521ec4d8666e87b15dd81ef4eba478bbf0a"), looks := true }, kinds := [], alts := [], laidByText := true, laidKinds := [.data, .data, .data, .sentinel, .sentinel], laidTests := true, laidLooks := .later }
def TopSportsApartCardSaid : Prop := Claim7.holds Tryz.pinned (.plain (OpenSpec.ofChange topSportsApartSpec)) topSportsApartCard

/-- THE TIED CARD OF 'harriertop.TopCondsTurned'. -/
def topCondsTurnedCard : Claim7 := { stood := { row := topCondsTurnedRow, standIns := [], harness := (true, "0a2afc013038adf80f2a7393bf0a1521ec4d8666e87b15dd81ef4eba478bbf0a"), looks := true }, kinds := [], alts := [], laidByText := true, laidKinds := [.data, .data, .data, .sentinel, .sentinel], laidTests := true, laidLooks := .later }
def TopCondsTurnedCardSaid : Prop := Claim7.holds Tryz.pinned (.plain (OpenSpec.ofChange topCondsTurnedSpec)) topCondsTurnedCard

/-- THE TIED CARD OF 'harriertop.TopCondsFlat'. -/
def topCondsFlatCard : Claim7 := { stood := { row := topCondsFlatRow, standIns := [], harness := (true, "0a2afc013038adf80f2a7393bf0a1521ec4d8666e87b15dd81ef4eba478bbf0a"), looks := true }, kinds := [], alts := [], laidByText := true, laidKinds := [.data, .data, .data, .sentinel, .sentinel], laidTests := true, laidLooks := .later }
def TopCondsFlatCardSaid : Prop := Claim7.holds Tryz.pinned (.plain (OpenSpec.ofChange topCondsFlatSpec)) topCondsFlatCard

/-- THE SECOND FORM's CARD OF 'harriertop.TopGroupsAsked'. -/
def topGroupsAskedUptoCard : Claim7 := { stood := { row := topGroupsAskedUptoRow, standIns := [], harness := (true, "0a2afc013038adf80f2a7393bf0a1521ec4d8666e87b15dd81ef4eba478bbf0a"), looks := true }, kinds := [], alts := [], laidByText := true, laidKinds := [.data, .data, .data], laidTests := true, laidLooks := .later }
def TopGroupsAskedUptoCardSaid : Prop := Claim7.holds Tryz.pinned (.plain (OpenSpec.upto topGroupsAskedSpec)) topGroupsAskedUptoCard

/-- THE SECOND FORM's CARD OF 'harriertop.TopTellsMore'. -/
def topTellsMoreUptoCard : Claim7 := { stood := { row := topTellsMoreUptoRow, standIns := [], harness := (true, "0a2afc013038adf80f2a7393bf0a1521ec4d8666e87b15dd81ef4eba478bbf0a"), looks := true }, kinds := [], alts := [], laidByText := true, laidKinds := [.data, .data, .data], laidTests := true, laidLooks := .later }
def TopTellsMoreUptoCardSaid : Prop := Claim7.holds Tryz.pinned (.plain (OpenSpec.upto topTellsMoreSpec)) topTellsMoreUptoCard

/-- THE SECOND FORM's CARD OF 'harriertop.TopCondsKept'. -/
def topCondsKeptUptoCard : Claim7 := { stood := { row := topCondsKeptUptoRow, standIns := [], harness := (true, "0a2afc013038adf80f2a7393bf0a1521ec4d8666e87b15dd81ef4eba478bbf0a"), looks := true }, kinds := [], alts := [], laidByText := true, laidKinds := [.data, .data, .data, .sentinel, .sentinel], laidTests := true, laidLooks := .later }
def TopCondsKeptUptoCardSaid : Prop := Claim7.holds Tryz.pinned (.plain (OpenSpec.upto topCondsKeptSpec)) topCondsKeptUptoCard

/-- THE SECOND FORM's CARD OF 'harriertop.TopCondsDenied'. -/
def topCondsDeniedUptoCard : Claim7 := { stood := { row := topCondsDeniedUptoRow, standIns := [], harness := (true, "0a2afc013038adf80f2a7393bf0a1521ec4d8666e87b15dd81ef4eba478bbf0a"), looks := true }, kinds := [], alts := [], laidByText := true, laidKinds := [.data, .data, .data, .sentinel, .sentinel], laidTests := true, laidLooks := .later }
def TopCondsDeniedUptoCardSaid : Prop := Claim7.holds Tryz.pinned (.plain (OpenSpec.upto topCondsDeniedSpec)) topCondsDeniedUptoCard

/-- THE SECOND FORM's CARD OF 'harriertop.TopCondsAbsorbed'. -/
def topCondsAbsorbedUptoCard : Claim7 := { stood := { row := topCondsAbsorbedUptoRow, standIns := [], harness := (true, "0a2afc013038adf80f2a7393bf0a1521ec4d8666e87b15dd81ef4eba478bbf0a"), looks := true }, kinds := [], alts := [], laidByText := true, laidKinds := [.data, .data, .data, .sentinel, .sentinel], laidTests := true, laidLooks := .later }
def TopCondsAbsorbedUptoCardSaid : Prop := Claim7.holds Tryz.pinned (.plain (OpenSpec.upto topCondsAbsorbedSpec)) topCondsAbsorbedUptoCard

/-- THE SECOND FORM's CARD OF 'harriertop.TopCondsDistributed'. -/
def topCondsDistributedUptoCard : Claim7 := { stood := { row := topCondsDistributedUptoRow, standIns := [], harness := (true, "0a2afc013038adf80f2a7393bf0a1521ec4d8666e87b15dd81ef4eba478bbf0a"), looks := true }, kinds := [], alts := [], laidByText := true, laidKinds := [.data, .data, .data, .sentinel, .sentinel], laidTests := true, laidLooks := .later }
def TopCondsDistributedUptoCardSaid : Prop := Claim7.holds Tryz.pinned (.plain (OpenSpec.upto topCondsDistributedSpec)) topCondsDistributedUptoCard

/-- THE SECOND FORM's CARD OF 'harriertop.TopFieldsParted'. -/
def topFieldsPartedUptoCard : Claim7 := { stood := { row := topFieldsPartedUptoRow, standIns := [], harness := (true, "0a2afc013038adf80f2a7393bf0a1521ec4d8666e87b15dd81ef4eba478bbf0a"), looks := true }, kinds := [], alts := [], laidByText := true, laidKinds := [.data, .data, .data, .sentinel, .sentinel], laidTests := true, laidLooks := .later }
def TopFieldsPartedUptoCardSaid : Prop := Claim7.holds Tryz.pinned (.plain (OpenSpec.upto topFieldsPartedSpec)) topFieldsPartedUptoCard

/-- THE SECOND FORM's CARD OF 'harriertop.TopFieldsDenied'. -/
def topFieldsDeniedUptoCard : Claim7 := { stood := { row := topFieldsDeniedUptoRow, standIns := [], harness := (true, "0a2afc013038adf80f2a7393bf0a1521ec4d8666e87b15dd81ef4eba478bbf0a"), looks := true }, kinds := [], alts := [], laidByText := true, laidKinds := [.data, .data, .data, .sentinel, .sentinel], laidTests := true, laidLooks := .later }
def TopFieldsDeniedUptoCardSaid : Prop := Claim7.holds Tryz.pinned (.plain (OpenSpec.upto topFieldsDeniedSpec)) topFieldsDeniedUptoCard

/-- THE SECOND FORM's CARD OF 'harriertop.TopDaysAsStarts'. -/
def topDaysAsStartsUptoCard : Claim7 := { stood := { row := topDaysAsStartsUptoRow, standIns := [], harness := (true, "0a2afc013038adf80f2a7393bf0a1521ec4d8666e87b15dd81ef4eba478bbf0a"), looks := true }, kinds := [], alts := [], laidByText := true, laidKinds := [.data, .data, .data, .sentinel, .sentinel], laidTests := true, laidLooks := .later }
def TopDaysAsStartsUptoCardSaid : Prop := Claim7.holds Tryz.pinned (.plain (OpenSpec.upto topDaysAsStartsSpec)) topDaysAsStartsUptoCard

/-- THE SECOND FORM's CARD OF 'harriertop.TopSportsApart'. -/
def topSportsApartUptoCard : Claim7 := { stood := { row := topSportsApartUptoRow, standIns := [], harness := (true, "0a2afc013038adf80f2a7393bf0a1521ec4d8666e87b15dd81ef4eba478bbf0a"), looks := true }, kinds := [], alts := [], laidByText := true, laidKinds := [.data, .data, .data, .sentinel, .sentinel], laidTests := true, laidLooks := .later }
def TopSportsApartUptoCardSaid : Prop := Claim7.holds Tryz.pinned (.plain (OpenSpec.upto topSportsApartSpec)) topSportsApartUptoCard

/-- THE SECOND FORM's CARD OF 'harriertop.TopCondsTurned'. -/
def topCondsTurnedUptoCard : Claim7 := { stood := { row := topCondsTurnedUptoRow, standIns := [], harness := (true, "0a2afc013038adf80f2a7393bf0a1521ec4d8666e87b15dd81ef4eba478bbf0a"), looks := true }, kinds := [], alts := [], laidByText := true, laidKinds := [.data, .data, .data, .sentinel, .sentinel], laidTests := true, laidLooks := .later }
def TopCondsTurnedUptoCardSaid : Prop := Claim7.holds Tryz.pinned (.plain (OpenSpec.upto topCondsTurnedSpec)) topCondsTurnedUptoCard

/-- THE SECOND FORM's CARD OF 'harriertop.TopCondsFlat'. -/
def topCondsFlatUptoCard : Claim7 := { stood := { row := topCondsFlatUptoRow, standIns := [], harness := (true, "0a2afc013038adf80f2a7393bf0a1521ec4d8666e87b15dd81ef4eba478bbf0a"), looks := true }, kinds := [], alts := [], laidByText := true, laidKinds := [.data, .data, .data, .sentinel, .sentinel], laidTests := true, laidLooks := .later }
def TopCondsFlatUptoCardSaid : Prop := Claim7.holds Tryz.pinned (.plain (OpenSpec.upto topCondsFlatSpec)) topCondsFlatUptoCard
end Rows
end Go.Proofs.YtbdbmpmijmmbeaaGreatDoor
