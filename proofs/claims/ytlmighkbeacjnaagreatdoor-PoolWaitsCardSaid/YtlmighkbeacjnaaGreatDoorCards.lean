/-
  DERIVED. GIVEN WITH THE SEED: THE CARDS: each row of YtlmighkbeacjnaaGreatDoorRows.lean that lists a variable, with what it lists TIED to the program's text (the seventh form; the later family's looks); each row that meets fmt, with fmt's text TOLD by the authors' own Lean function (tested against real Go, not proved from fmt's source: count such statements apart). THE CARD IS WHAT COUNTS. Prove the row's statement (the work); the ties are given (YtlmighkbeacjnaaGreatDoorTie.lean); close each card by the builder's one call (the guide's Derived/Test/ToyasCard.lean, 'card_holds'). Laid BY PROGRAM, IN A SANDBOX (cutbox-door.mjs). By AI agents, Wed Nov 11 2026. No macro, syntax, notation, axiom, sorry.
-/
import Derived.Test.YtlmighkbeacjnaaGreatDoorRows
import GoSem.ClaimSeven
namespace Go.Proofs.YtlmighkbeacjnaaGreatDoor
namespace Rows

/-- THE TIED CARD OF 'thimbleriglaw26.PoolDoes'. -/
def poolDoesCard : Claim7 := { stood := { row := poolDoesRow, standIns := [], harness := (true, "64a53cd4c1b3e9515e009f2813280166f3d1166dbf27dc3a70f1b848b98aba82"), looks := true }, kinds := [], alts := [], laidByText := true, laidKinds := [.handle], laidTests := true, laidLooks := .later }
def PoolDoesCardSaid : Prop := Claim7.holds Tryz.pinned (.plain (OpenSpec.ofChange poolDoesSpec)) poolDoesCard

/-- THE TIED CARD OF 'thimbleriglaw26.PoolNames'. -/
def poolNamesCard : Claim7 := { stood := { row := poolNamesRow, standIns := [], harness := (true, "64a53cd4c1b3e9515e009f2813280166f3d1166dbf27dc3a70f1b848b98aba82"), looks := true }, kinds := [], alts := [], laidByText := true, laidKinds := [.handle], laidTests := true, laidLooks := .later }
def PoolNamesCardSaid : Prop := Claim7.holds Tryz.pinned (.plain (OpenSpec.ofChange poolNamesSpec)) poolNamesCard

/-- THE TIED CARD OF 'thimbleriglaw26.PoolModel'. -/
def poolModelCard : Claim7 := { stood := { row := poolModelRow, standIns := [], harness := (true, "64a53cd4c1b3e9515e009f2813280166f3d1166dbf27dc3a70f1b848b98aba82"), looks := true }, kinds := [], alts := [], laidByText := true, laidKinds := [.handle], laidTests := true, laidLooks := .later }
def PoolModelCardSaid : Prop := Claim7.holds Tryz.pinned (.plain (OpenSpec.ofChange poolModelSpec)) poolModelCard

/-- THE TIED CARD OF 'thimbleriglaw26.PoolServes'. -/
def poolServesCard : Claim7 := { stood := { row := poolServesRow, standIns := [], harness := (true, "64a53cd4c1b3e9515e009f2813280166f3d1166dbf27dc3a70f1b848b98aba82"), looks := true }, kinds := [], alts := [], laidByText := true, laidKinds := [.handle], laidTests := true, laidLooks := .later }
def PoolServesCardSaid : Prop := Claim7.holds Tryz.pinned (.plain (OpenSpec.ofChange poolServesSpec)) poolServesCard

/-- THE TIED CARD OF 'thimbleriglaw26.PoolWaits'. -/
def poolWaitsCard : Claim7 := { stood := { row := poolWaitsRow, standIns := [], harness := (true, "64a53cd4c1b3e9515e009f2813280166f3d1166dbf27dc3a70f1b848b98aba82"), looks := true }, kinds := [], alts := [], laidByText := true, laidKinds := [.handle], laidTests := true, laidLooks := .later }
def PoolWaitsCardSaid : Prop := Claim7.holds Tryz.pinned (.plain (OpenSpec.ofChange poolWaitsSpec)) poolWaitsCard

/-- THE SECOND FORM's CARD OF 'thimbleriglaw26.PoolDoes'. -/
def poolDoesUptoCard : Claim7 := { stood := { row := poolDoesUptoRow, standIns := [], harness := (true, "64a53cd4c1b3e9515e009f2813280166f3d1166dbf27dc3a70f1b848b98aba82"), looks := true }, kinds := [], alts := [], laidByText := true, laidKinds := [.handle], laidTests := true, laidLooks := .later }
def PoolDoesUptoCardSaid : Prop := Claim7.holds Tryz.pinned (.plain (OpenSpec.upto poolDoesSpec)) poolDoesUptoCard

/-- THE SECOND FORM's CARD OF 'thimbleriglaw26.PoolNames'. -/
def poolNamesUptoCard : Claim7 := { stood := { row := poolNamesUptoRow, standIns := [], harness := (true, "64a53cd4c1b3e9515e009f2813280166f3d1166dbf27dc3a70f1b848b98aba82"), looks := true }, kinds := [], alts := [], laidByText := true, laidKinds := [.handle], laidTests := true, laidLooks := .later }
def PoolNamesUptoCardSaid : Prop := Claim7.holds Tryz.pinned (.plain (OpenSpec.upto poolNamesSpec)) poolNamesUptoCard

/-- THE SECOND FORM's CARD OF 'thimbleriglaw26.PoolModel'. -/
def poolModelUptoCard : Claim7 := { stood := { row := poolModelUptoRow, standIns := [], harness := (true, "64a53cd4c1b3e9515e009f2813280166f3d1166dbf27dc3a70f1b848b98aba82"), looks := true }, kinds := [], alts := [], laidByText := true, laidKinds := [.handle], laidTests := true, laidLooks := .later }
def PoolModelUptoCardSaid : Prop := Claim7.holds Tryz.pinned (.plain (OpenSpec.upto poolModelSpec)) poolModelUptoCard

/-- THE SECOND FORM's CARD OF 'thimbleriglaw26.PoolServes'. -/
def poolServesUptoCard : Claim7 := { stood := { row := poolServesUptoRow, standIns := [], harness := (true, "64a53cd4c1b3e9515e009f2813280166f3d1166dbf27dc3a70f1b848b98aba82"), looks := true }, kinds := [], alts := [], laidByText := true, laidKinds := [.handle], laidTests := true, laidLooks := .later }
def PoolServesUptoCardSaid : Prop := Claim7.holds Tryz.pinned (.plain (OpenSpec.upto poolServesSpec)) poolServesUptoCard

/-- THE SECOND FORM's CARD OF 'thimbleriglaw26.PoolWaits'. -/
def poolWaitsUptoCard : Claim7 := { stood := { row := poolWaitsUptoRow, standIns := [], harness := (true, "64a53cd4c1b3e9515e009f2813280166f3d1166dbf27dc3a70f1b848b98aba82"), looks := true }, kinds := [], alts := [], laidByText := true, laidKinds := [.handle], laidTests := true, laidLooks := .later }
def PoolWaitsUptoCardSaid : Prop := Claim7.holds Tryz.pinned (.plain (OpenSpec.upto poolWaitsSpec)) poolWaitsUptoCard
end Rows
end Go.Proofs.YtlmighkbeacjnaaGreatDoor
