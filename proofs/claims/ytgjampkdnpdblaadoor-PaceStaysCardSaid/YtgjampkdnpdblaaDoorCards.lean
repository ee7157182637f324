/-
  DERIVED. GIVEN WITH THE SEED: THE CARDS: each row of YtgjampkdnpdblaaDoorRows.lean that lists a variable, with what it lists TIED to the program's text (the seventh form; the later family's looks); each row that meets fmt, with fmt's text TOLD by the authors' own Lean function (tested against real Go, not proved from fmt's source: count such statements apart). THE CARD IS WHAT COUNTS. Prove the row's statement (the work); the ties are given (YtgjampkdnpdblaaDoorTie.lean); close each card by the builder's one call (the guide's Derived/Test/ToyasCard.lean, 'card_holds'). Laid BY PROGRAM, IN A SANDBOX (cutbox-door.mjs). By AI agents, Wed Nov 11 2026. No macro, syntax, notation, axiom, sorry.
-/
import Derived.Test.YtgjampkdnpdblaaDoorRows
import GoSem.ClaimSeven
namespace Go.Proofs.YtgjampkdnpdblaaDoor
namespace Rows

/-- THE TIED CARD OF 'landfalllaw02.PaceForms'. -/
def paceFormsCard : Claim7 := { stood := { row := paceFormsRow, standIns := [], harness := (true, "db0368416e68759b4bdd1f75f4b1c00976fe8cf14c3fb414653be2182f54596c"), looks := false }, kinds := [], alts := [], laidByText := true, laidKinds := [.data, .pinned], laidTests := true, laidLooks := .later }
def PaceFormsCardSaid : Prop := Claim7.holds Tryd.pinned (.plain (OpenSpec.ofChange paceFormsSpec)) paceFormsCard

/-- THE TIED CARD OF 'landfalllaw02.PaceKnown'. -/
def paceKnownCard : Claim7 := { stood := { row := paceKnownRow, standIns := [], harness := (true, "db0368416e68759b4bdd1f75f4b1c00976fe8cf14c3fb414653be2182f54596c"), looks := false }, kinds := [], alts := [], laidByText := true, laidKinds := [.data, .pinned], laidTests := true, laidLooks := .later }
def PaceKnownCardSaid : Prop := Claim7.holds Tryd.pinned (.plain (OpenSpec.ofChange paceKnownSpec)) paceKnownCard

/-- THE TIED CARD OF 'landfalllaw02.PaceLine'. -/
def paceLineCard : Claim7 := { stood := { row := paceLineRow, standIns := [], harness := (true, "db0368416e68759b4bdd1f75f4b1c00976fe8cf14c3fb414653be2182f54596c"), looks := false }, kinds := [], alts := [], laidByText := true, laidKinds := [.data, .pinned], laidTests := true, laidLooks := .later }
def PaceLineCardSaid : Prop := Claim7.holds Tryd.pinned (.plain (OpenSpec.ofChange paceLineSpec)) paceLineCard

/-- THE TIED CARD OF 'landfalllaw02.PaceBack'. -/
def paceBackCard : Claim7 := { stood := { row := paceBackRow, standIns := [], harness := (true, "db0368416e68759b4bdd1f75f4b1c00976fe8cf14c3fb414653be2182f54596c"), looks := false }, kinds := [], alts := [], laidByText := true, laidKinds := [.data, .pinned], laidTests := true, laidLooks := .later }
def PaceBackCardSaid : Prop := Claim7.holds Tryd.pinned (.plain (OpenSpec.ofChange paceBackSpec)) paceBackCard

/-- THE TIED CARD OF 'landfalllaw02.PaceStays'. -/
def paceStaysCard : Claim7 := { stood := { row := paceStaysRow, standIns := [], harness := (true, "db0368416e68759b4bdd1f75f4b1c00976fe8cf14c3fb414653be2182f54596c"), looks := false }, kinds := [], alts := [], laidByText := true, laidKinds := [.data, .pinned], laidTests := true, laidLooks := .later }
def PaceStaysCardSaid : Prop := Claim7.holds Tryd.pinned (.plain (OpenSpec.ofChange paceStaysSpec)) paceStaysCard

/-- THE SECOND FORM's CARD OF 'landfalllaw02.PaceForms'. -/
def paceFormsUptoCard : Claim7 := { stood := { row := paceFormsUptoRow, standIns := [], harness := (true, "db0368416e68759b4bdd1f75f4b1c00976fe8cf14c3fb414653be2182f54596c"), looks := false }, kinds := [], alts := [], laidByText := true, laidKinds := [.data, .pinned], laidTests := true, laidLooks := .later }
def PaceFormsUptoCardSaid : Prop := Claim7.holds Tryd.pinned (.plain (OpenSpec.upto paceFormsSpec)) paceFormsUptoCard

/-- THE SECOND FORM's CARD OF 'landfalllaw02.PaceKnown'. -/
def paceKnownUptoCard : Claim7 := { stood := { row := paceKnownUptoRow, standIns := [], harness := (true, "db0368416e68759b4bdd1f75f4b1c00976fe8cf14c3fb414653be2182f54596c"), looks := false }, kinds := [], alts := [], laidByText := true, laidKinds := [.data, .pinned], laidTests := true, laidLooks := .later }
def PaceKnownUptoCardSaid : Prop := Claim7.holds Tryd.pinned (.plain (OpenSpec.upto paceKnownSpec)) paceKnownUptoCard

/-- THE SECOND FORM's CARD OF 'landfalllaw02.PaceLine'. -/
def paceLineUptoCard : Claim7 := { stood := { row := paceLineUptoRow, standIns := [], harness := (true, "db0368416e68759b4bdd1f75f4b1c00976fe8cf14c3fb414653be2182f54596c"), looks := false }, kinds := [], alts := [], laidByText := true, laidKinds := [.data, .pinned], laidTests := true, laidLooks := .later }
def PaceLineUptoCardSaid : Prop := Claim7.holds Tryd.pinned (.plain (OpenSpec.upto paceLineSpec)) paceLineUptoCard

/-- THE SECOND FORM's CARD OF 'landfalllaw02.PaceBack'. -/
def paceBackUptoCard : Claim7 := { stood := { row := paceBackUptoRow, standIns := [], harness := (true, "db0368416e68759b4bdd1f75f4b1c00976fe8cf14c3fb414653be2182f54596c"), looks := false }, kinds := [], alts := [], laidByText := true, laidKinds := [.data, .pinned], laidTests := true, laidLooks := .later }
def PaceBackUptoCardSaid : Prop := Claim7.holds Tryd.pinned (.plain (OpenSpec.upto paceBackSpec)) paceBackUptoCard

/-- THE SECOND FORM's CARD OF 'landfalllaw02.PaceStays'. -/
def paceStaysUptoCard : Claim7 := { stood := { row := paceStaysUptoRow, standIns := [], harness := (true, "db0368416e68759b4bdd1f75f4b1c00976fe8cf14c3fb414653be2182f54596c"), looks := false }, kinds := [], alts := [], laidByText := true, laidKinds := [.data, .pinned], laidTests := true, laidLooks := .later }
def PaceStaysUptoCardSaid : Prop := Claim7.holds Tryd.pinned (.plain (OpenSpec.upto paceStaysSpec)) paceStaysUptoCard
end Rows
end Go.Proofs.YtgjampkdnpdblaaDoor
