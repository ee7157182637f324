/-
  DERIVED. GIVEN WITH THE SEED: THE CARDS: each row of YtmfajippoielhaaDoorRows.lean that lists a variable, with what it lists TIED to the program's text (the seventh form; the later family's looks); each row that meets fmt, with fmt's text TOLD by the authors' own Lean function (tested against real Go, not proved from fmt's source: count such statements apart). THE CARD IS WHAT COUNTS. Prove the row's statement (the work); the ties are given (YtmfajippoielhaaDoorTie.lean); close each card by the builder's one call (the guide's Derived/Test/ToyasCard.lean, 'card_holds'). Laid BY PROGRAM, IN A SANDBOX (cutbox-door.mjs). By AI agents, Wed Nov 11 2026. No macro, syntax, notation, axiom, sorry.
-/
import Derived.Test.YtmfajippoielhaaDoorRows
import GoSem.ClaimSeven
namespace Go.Proofs.YtmfajippoielhaaDoor
namespace Rows

/-- THE TIED CARD OF 'landfalllaw03.BlakeSums'. -/
def blakeSumsCard : Claim7 := { stood := { row := blakeSumsRow, standIns := [], harness := (true, "dbaeb7c94d6f9f2389f57f390aa353972a3b7628bf704d6e364495f51669bd5e"), looks := false }, kinds := [], alts := [], laidByText := true, laidKinds := [.data, .pinned], laidTests := true, laidLooks := .later }
def BlakeSumsCardSaid : Prop := Claim7.holds Tryd.pinned (.plain (OpenSpec.ofChange blakeSumsSpec)) blakeSumsCard

/-- THE TIED CARD OF 'landfalllaw03.BlakeNone'. -/
def blakeNoneCard : Claim7 := { stood := { row := blakeNoneRow, standIns := [], harness := (true, "dbaeb7c94d6f9f2389f57f390aa353972a3b7628bf704d6e364495f51669bd5e"), looks := false }, kinds := [], alts := [], laidByText := true, laidKinds := [.data, .pinned], laidTests := true, laidLooks := .later }
def BlakeNoneCardSaid : Prop := Claim7.holds Tryd.pinned (.plain (OpenSpec.ofChange blakeNoneSpec)) blakeNoneCard

/-- THE TIED CARD OF 'landfalllaw03.BlakeTells'. -/
def blakeTellsCard : Claim7 := { stood := { row := blakeTellsRow, standIns := [], harness := (true, "dbaeb7c94d6f9f2389f57f390aa353972a3b7628bf704d6e364495f51669bd5e"), looks := false }, kinds := [], alts := [], laidByText := true, laidKinds := [.data, .pinned], laidTests := true, laidLooks := .later }
def BlakeTellsCardSaid : Prop := Claim7.holds Tryd.pinned (.plain (OpenSpec.ofChange blakeTellsSpec)) blakeTellsCard

/-- THE TIED CARD OF 'landfalllaw03.BlakeKnown'. -/
def blakeKnownCard : Claim7 := { stood := { row := blakeKnownRow, standIns := [], harness := (true, "dbaeb7c94d6f9f2389f57f390aa353972a3b7628bf704d6e364495f51669bd5e"), looks := false }, kinds := [], alts := [], laidByText := true, laidKinds := [.data, .pinned], laidTests := true, laidLooks := .later }
def BlakeKnownCardSaid : Prop := Claim7.holds Tryd.pinned (.plain (OpenSpec.ofChange blakeKnownSpec)) blakeKnownCard

/-- THE TIED CARD OF 'landfalllaw03.BlakePieces'. -/
def blakePiecesCard : Claim7 := { stood := { row := blakePiecesRow, standIns := [], harness := (true, "dbaeb7c94d6f9f2389f57f390aa353972a3b7628bf704d6e364495f51669bd5e"), looks := false }, kinds := [], alts := [], laidByText := true, laidKinds := [.data, .pinned], laidTests := true, laidLooks := .later }
def BlakePiecesCardSaid : Prop := Claim7.holds Tryd.pinned (.plain (OpenSpec.ofChange blakePiecesSpec)) blakePiecesCard

/-- THE TIED CARD OF 'landfalllaw03.BlakeTexts'. -/
def blakeTextsCard : Claim7 := { stood := { row := blakeTextsRow, standIns := [], harness := (true, "dbaeb7c94d6f9f2389f57f390aa353972a3b7628bf704d6e364495f51669bd5e"), looks := false }, kinds := [], alts := [], laidByText := true, laidKinds := [.data, .pinned], laidTests := true, laidLooks := .later }
def BlakeTextsCardSaid : Prop := Claim7.holds Tryd.pinned (.plain (OpenSpec.ofChange blakeTextsSpec)) blakeTextsCard

/-- THE SECOND FORM's CARD OF 'landfalllaw03.BlakeSums'. -/
def blakeSumsUptoCard : Claim7 := { stood := { row := blakeSumsUptoRow, standIns := [], harness := (true, "dbaeb7c94d6f9f2389f57f390aa353972a3b7628bf704d6e364495f51669bd5e"), looks := false }, kinds := [], alts := [], laidByText := true, laidKinds := [.data, .pinned], laidTests := true, laidLooks := .later }
def BlakeSumsUptoCardSaid : Prop := Claim7.holds Tryd.pinned (.plain (OpenSpec.upto blakeSumsSpec)) blakeSumsUptoCard

/-- THE SECOND FORM's CARD OF 'landfalllaw03.BlakeNone'. -/
def blakeNoneUptoCard : Claim7 := { stood := { row := blakeNoneUptoRow, standIns := [], harness := (true, "dbaeb7c94d6f9f2389f57f390aa353972a3b7628bf704d6e364495f51669bd5e"), looks := false }, kinds := [], alts := [], laidByText := true, laidKinds := [.data, .pinned], laidTests := true, laidLooks := .later }
def BlakeNoneUptoCardSaid : Prop := Claim7.holds Tryd.pinned (.plain (OpenSpec.upto blakeNoneSpec)) blakeNoneUptoCard

/-- THE SECOND FORM's CARD OF 'landfalllaw03.BlakeTells'. -/
def blakeTellsUptoCard : Claim7 := { stood := { row := blakeTellsUptoRow, standIns := [], harness := (true, "dbaeb7c94d6f9f2389f57f390aa353972a3b7628bf704d6e364495f51669bd5e"), looks := false }, kinds := [], alts := [], laidByText := true, laidKinds := [.data, .pinned], laidTests := true, laidLooks := .later }
def BlakeTellsUptoCardSaid : Prop := Claim7.holds Tryd.pinned (.plain (OpenSpec.upto blakeTellsSpec)) blakeTellsUptoCard

/-- THE SECOND FORM's CARD OF 'landfalllaw03.BlakeKnown'. -/
def blakeKnownUptoCard : Claim7 := { stood := { row := blakeKnownUptoRow, standIns := [], harness := (true, "dbaeb7c94d6f9f2389f57f390aa353972a3b7628bf704d6e364495f51669bd5e"), looks := false }, kinds := [], alts := [], laidByText := true, laidKinds := [.data, .pinned], laidTests := true, laidLooks := .later }
def BlakeKnownUptoCardSaid : Prop := Claim7.holds Tryd.pinned (.plain (OpenSpec.upto blakeKnownSpec)) blakeKnownUptoCard

/-- THE SECOND FORM's CARD OF 'landfalllaw03.BlakePieces'. -/
def blakePiecesUptoCard : Claim7 := { stood := { row := blakePiecesUptoRow, standIns := [], harness := (true, "dbaeb7c94d6f9f2389f57f390aa353972a3b7628bf704d6e364495f51669bd5e"), looks := false }, kinds := [], alts := [], laidByText := true, laidKinds := [.data, .pinned], laidTests := true, laidLooks := .later }
def BlakePiecesUptoCardSaid : Prop := Claim7.holds Tryd.pinned (.plain (OpenSpec.upto blakePiecesSpec)) blakePiecesUptoCard

/-- THE SECOND FORM's CARD OF 'landfalllaw03.BlakeTexts'. -/
def blakeTextsUptoCard : Claim7 := { stood := { row := blakeTextsUptoRow, standIns := [], harness := (true, "dbaeb7c94d6f9f2389f57f390aa353972a3b7628bf704d6e364495f51669bd5e"), looks := false }, kinds := [], alts := [], laidByText := true, laidKinds := [.data, .pinned], laidTests := true, laidLooks := .later }
def BlakeTextsUptoCardSaid : Prop := Claim7.holds Tryd.pinned (.plain (OpenSpec.upto blakeTextsSpec)) blakeTextsUptoCard
end Rows
end Go.Proofs.YtmfajippoielhaaDoor
