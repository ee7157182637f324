/-
  NARROWER THAN 'FOR EVERY INPUT', by the rows' own cells (each row's printed sentence says how): BlakeSums: laid · BlakeNone: laid · BlakeTells: laid · BlakeKnown: laid · BlakePieces: laid · BlakeTexts: laid.
  DERIVED. THE GIVEN ROWS OF THIS SEAT. 6 by the template 'for every input the law returns true; each argument reads behind the call as it read before'; 0 by the template 'total and deterministic' (their statements: YtmfajippoielhaaDoorTotals.lean).
  GIVEN WITH THE SEED: the statements are not yours to turn. If you find one false, say at which input.
  Laid BY PROGRAM, IN A SANDBOX (cutbox-rows.mjs): the forced cells as the released guide's own fill.sh prints them over the translation c0e0cc169ed979ba… (all of the seat's roots in one cut). By AI agents, Wed Nov 11 2026. No macro, syntax, notation, axiom, sorry.
-/
import Derived.Test.YtmfajippoielhaaDoorChecked
import GoSem.PinnedTables
import GoSem.Claim
import GoSem.ClaimJoined
import GoSem.ClaimMapViews
import Derived.JoinedTies
import Derived.KernelRfl
namespace Go.Proofs.YtmfajippoielhaaDoor
/- THE CELL 'sum', in the pinned program and in every row, IS THE sha256 OF THE DUMP (.gsa) THAT YtmfajippoielhaaDoorProg.lean LOADS. Nothing in Lean hashes anything: it is a label: what it is worth is what the hold of that sum in a sandbox is worth. -/
noncomputable def Tryd.pinned : Pinned := { name := "ytmfajippoielhaadoor", sum := "c0e0cc169ed979ba42526e8cbebb7ebc603af5444d5e895d825ba9455edeae3c", checked := Tryd.checked }
namespace Rows
def none {H : Type} : Left H := { results := [], args := [] }

/- WHAT THE LISTED PACKAGE-LEVEL VARIABLES READ AS WHEN THE CALL BEGINS. Each datum BY PROGRAM (the guide's laid-datum.mjs) off the statement by which the dump's own 'gosem.cut.vars' lays the variable. In a bare row this is a premise. The card (YtmfajippoielhaaDoorCards.lean) ties it to the program's text. -/
def laid_unicode_utf8_acceptRanges {H : Type} : DataW H := .agg [.agg [.lit (.int .u8 128), .lit (.int .u8 191)], .agg [.lit (.int .u8 160), .lit (.int .u8 191)], .agg [.lit (.int .u8 128), .lit (.int .u8 159)], .agg [.lit (.int .u8 144), .lit (.int .u8 191)], .agg [.lit (.int .u8 128), .lit (.int .u8 143)], .agg [.lit (.int .u8 0), .lit (.int .u8 0)], .agg [.lit (.int .u8 0), .lit (.int .u8 0)], .agg [.lit (.int .u8 0), .lit (.int .u8 0)], .agg [.lit (.int .u8 0), .lit (.int .u8 0)], .agg [.lit (.int .u8 0), .lit (.int .u8 0)], .agg [.lit (.int .u8 0), .lit (.int .u8 0)], .agg [.lit (.int .u8 0), .lit (.int .u8 0)], .agg [.lit (.int .u8 0), .lit (.int .u8 0)], .agg [.lit (.int .u8 0), .lit (.int .u8 0)], .agg [.lit (.int .u8 0), .lit (.int .u8 0)], .agg [.lit (.int .u8 0), .lit (.int .u8 0)]]
/-- One of Go's own tables, pinned by name: the form's constant. -/
def laid_unicode_utf8_first : DataW Unit := Go.Pinned.utf8First

/-- 'landfalllaw03.BlakeSums': WHATEVER THE INPUT: true; the input reads as it did. -/
def blakeSumsSpec : ChangeSpec := { name := "blakeSums", fn := fun _ => fun
  | [d] => { results := [.lit (.bool true)], args := [d] }
  | _ => none }
def blakeSumsRow : OpenClaim := { program := "ytmfajippoielhaadoor", sum := "c0e0cc169ed979ba42526e8cbebb7ebc603af5444d5e895d825ba9455edeae3c", func := "landfall/landfalllaw03.BlakeSums", spec := "blakeSums", inPlace := ["internal/bytealg.IndexByteString", "internal/bytealg.IndexString"], named := ["unicode/utf8.first", "unicode/utf8.acceptRanges", "internal/bytealg.MaxLen"], apart := false, laid := [("unicode/utf8.acceptRanges", laid_unicode_utf8_acceptRanges), ("unicode/utf8.first", laid_unicode_utf8_first)] }
def BlakeSumsSaid : Prop := blakeSumsRow.holds Tryd.pinned (OpenSpec.ofChange blakeSumsSpec)

/-- ITS FALSE NEIGHBOUR: 'it returns false'. Refute it at one input. -/
def blakeSumsWrong : ChangeSpec := { name := "blakeSums", fn := fun _ => fun
  | [d] => { results := [.lit (.bool false)], args := [d] }
  | _ => none }
def BlakeSumsWrongFalsely : Prop := blakeSumsRow.holds Tryd.pinned (OpenSpec.ofChange blakeSumsWrong)

/-- 'landfalllaw03.BlakeNone': WHATEVER THE INPUT: true; the input reads as it did. -/
def blakeNoneSpec : ChangeSpec := { name := "blakeNone", fn := fun _ => fun
  | [d] => { results := [.lit (.bool true)], args := [d] }
  | _ => none }
def blakeNoneRow : OpenClaim := { program := "ytmfajippoielhaadoor", sum := "c0e0cc169ed979ba42526e8cbebb7ebc603af5444d5e895d825ba9455edeae3c", func := "landfall/landfalllaw03.BlakeNone", spec := "blakeNone", inPlace := ["internal/bytealg.IndexByteString", "internal/bytealg.IndexString"], named := ["unicode/utf8.first", "unicode/utf8.acceptRanges", "internal/bytealg.MaxLen"], apart := false, laid := [("unicode/utf8.acceptRanges", laid_unicode_utf8_acceptRanges), ("unicode/utf8.first", laid_unicode_utf8_first)] }
def BlakeNoneSaid : Prop := blakeNoneRow.holds Tryd.pinned (OpenSpec.ofChange blakeNoneSpec)

/-- ITS FALSE NEIGHBOUR: 'it returns false'. Refute it at one input. -/
def blakeNoneWrong : ChangeSpec := { name := "blakeNone", fn := fun _ => fun
  | [d] => { results := [.lit (.bool false)], args := [d] }
  | _ => none }
def BlakeNoneWrongFalsely : Prop := blakeNoneRow.holds Tryd.pinned (OpenSpec.ofChange blakeNoneWrong)

/-- 'landfalllaw03.BlakeTells': WHATEVER THE INPUT: true; the input reads as it did. -/
def blakeTellsSpec : ChangeSpec := { name := "blakeTells", fn := fun _ => fun
  | [d1, d2, d3] => { results := [.lit (.bool true)], args := [d1, d2, d3] }
  | _ => none }
def blakeTellsRow : OpenClaim := { program := "ytmfajippoielhaadoor", sum := "c0e0cc169ed979ba42526e8cbebb7ebc603af5444d5e895d825ba9455edeae3c", func := "landfall/landfalllaw03.BlakeTells", spec := "blakeTells", inPlace := ["internal/bytealg.IndexByteString", "internal/bytealg.IndexString", "internal/bytealg.Compare"], named := ["unicode/utf8.first", "unicode/utf8.acceptRanges", "internal/bytealg.MaxLen"], apart := false, laid := [("unicode/utf8.acceptRanges", laid_unicode_utf8_acceptRanges), ("unicode/utf8.first", laid_unicode_utf8_first)] }
def BlakeTellsSaid : Prop := blakeTellsRow.holds Tryd.pinned (OpenSpec.ofChange blakeTellsSpec)

/-- ITS FALSE NEIGHBOUR: 'it returns false'. Refute it at one input. -/
def blakeTellsWrong : ChangeSpec := { name := "blakeTells", fn := fun _ => fun
  | [d1, d2, d3] => { results := [.lit (.bool false)], args := [d1, d2, d3] }
  | _ => none }
def BlakeTellsWrongFalsely : Prop := blakeTellsRow.holds Tryd.pinned (OpenSpec.ofChange blakeTellsWrong)

/-- 'landfalllaw03.BlakeKnown': WHATEVER THE INPUT: true; the input reads as it did. -/
def blakeKnownSpec : ChangeSpec := { name := "blakeKnown", fn := fun _ => fun
  | [] => { results := [.lit (.bool true)], args := [] }
  | _ => none }
def blakeKnownRow : OpenClaim := { program := "ytmfajippoielhaadoor", sum := "c0e0cc169ed979ba42526e8cbebb7ebc603af5444d5e895d825ba9455edeae3c", func := "landfall/landfalllaw03.BlakeKnown", spec := "blakeKnown", inPlace := ["internal/bytealg.IndexByteString", "internal/bytealg.IndexString", "internal/bytealg.Compare"], named := ["unicode/utf8.first", "unicode/utf8.acceptRanges", "internal/bytealg.MaxLen"], apart := false, laid := [("unicode/utf8.acceptRanges", laid_unicode_utf8_acceptRanges), ("unicode/utf8.first", laid_unicode_utf8_first)] }
def BlakeKnownSaid : Prop := blakeKnownRow.holds Tryd.pinned (OpenSpec.ofChange blakeKnownSpec)

/-- ITS FALSE NEIGHBOUR: 'it returns false'. Refute it at one input. -/
def blakeKnownWrong : ChangeSpec := { name := "blakeKnown", fn := fun _ => fun
  | [] => { results := [.lit (.bool false)], args := [] }
  | _ => none }
def BlakeKnownWrongFalsely : Prop := blakeKnownRow.holds Tryd.pinned (OpenSpec.ofChange blakeKnownWrong)

/-- 'landfalllaw03.BlakePieces': WHATEVER THE INPUT: true; the input reads as it did. -/
def blakePiecesSpec : ChangeSpec := { name := "blakePieces", fn := fun _ => fun
  | [d1, d2] => { results := [.lit (.bool true)], args := [d1, d2] }
  | _ => none }
def blakePiecesRow : OpenClaim := { program := "ytmfajippoielhaadoor", sum := "c0e0cc169ed979ba42526e8cbebb7ebc603af5444d5e895d825ba9455edeae3c", func := "landfall/landfalllaw03.BlakePieces", spec := "blakePieces", inPlace := ["internal/bytealg.IndexByteString", "internal/bytealg.IndexString", "internal/bytealg.Compare"], named := ["unicode/utf8.first", "unicode/utf8.acceptRanges", "internal/bytealg.MaxLen"], apart := false, laid := [("unicode/utf8.acceptRanges", laid_unicode_utf8_acceptRanges), ("unicode/utf8.first", laid_unicode_utf8_first)] }
def BlakePiecesSaid : Prop := blakePiecesRow.holds Tryd.pinned (OpenSpec.ofChange blakePiecesSpec)

/-- ITS FALSE NEIGHBOUR: 'it returns false'. Refute it at one input. -/
def blakePiecesWrong : ChangeSpec := { name := "blakePieces", fn := fun _ => fun
  | [d1, d2] => { results := [.lit (.bool false)], args := [d1, d2] }
  | _ => none }
def BlakePiecesWrongFalsely : Prop := blakePiecesRow.holds Tryd.pinned (OpenSpec.ofChange blakePiecesWrong)

/-- 'landfalllaw03.BlakeTexts': WHATEVER THE INPUT: true; the input reads as it did. -/
def blakeTextsSpec : ChangeSpec := { name := "blakeTexts", fn := fun _ => fun
  | [d1, d2, d3] => { results := [.lit (.bool true)], args := [d1, d2, d3] }
  | _ => none }
def blakeTextsRow : OpenClaim := { program := "ytmfajippoielhaadoor", sum := "c0e0cc169ed979ba42526e8cbebb7ebc603af5444d5e895d825ba9455edeae3c", func := "landfall/landfalllaw03.BlakeTexts", spec := "blakeTexts", inPlace := ["internal/bytealg.IndexByteString", "internal/bytealg.IndexString", "internal/bytealg.Compare"], named := ["unicode/utf8.first", "unicode/utf8.acceptRanges", "internal/bytealg.MaxLen"], apart := false, laid := [("unicode/utf8.acceptRanges", laid_unicode_utf8_acceptRanges), ("unicode/utf8.first", laid_unicode_utf8_first)] }
def BlakeTextsSaid : Prop := blakeTextsRow.holds Tryd.pinned (OpenSpec.ofChange blakeTextsSpec)

/-- ITS FALSE NEIGHBOUR: 'it returns false'. Refute it at one input. -/
def blakeTextsWrong : ChangeSpec := { name := "blakeTexts", fn := fun _ => fun
  | [d1, d2, d3] => { results := [.lit (.bool false)], args := [d1, d2, d3] }
  | _ => none }
def BlakeTextsWrongFalsely : Prop := blakeTextsRow.holds Tryd.pinned (OpenSpec.ofChange blakeTextsWrong)

/- THE SECOND FORM. 'bulk': how many values and letters a reading holds, each counted each time it is reached (what is shared counts as often as it is met; a slice's spare places count too). A statement '..UptoSaid' is the law's where the arguments, and the package variables that the reading takes, are together of bulk at most 1048576: NARROWER than '..Said'. Prove '..Said' where nothing that the law and all that it calls make is longer than what came in: it says more and counts as full. Else prove '..UptoSaid'. A law counts once. -/
mutual
def uptoBulk {H : Type} : DataW H → Nat
  | .lit (.string bytes) => bytes.length + 1
  | .lit _ => 1
  | .nil => 1
  | .ptr d => uptoBulk d + 1
  | .slice elems spare => uptoBulkAll elems + uptoBulkAll spare + 1
  | .agg parts => uptoBulkAll parts + 1
  | .iface _ d => uptoBulk d + 1
  | .map entries => uptoBulkEntries entries + 1
  | .held _ => 1
def uptoBulkAll {H : Type} : List (DataW H) → Nat
  | [] => 0
  | d :: r => uptoBulk d + uptoBulkAll r
def uptoBulkEntries {H : Type} : List (Lit × DataW H) → Nat
  | [] => 0
  | x :: r => uptoBulkEntry x + uptoBulkEntries r
def uptoBulkEntry {H : Type} : Lit × DataW H → Nat
  | (.string bytes, d) => bytes.length + uptoBulk d + 1
  | (_, d) => uptoBulk d + 1
 end
def uptoSmall : (H : Type) → List (DataW H) → Bool := fun _ ds => decide (uptoBulkAll ds ≤ 1048576)
def OpenSpec.upto (s : _root_.Go.ChangeSpec) : _root_.Go.OpenSpec := { _root_.Go.OpenSpec.ofChange s with cond := some uptoSmall }

/-- 'landfalllaw03.BlakeSums', WHERE WHAT IT READS IS OF BULK AT MOST 1048576: true; the input reads as it did. -/
def blakeSumsUptoRow : OpenClaim := { program := "ytmfajippoielhaadoor", sum := "c0e0cc169ed979ba42526e8cbebb7ebc603af5444d5e895d825ba9455edeae3c", func := "landfall/landfalllaw03.BlakeSums", spec := "blakeSums", inPlace := ["internal/bytealg.IndexByteString", "internal/bytealg.IndexString"], named := ["unicode/utf8.first", "unicode/utf8.acceptRanges", "internal/bytealg.MaxLen"], apart := false, laid := [("unicode/utf8.acceptRanges", laid_unicode_utf8_acceptRanges), ("unicode/utf8.first", laid_unicode_utf8_first)], narrowed := true }
def BlakeSumsUptoSaid : Prop := blakeSumsUptoRow.holds Tryd.pinned (OpenSpec.upto blakeSumsSpec)

/-- 'landfalllaw03.BlakeNone', WHERE WHAT IT READS IS OF BULK AT MOST 1048576: true; the input reads as it did. -/
def blakeNoneUptoRow : OpenClaim := { program := "ytmfajippoielhaadoor", sum := "c0e0cc169ed979ba42526e8cbebb7ebc603af5444d5e895d825ba9455edeae3c", func := "landfall/landfalllaw03.BlakeNone", spec := "blakeNone", inPlace := ["internal/bytealg.IndexByteString", "internal/bytealg.IndexString"], named := ["unicode/utf8.first", "unicode/utf8.acceptRanges", "internal/bytealg.MaxLen"], apart := false, laid := [("unicode/utf8.acceptRanges", laid_unicode_utf8_acceptRanges), ("unicode/utf8.first", laid_unicode_utf8_first)], narrowed := true }
def BlakeNoneUptoSaid : Prop := blakeNoneUptoRow.holds Tryd.pinned (OpenSpec.upto blakeNoneSpec)

/-- 'landfalllaw03.BlakeTells', WHERE WHAT IT READS IS OF BULK AT MOST 1048576: true; the input reads as it did. -/
def blakeTellsUptoRow : OpenClaim := { program := "ytmfajippoielhaadoor", sum := "c0e0cc169ed979ba42526e8cbebb7ebc603af5444d5e895d825ba9455edeae3c", func := "landfall/landfalllaw03.BlakeTells", spec := "blakeTells", inPlace := ["internal/bytealg.IndexByteString", "internal/bytealg.IndexString", "internal/bytealg.Compare"], named := ["unicode/utf8.first", "unicode/utf8.acceptRanges", "internal/bytealg.MaxLen"], apart := false, laid := [("unicode/utf8.acceptRanges", laid_unicode_utf8_acceptRanges), ("unicode/utf8.first", laid_unicode_utf8_first)], narrowed := true }
def BlakeTellsUptoSaid : Prop := blakeTellsUptoRow.holds Tryd.pinned (OpenSpec.upto blakeTellsSpec)

/-- 'landfalllaw03.BlakeKnown', WHERE WHAT IT READS IS OF BULK AT MOST 1048576: true; the input reads as it did. -/
def blakeKnownUptoRow : OpenClaim := { program := "ytmfajippoielhaadoor", sum := "c0e0cc169ed979ba42526e8cbebb7ebc603af5444d5e895d825ba9455edeae3c", func := "landfall/landfalllaw03.BlakeKnown", spec := "blakeKnown", inPlace := ["internal/bytealg.IndexByteString", "internal/bytealg.IndexString", "internal/bytealg.Compare"], named := ["unicode/utf8.first", "unicode/utf8.acceptRanges", "internal/bytealg.MaxLen"], apart := false, laid := [("unicode/utf8.acceptRanges", laid_unicode_utf8_acceptRanges), ("unicode/utf8.first", laid_unicode_utf8_first)], narrowed := true }
def BlakeKnownUptoSaid : Prop := blakeKnownUptoRow.holds Tryd.pinned (OpenSpec.upto blakeKnownSpec)

/-- 'landfalllaw03.BlakePieces', WHERE WHAT IT READS IS OF BULK AT MOST 1048576: true; the input reads as it did. -/
def blakePiecesUptoRow : OpenClaim := { program := "ytmfajippoielhaadoor", sum := "c0e0cc169ed979ba42526e8cbebb7ebc603af5444d5e895d825ba9455edeae3c", func := "landfall/landfalllaw03.BlakePieces", spec := "blakePieces", inPlace := ["internal/bytealg.IndexByteString", "internal/bytealg.IndexString", "internal/bytealg.Compare"], named := ["unicode/utf8.first", "unicode/utf8.acceptRanges", "internal/bytealg.MaxLen"], apart := false, laid := [("unicode/utf8.acceptRanges", laid_unicode_utf8_acceptRanges), ("unicode/utf8.first", laid_unicode_utf8_first)], narrowed := true }
def BlakePiecesUptoSaid : Prop := blakePiecesUptoRow.holds Tryd.pinned (OpenSpec.upto blakePiecesSpec)

/-- 'landfalllaw03.BlakeTexts', WHERE WHAT IT READS IS OF BULK AT MOST 1048576: true; the input reads as it did. -/
def blakeTextsUptoRow : OpenClaim := { program := "ytmfajippoielhaadoor", sum := "c0e0cc169ed979ba42526e8cbebb7ebc603af5444d5e895d825ba9455edeae3c", func := "landfall/landfalllaw03.BlakeTexts", spec := "blakeTexts", inPlace := ["internal/bytealg.IndexByteString", "internal/bytealg.IndexString", "internal/bytealg.Compare"], named := ["unicode/utf8.first", "unicode/utf8.acceptRanges", "internal/bytealg.MaxLen"], apart := false, laid := [("unicode/utf8.acceptRanges", laid_unicode_utf8_acceptRanges), ("unicode/utf8.first", laid_unicode_utf8_first)], narrowed := true }
def BlakeTextsUptoSaid : Prop := blakeTextsUptoRow.holds Tryd.pinned (OpenSpec.upto blakeTextsSpec)

end Rows
end Go.Proofs.YtmfajippoielhaaDoor
