/-
  NARROWER THAN 'FOR EVERY INPUT', by the rows' own cells (each row's printed sentence says how): PaceForms: laid · PaceKnown: laid · PaceLine: laid · PaceBack: laid · PaceStays: laid.
  DERIVED. THE GIVEN ROWS OF THIS SEAT. 5 by the template 'for every input the law returns true; each argument reads behind the call as it read before'; 0 by the template 'total and deterministic' (their statements: YtgjampkdnpdblaaDoorTotals.lean).
  GIVEN WITH THE SEED: the statements are not yours to turn. If you find one false, say at which input.
  Laid BY PROGRAM, IN A SANDBOX (cutbox-rows.mjs): the forced cells as the released guide's own fill.sh prints them over the translation 751b6ffce7d754b3… (all of the seat's roots in one cut). By AI agents, Wed Nov 11 2026. No macro, syntax, notation, axiom, sorry.
-/
import Derived.Test.YtgjampkdnpdblaaDoorChecked
import GoSem.PinnedTables
import GoSem.Claim
import GoSem.ClaimJoined
import GoSem.ClaimMapViews
import Derived.JoinedTies
import Derived.KernelRfl
namespace Go.Proofs.YtgjampkdnpdblaaDoor
/- THE CELL 'sum', in the pinned program and in every row, IS THE sha256 OF THE DUMP (.gsa) THAT YtgjampkdnpdblaaDoorProg.lean LOADS. Nothing in Lean hashes anything: it is a label: what it is worth is what the hold of that sum in a sandbox is worth. -/
noncomputable def Tryd.pinned : Pinned := { name := "ytgjampkdnpdblaadoor", sum := "751b6ffce7d754b3f078eaa44e8681dad8553ff26b4e55aae20ce7f971e9a250", checked := Tryd.checked }
namespace Rows
def none {H : Type} : Left H := { results := [], args := [] }

/- WHAT THE LISTED PACKAGE-LEVEL VARIABLES READ AS WHEN THE CALL BEGINS. Each datum BY PROGRAM (the guide's laid-datum.mjs) off the statement by which the dump's own 'gosem.cut.vars' lays the variable. In a bare row this is a premise. The card (YtgjampkdnpdblaaDoorCards.lean) ties it to the program's text. -/
def laid_unicode_utf8_acceptRanges {H : Type} : DataW H := .agg [.agg [.lit (.int .u8 128), .lit (.int .u8 191)], .agg [.lit (.int .u8 160), .lit (.int .u8 191)], .agg [.lit (.int .u8 128), .lit (.int .u8 159)], .agg [.lit (.int .u8 144), .lit (.int .u8 191)], .agg [.lit (.int .u8 128), .lit (.int .u8 143)], .agg [.lit (.int .u8 0), .lit (.int .u8 0)], .agg [.lit (.int .u8 0), .lit (.int .u8 0)], .agg [.lit (.int .u8 0), .lit (.int .u8 0)], .agg [.lit (.int .u8 0), .lit (.int .u8 0)], .agg [.lit (.int .u8 0), .lit (.int .u8 0)], .agg [.lit (.int .u8 0), .lit (.int .u8 0)], .agg [.lit (.int .u8 0), .lit (.int .u8 0)], .agg [.lit (.int .u8 0), .lit (.int .u8 0)], .agg [.lit (.int .u8 0), .lit (.int .u8 0)], .agg [.lit (.int .u8 0), .lit (.int .u8 0)], .agg [.lit (.int .u8 0), .lit (.int .u8 0)]]
/-- One of Go's own tables, pinned by name: the form's constant. -/
def laid_unicode_utf8_first : DataW Unit := Go.Pinned.utf8First

/-- 'landfalllaw02.PaceForms': WHATEVER THE INPUT: true; the input reads as it did. -/
def paceFormsSpec : ChangeSpec := { name := "paceForms", fn := fun _ => fun
  | [d1, d2] => { results := [.lit (.bool true)], args := [d1, d2] }
  | _ => none }
def paceFormsRow : OpenClaim := { program := "ytgjampkdnpdblaadoor", sum := "751b6ffce7d754b3f078eaa44e8681dad8553ff26b4e55aae20ce7f971e9a250", func := "landfall/landfalllaw02.PaceForms", spec := "paceForms", inPlace := ["math.Float64bits", "math.Float64frombits", "internal/bytealg.IndexByteString", "internal/bytealg.IndexString"], named := ["unicode/utf8.first", "unicode/utf8.acceptRanges", "internal/bytealg.MaxLen"], apart := false, laid := [("unicode/utf8.acceptRanges", laid_unicode_utf8_acceptRanges), ("unicode/utf8.first", laid_unicode_utf8_first)] }
def PaceFormsSaid : Prop := paceFormsRow.holds Tryd.pinned (OpenSpec.ofChange paceFormsSpec)

/-- ITS FALSE NEIGHBOUR: 'it returns false'. Refute it at one input. -/
def paceFormsWrong : ChangeSpec := { name := "paceForms", fn := fun _ => fun
  | [d1, d2] => { results := [.lit (.bool false)], args := [d1, d2] }
  | _ => none }
def PaceFormsWrongFalsely : Prop := paceFormsRow.holds Tryd.pinned (OpenSpec.ofChange paceFormsWrong)

/-- 'landfalllaw02.PaceKnown': WHATEVER THE INPUT: true; the input reads as it did. -/
def paceKnownSpec : ChangeSpec := { name := "paceKnown", fn := fun _ => fun
  | [] => { results := [.lit (.bool true)], args := [] }
  | _ => none }
def paceKnownRow : OpenClaim := { program := "ytgjampkdnpdblaadoor", sum := "751b6ffce7d754b3f078eaa44e8681dad8553ff26b4e55aae20ce7f971e9a250", func := "landfall/landfalllaw02.PaceKnown", spec := "paceKnown", inPlace := ["math.Float64bits", "math.Float64frombits", "internal/bytealg.IndexByteString", "internal/bytealg.IndexString"], unfollowed := true, recurses := true, named := ["unicode/utf8.first", "unicode/utf8.acceptRanges", "internal/bytealg.MaxLen"], apart := false, laid := [("unicode/utf8.acceptRanges", laid_unicode_utf8_acceptRanges), ("unicode/utf8.first", laid_unicode_utf8_first)] }
def PaceKnownSaid : Prop := paceKnownRow.holds Tryd.pinned (OpenSpec.ofChange paceKnownSpec)

/-- ITS FALSE NEIGHBOUR: 'it returns false'. Refute it at one input. -/
def paceKnownWrong : ChangeSpec := { name := "paceKnown", fn := fun _ => fun
  | [] => { results := [.lit (.bool false)], args := [] }
  | _ => none }
def PaceKnownWrongFalsely : Prop := paceKnownRow.holds Tryd.pinned (OpenSpec.ofChange paceKnownWrong)

/-- 'landfalllaw02.PaceLine': WHATEVER THE INPUT: true; the input reads as it did. -/
def paceLineSpec : ChangeSpec := { name := "paceLine", fn := fun _ => fun
  | [d1, d2, d3] => { results := [.lit (.bool true)], args := [d1, d2, d3] }
  | _ => none }
def paceLineRow : OpenClaim := { program := "ytgjampkdnpdblaadoor", sum := "751b6ffce7d754b3f078eaa44e8681dad8553ff26b4e55aae20ce7f971e9a250", func := "landfall/landfalllaw02.PaceLine", spec := "paceLine", inPlace := ["math.Float64frombits", "math.Float64bits", "internal/bytealg.IndexByteString", "internal/bytealg.IndexString"], unfollowed := true, recurses := true, named := ["unicode/utf8.first", "unicode/utf8.acceptRanges", "internal/bytealg.MaxLen"], apart := false, laid := [("unicode/utf8.acceptRanges", laid_unicode_utf8_acceptRanges), ("unicode/utf8.first", laid_unicode_utf8_first)] }
def PaceLineSaid : Prop := paceLineRow.holds Tryd.pinned (OpenSpec.ofChange paceLineSpec)

/-- ITS FALSE NEIGHBOUR: 'it returns false'. Refute it at one input. -/
def paceLineWrong : ChangeSpec := { name := "paceLine", fn := fun _ => fun
  | [d1, d2, d3] => { results := [.lit (.bool false)], args := [d1, d2, d3] }
  | _ => none }
def PaceLineWrongFalsely : Prop := paceLineRow.holds Tryd.pinned (OpenSpec.ofChange paceLineWrong)

/-- 'landfalllaw02.PaceBack': WHATEVER THE INPUT: true; the input reads as it did. -/
def paceBackSpec : ChangeSpec := { name := "paceBack", fn := fun _ => fun
  | [d1, d2] => { results := [.lit (.bool true)], args := [d1, d2] }
  | _ => none }
def paceBackRow : OpenClaim := { program := "ytgjampkdnpdblaadoor", sum := "751b6ffce7d754b3f078eaa44e8681dad8553ff26b4e55aae20ce7f971e9a250", func := "landfall/landfalllaw02.PaceBack", spec := "paceBack", inPlace := ["math.Float64bits", "math.Float64frombits", "internal/bytealg.IndexByteString", "internal/bytealg.IndexString"], unfollowed := true, recurses := true, named := ["unicode/utf8.first", "unicode/utf8.acceptRanges", "internal/bytealg.MaxLen"], apart := false, laid := [("unicode/utf8.acceptRanges", laid_unicode_utf8_acceptRanges), ("unicode/utf8.first", laid_unicode_utf8_first)] }
def PaceBackSaid : Prop := paceBackRow.holds Tryd.pinned (OpenSpec.ofChange paceBackSpec)

/-- ITS FALSE NEIGHBOUR: 'it returns false'. Refute it at one input. -/
def paceBackWrong : ChangeSpec := { name := "paceBack", fn := fun _ => fun
  | [d1, d2] => { results := [.lit (.bool false)], args := [d1, d2] }
  | _ => none }
def PaceBackWrongFalsely : Prop := paceBackRow.holds Tryd.pinned (OpenSpec.ofChange paceBackWrong)

/-- 'landfalllaw02.PaceStays': WHATEVER THE INPUT: true; the input reads as it did. -/
def paceStaysSpec : ChangeSpec := { name := "paceStays", fn := fun _ => fun
  | [d1, d2] => { results := [.lit (.bool true)], args := [d1, d2] }
  | _ => none }
def paceStaysRow : OpenClaim := { program := "ytgjampkdnpdblaadoor", sum := "751b6ffce7d754b3f078eaa44e8681dad8553ff26b4e55aae20ce7f971e9a250", func := "landfall/landfalllaw02.PaceStays", spec := "paceStays", inPlace := ["math.Float64bits", "math.Float64frombits", "internal/bytealg.IndexByteString", "internal/bytealg.IndexString"], unfollowed := true, recurses := true, named := ["unicode/utf8.first", "unicode/utf8.acceptRanges", "internal/bytealg.MaxLen"], apart := false, laid := [("unicode/utf8.acceptRanges", laid_unicode_utf8_acceptRanges), ("unicode/utf8.first", laid_unicode_utf8_first)] }
def PaceStaysSaid : Prop := paceStaysRow.holds Tryd.pinned (OpenSpec.ofChange paceStaysSpec)

/-- ITS FALSE NEIGHBOUR: 'it returns false'. Refute it at one input. -/
def paceStaysWrong : ChangeSpec := { name := "paceStays", fn := fun _ => fun
  | [d1, d2] => { results := [.lit (.bool false)], args := [d1, d2] }
  | _ => none }
def PaceStaysWrongFalsely : Prop := paceStaysRow.holds Tryd.pinned (OpenSpec.ofChange paceStaysWrong)

/- THE SECOND FORM. 'bulk': how many values and letters a reading holds, each counted each time it is reached (what is shared counts as often as it is met; a slice's spare places count too). A statement '..UptoSaid' is the law's where the arguments, and the package variables that the reading takes, are together of bulk at most 1048576: NARROWER than '..Said'. Prove '..Said' where nothing that the law and all that it calls make is longer than what came in: it says more and counts as full. Else prove '..UptoSaid'. A law counts once. -/
mutual
def uptoBulk {H : Type} : DataW H → Nat
  | .lit (.string bytes) => bytes.length + 1
  | .lit _ => 1
  | .nil => 1
  | .ptr d => uptoBulk d + 1
  | .slice elems spare => uptoBulkAll elems + uptoBulkAll spare + 1
  | .agg parts => uptoBulkAll parts + 1
  | .iface _ d => uptoBulk d + 1
  | .map entries => uptoBulkEntries entries + 1
  | .held _ => 1
def uptoBulkAll {H : Type} : List (DataW H) → Nat
  | [] => 0
  | d :: r => uptoBulk d + uptoBulkAll r
def uptoBulkEntries {H : Type} : List (Lit × DataW H) → Nat
  | [] => 0
  | x :: r => uptoBulkEntry x + uptoBulkEntries r
def uptoBulkEntry {H : Type} : Lit × DataW H → Nat
  | (.string bytes, d) => bytes.length + uptoBulk d + 1
  | (_, d) => uptoBulk d + 1
 end
def uptoSmall : (H : Type) → List (DataW H) → Bool := fun _ ds => decide (uptoBulkAll ds ≤ 1048576)
def OpenSpec.upto (s : _root_.Go.ChangeSpec) : _root_.Go.OpenSpec := { _root_.Go.OpenSpec.ofChange s with cond := some uptoSmall }

/-- 'landfalllaw02.PaceForms', WHERE WHAT IT READS IS OF BULK AT MOST 1048576: true; the input reads as it did. -/
def paceFormsUptoRow : OpenClaim := { program := "ytgjampkdnpdblaadoor", sum := "751b6ffce7d754b3f078eaa44e8681dad8553ff26b4e55aae20ce7f971e9a250", func := "landfall/landfalllaw02.PaceForms", spec := "paceForms", inPlace := ["math.Float64bits", "math.Float64frombits", "internal/bytealg.IndexByteString", "internal/bytealg.IndexString"], named := ["unicode/utf8.first", "unicode/utf8.acceptRanges", "internal/bytealg.MaxLen"], apart := false, laid := [("unicode/utf8.acceptRanges", laid_unicode_utf8_acceptRanges), ("unicode/utf8.first", laid_unicode_utf8_first)], narrowed := true }
def PaceFormsUptoSaid : Prop := paceFormsUptoRow.holds Tryd.pinned (OpenSpec.upto paceFormsSpec)

/-- 'landfalllaw02.PaceKnown', WHERE WHAT IT READS IS OF BULK AT MOST 1048576: true; the input reads as it did. -/
def paceKnownUptoRow : OpenClaim := { program := "ytgjampkdnpdblaadoor", sum := "751b6ffce7d754b3f078eaa44e8681dad8553ff26b4e55aae20ce7f971e9a250", func := "landfall/landfalllaw02.PaceKnown", spec := "paceKnown", inPlace := ["math.Float64bits", "math.Float64frombits", "internal/bytealg.IndexByteString", "internal/bytealg.IndexString"], unfollowed := true, recurses := true, named := ["unicode/utf8.first", "unicode/utf8.acceptRanges", "internal/bytealg.MaxLen"], apart := false, laid := [("unicode/utf8.acceptRanges", laid_unicode_utf8_acceptRanges), ("unicode/utf8.first", laid_unicode_utf8_first)], narrowed := true }
def PaceKnownUptoSaid : Prop := paceKnownUptoRow.holds Tryd.pinned (OpenSpec.upto paceKnownSpec)

/-- 'landfalllaw02.PaceLine', WHERE WHAT IT READS IS OF BULK AT MOST 1048576: true; the input reads as it did. -/
def paceLineUptoRow : OpenClaim := { program := "ytgjampkdnpdblaadoor", sum := "751b6ffce7d754b3f078eaa44e8681dad8553ff26b4e55aae20ce7f971e9a250", func := "landfall/landfalllaw02.PaceLine", spec := "paceLine", inPlace := ["math.Float64frombits", "math.Float64bits", "internal/bytealg.IndexByteString", "internal/bytealg.IndexString"], unfollowed := true, recurses := true, named := ["unicode/utf8.first", "unicode/utf8.acceptRanges", "internal/bytealg.MaxLen"], apart := false, laid := [("unicode/utf8.acceptRanges", laid_unicode_utf8_acceptRanges), ("unicode/utf8.first", laid_unicode_utf8_first)], narrowed := true }
def PaceLineUptoSaid : Prop := paceLineUptoRow.holds Tryd.pinned (OpenSpec.upto paceLineSpec)

/-- 'landfalllaw02.PaceBack', WHERE WHAT IT READS IS OF BULK AT MOST 1048576: true; the input reads as it did. -/
def paceBackUptoRow : OpenClaim := { program := "ytgjampkdnpdblaadoor", sum := "751b6ffce7d754b3f078eaa44e8681dad8553ff26b4e55aae20ce7f971e9a250", func := "landfall/landfalllaw02.PaceBack", spec := "paceBack", inPlace := ["math.Float64bits", "math.Float64frombits", "internal/bytealg.IndexByteString", "internal/bytealg.IndexString"], unfollowed := true, recurses := true, named := ["unicode/utf8.first", "unicode/utf8.acceptRanges", "internal/bytealg.MaxLen"], apart := false, laid := [("unicode/utf8.acceptRanges", laid_unicode_utf8_acceptRanges), ("unicode/utf8.first", laid_unicode_utf8_first)], narrowed := true }
def PaceBackUptoSaid : Prop := paceBackUptoRow.holds Tryd.pinned (OpenSpec.upto paceBackSpec)

/-- 'landfalllaw02.PaceStays', WHERE WHAT IT READS IS OF BULK AT MOST 1048576: true; the input reads as it did. -/
def paceStaysUptoRow : OpenClaim := { program := "ytgjampkdnpdblaadoor", sum := "751b6ffce7d754b3f078eaa44e8681dad8553ff26b4e55aae20ce7f971e9a250", func := "landfall/landfalllaw02.PaceStays", spec := "paceStays", inPlace := ["math.Float64bits", "math.Float64frombits", "internal/bytealg.IndexByteString", "internal/bytealg.IndexString"], unfollowed := true, recurses := true, named := ["unicode/utf8.first", "unicode/utf8.acceptRanges", "internal/bytealg.MaxLen"], apart := false, laid := [("unicode/utf8.acceptRanges", laid_unicode_utf8_acceptRanges), ("unicode/utf8.first", laid_unicode_utf8_first)], narrowed := true }
def PaceStaysUptoSaid : Prop := paceStaysUptoRow.holds Tryd.pinned (OpenSpec.upto paceStaysSpec)

end Rows
end Go.Proofs.YtgjampkdnpdblaaDoor
