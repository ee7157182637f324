/-
  No cell of these rows narrows 'for every input' (looked for: loops, veiled, ifaces, maps, wideKeys, modest, calm, conditions, laid).
  DERIVED. THE GIVEN ROWS OF THIS SEAT. 10 by the template 'for every input the law returns true; each argument reads behind the call as it read before'; 0 by the template 'total and deterministic' (their statements: YtocibljkmgffeaaTotals.lean).
  GIVEN WITH THE SEED: the statements are not yours to turn. If you find one false, say at which input.
  Laid BY PROGRAM, IN A SANDBOX (cutbox-rows.mjs): the forced cells as the released guide's own fill.sh prints them over the translation 9a12f5f3219f3fe5… (all of the seat's roots in one cut). By AI agents, Wed Nov 11 2026. No macro, syntax, notation, axiom, sorry.
-/
import Derived.Test.YtocibljkmgffeaaChecked
import GoSem.Claim
import GoSem.ClaimJoined
import GoSem.ClaimMapViews
import Derived.JoinedTies
import Derived.KernelRfl
namespace Go.Proofs.Ytocibljkmgffeaa
/- THE CELL 'sum', in the pinned program and in every row, IS THE sha256 OF THE DUMP (.gsa) THAT YtocibljkmgffeaaProg.lean LOADS. Nothing in Lean hashes anything: it is a label: what it is worth is what the hold of that sum in a sandbox is worth. -/
noncomputable def Try.pinned : Pinned := { name := "ytocibljkmgffeaa", sum := "9a12f5f3219f3fe5da9e18bc0a566ef24bed0e03c77ba90de37a3272e96a980d", checked := Try.checked }
namespace Rows
def none {H : Type} : Left H := { results := [], args := [] }

/-- 'landfalllaw17.BackoffWaits': WHATEVER THE INPUT: true; the input reads as it did. -/
def backoffWaitsSpec : ChangeSpec := { name := "backoffWaits", fn := fun _ => fun
  | [d1, d2, d3, d4] => { results := [.lit (.bool true)], args := [d1, d2, d3, d4] }
  | _ => none }
def backoffWaitsRow : OpenClaim := { program := "ytocibljkmgffeaa", sum := "9a12f5f3219f3fe5da9e18bc0a566ef24bed0e03c77ba90de37a3272e96a980d", func := "landfall/landfalllaw17.BackoffWaits", spec := "backoffWaits", unfollowed := true, recurses := true, apart := false }
def BackoffWaitsSaid : Prop := backoffWaitsRow.holds Try.pinned (OpenSpec.ofChange backoffWaitsSpec)

/-- ITS FALSE NEIGHBOUR: 'it returns false'. Refute it at one input. -/
def backoffWaitsWrong : ChangeSpec := { name := "backoffWaits", fn := fun _ => fun
  | [d1, d2, d3, d4] => { results := [.lit (.bool false)], args := [d1, d2, d3, d4] }
  | _ => none }
def BackoffWaitsWrongFalsely : Prop := backoffWaitsRow.holds Try.pinned (OpenSpec.ofChange backoffWaitsWrong)

/-- 'landfalllaw11.ClockLater': WHATEVER THE INPUT: true; the input reads as it did. -/
def clockLaterSpec : ChangeSpec := { name := "clockLater", fn := fun _ => fun
  | [d1, d2, d3, d4, d5] => { results := [.lit (.bool true)], args := [d1, d2, d3, d4, d5] }
  | _ => none }
def clockLaterRow : OpenClaim := { program := "ytocibljkmgffeaa", sum := "9a12f5f3219f3fe5da9e18bc0a566ef24bed0e03c77ba90de37a3272e96a980d", func := "landfall/landfalllaw11.ClockLater", spec := "clockLater", unfollowed := true, recurses := true, apart := false }
def ClockLaterSaid : Prop := clockLaterRow.holds Try.pinned (OpenSpec.ofChange clockLaterSpec)

/-- ITS FALSE NEIGHBOUR: 'it returns false'. Refute it at one input. -/
def clockLaterWrong : ChangeSpec := { name := "clockLater", fn := fun _ => fun
  | [d1, d2, d3, d4, d5] => { results := [.lit (.bool false)], args := [d1, d2, d3, d4, d5] }
  | _ => none }
def ClockLaterWrongFalsely : Prop := clockLaterRow.holds Try.pinned (OpenSpec.ofChange clockLaterWrong)

/-- 'landfalllaw17.BackoffSums': WHATEVER THE INPUT: true; the input reads as it did. -/
def backoffSumsSpec : ChangeSpec := { name := "backoffSums", fn := fun _ => fun
  | [d1, d2, d3, d4] => { results := [.lit (.bool true)], args := [d1, d2, d3, d4] }
  | _ => none }
def backoffSumsRow : OpenClaim := { program := "ytocibljkmgffeaa", sum := "9a12f5f3219f3fe5da9e18bc0a566ef24bed0e03c77ba90de37a3272e96a980d", func := "landfall/landfalllaw17.BackoffSums", spec := "backoffSums", unfollowed := true, recurses := true, apart := false }
def BackoffSumsSaid : Prop := backoffSumsRow.holds Try.pinned (OpenSpec.ofChange backoffSumsSpec)

/-- ITS FALSE NEIGHBOUR: 'it returns false'. Refute it at one input. -/
def backoffSumsWrong : ChangeSpec := { name := "backoffSums", fn := fun _ => fun
  | [d1, d2, d3, d4] => { results := [.lit (.bool false)], args := [d1, d2, d3, d4] }
  | _ => none }
def BackoffSumsWrongFalsely : Prop := backoffSumsRow.holds Try.pinned (OpenSpec.ofChange backoffSumsWrong)

/-- 'landfalllaw17.BackoffKnown': WHATEVER THE INPUT: true; the input reads as it did. -/
def backoffKnownSpec : ChangeSpec := { name := "backoffKnown", fn := fun _ => fun
  | [] => { results := [.lit (.bool true)], args := [] }
  | _ => none }
def backoffKnownRow : OpenClaim := { program := "ytocibljkmgffeaa", sum := "9a12f5f3219f3fe5da9e18bc0a566ef24bed0e03c77ba90de37a3272e96a980d", func := "landfall/landfalllaw17.BackoffKnown", spec := "backoffKnown", unfollowed := true, recurses := true, apart := false }
def BackoffKnownSaid : Prop := backoffKnownRow.holds Try.pinned (OpenSpec.ofChange backoffKnownSpec)

/-- ITS FALSE NEIGHBOUR: 'it returns false'. Refute it at one input. -/
def backoffKnownWrong : ChangeSpec := { name := "backoffKnown", fn := fun _ => fun
  | [] => { results := [.lit (.bool false)], args := [] }
  | _ => none }
def BackoffKnownWrongFalsely : Prop := backoffKnownRow.holds Try.pinned (OpenSpec.ofChange backoffKnownWrong)

/-- 'landfalllaw17.BackoffRises': WHATEVER THE INPUT: true; the input reads as it did. -/
def backoffRisesSpec : ChangeSpec := { name := "backoffRises", fn := fun _ => fun
  | [d1, d2, d3, d4] => { results := [.lit (.bool true)], args := [d1, d2, d3, d4] }
  | _ => none }
def backoffRisesRow : OpenClaim := { program := "ytocibljkmgffeaa", sum := "9a12f5f3219f3fe5da9e18bc0a566ef24bed0e03c77ba90de37a3272e96a980d", func := "landfall/landfalllaw17.BackoffRises", spec := "backoffRises", unfollowed := true, recurses := true, apart := false }
def BackoffRisesSaid : Prop := backoffRisesRow.holds Try.pinned (OpenSpec.ofChange backoffRisesSpec)

/-- ITS FALSE NEIGHBOUR: 'it returns false'. Refute it at one input. -/
def backoffRisesWrong : ChangeSpec := { name := "backoffRises", fn := fun _ => fun
  | [d1, d2, d3, d4] => { results := [.lit (.bool false)], args := [d1, d2, d3, d4] }
  | _ => none }
def BackoffRisesWrongFalsely : Prop := backoffRisesRow.holds Try.pinned (OpenSpec.ofChange backoffRisesWrong)

/-- 'landfalllaw17.BackoffSumsUp': WHATEVER THE INPUT: true; the input reads as it did. -/
def backoffSumsUpSpec : ChangeSpec := { name := "backoffSumsUp", fn := fun _ => fun
  | [d1, d2, d3] => { results := [.lit (.bool true)], args := [d1, d2, d3] }
  | _ => none }
def backoffSumsUpRow : OpenClaim := { program := "ytocibljkmgffeaa", sum := "9a12f5f3219f3fe5da9e18bc0a566ef24bed0e03c77ba90de37a3272e96a980d", func := "landfall/landfalllaw17.BackoffSumsUp", spec := "backoffSumsUp", unfollowed := true, recurses := true, apart := false }
def BackoffSumsUpSaid : Prop := backoffSumsUpRow.holds Try.pinned (OpenSpec.ofChange backoffSumsUpSpec)

/-- ITS FALSE NEIGHBOUR: 'it returns false'. Refute it at one input. -/
def backoffSumsUpWrong : ChangeSpec := { name := "backoffSumsUp", fn := fun _ => fun
  | [d1, d2, d3] => { results := [.lit (.bool false)], args := [d1, d2, d3] }
  | _ => none }
def BackoffSumsUpWrongFalsely : Prop := backoffSumsUpRow.holds Try.pinned (OpenSpec.ofChange backoffSumsUpWrong)

/-- 'landfalllaw11.ClockTells': WHATEVER THE INPUT: true; the input reads as it did. -/
def clockTellsSpec : ChangeSpec := { name := "clockTells", fn := fun _ => fun
  | [d1, d2, d3] => { results := [.lit (.bool true)], args := [d1, d2, d3] }
  | _ => none }
def clockTellsRow : OpenClaim := { program := "ytocibljkmgffeaa", sum := "9a12f5f3219f3fe5da9e18bc0a566ef24bed0e03c77ba90de37a3272e96a980d", func := "landfall/landfalllaw11.ClockTells", spec := "clockTells", unfollowed := true, recurses := true, apart := false }
def ClockTellsSaid : Prop := clockTellsRow.holds Try.pinned (OpenSpec.ofChange clockTellsSpec)

/-- ITS FALSE NEIGHBOUR: 'it returns false'. Refute it at one input. -/
def clockTellsWrong : ChangeSpec := { name := "clockTells", fn := fun _ => fun
  | [d1, d2, d3] => { results := [.lit (.bool false)], args := [d1, d2, d3] }
  | _ => none }
def ClockTellsWrongFalsely : Prop := clockTellsRow.holds Try.pinned (OpenSpec.ofChange clockTellsWrong)

/-- 'landfalllaw11.ClockKnown': WHATEVER THE INPUT: true; the input reads as it did. -/
def clockKnownSpec : ChangeSpec := { name := "clockKnown", fn := fun _ => fun
  | [] => { results := [.lit (.bool true)], args := [] }
  | _ => none }
def clockKnownRow : OpenClaim := { program := "ytocibljkmgffeaa", sum := "9a12f5f3219f3fe5da9e18bc0a566ef24bed0e03c77ba90de37a3272e96a980d", func := "landfall/landfalllaw11.ClockKnown", spec := "clockKnown", unfollowed := true, recurses := true, apart := false }
def ClockKnownSaid : Prop := clockKnownRow.holds Try.pinned (OpenSpec.ofChange clockKnownSpec)

/-- ITS FALSE NEIGHBOUR: 'it returns false'. Refute it at one input. -/
def clockKnownWrong : ChangeSpec := { name := "clockKnown", fn := fun _ => fun
  | [] => { results := [.lit (.bool false)], args := [] }
  | _ => none }
def ClockKnownWrongFalsely : Prop := clockKnownRow.holds Try.pinned (OpenSpec.ofChange clockKnownWrong)

/-- 'landfalllaw11.ClockGoes': WHATEVER THE INPUT: true; the input reads as it did. -/
def clockGoesSpec : ChangeSpec := { name := "clockGoes", fn := fun _ => fun
  | [d1, d2, d3, d4, d5] => { results := [.lit (.bool true)], args := [d1, d2, d3, d4, d5] }
  | _ => none }
def clockGoesRow : OpenClaim := { program := "ytocibljkmgffeaa", sum := "9a12f5f3219f3fe5da9e18bc0a566ef24bed0e03c77ba90de37a3272e96a980d", func := "landfall/landfalllaw11.ClockGoes", spec := "clockGoes", unfollowed := true, recurses := true, apart := false }
def ClockGoesSaid : Prop := clockGoesRow.holds Try.pinned (OpenSpec.ofChange clockGoesSpec)

/-- ITS FALSE NEIGHBOUR: 'it returns false'. Refute it at one input. -/
def clockGoesWrong : ChangeSpec := { name := "clockGoes", fn := fun _ => fun
  | [d1, d2, d3, d4, d5] => { results := [.lit (.bool false)], args := [d1, d2, d3, d4, d5] }
  | _ => none }
def ClockGoesWrongFalsely : Prop := clockGoesRow.holds Try.pinned (OpenSpec.ofChange clockGoesWrong)

/-- 'landfalllaw11.ClockWindows': WHATEVER THE INPUT: true; the input reads as it did. -/
def clockWindowsSpec : ChangeSpec := { name := "clockWindows", fn := fun _ => fun
  | [d1, d2, d3, d4] => { results := [.lit (.bool true)], args := [d1, d2, d3, d4] }
  | _ => none }
def clockWindowsRow : OpenClaim := { program := "ytocibljkmgffeaa", sum := "9a12f5f3219f3fe5da9e18bc0a566ef24bed0e03c77ba90de37a3272e96a980d", func := "landfall/landfalllaw11.ClockWindows", spec := "clockWindows", unfollowed := true, recurses := true, apart := false }
def ClockWindowsSaid : Prop := clockWindowsRow.holds Try.pinned (OpenSpec.ofChange clockWindowsSpec)

/-- ITS FALSE NEIGHBOUR: 'it returns false'. Refute it at one input. -/
def clockWindowsWrong : ChangeSpec := { name := "clockWindows", fn := fun _ => fun
  | [d1, d2, d3, d4] => { results := [.lit (.bool false)], args := [d1, d2, d3, d4] }
  | _ => none }
def ClockWindowsWrongFalsely : Prop := clockWindowsRow.holds Try.pinned (OpenSpec.ofChange clockWindowsWrong)

/- THE SECOND FORM. 'bulk': how many values and letters a reading holds, each counted each time it is reached (what is shared counts as often as it is met; a slice's spare places count too). A statement '..UptoSaid' is the law's where the arguments, and the package variables that the reading takes, are together of bulk at most 1048576: NARROWER than '..Said'. Prove '..Said' where nothing that the law and all that it calls make is longer than what came in: it says more and counts as full. Else prove '..UptoSaid'. A law counts once. -/
mutual
def uptoBulk {H : Type} : DataW H → Nat
  | .lit (.string bytes) => bytes.length + 1
  | .lit _ => 1
  | .nil => 1
  | .ptr d => uptoBulk d + 1
  | .slice elems spare => uptoBulkAll elems + uptoBulkAll spare + 1
  | .agg parts => uptoBulkAll parts + 1
  | .iface _ d => uptoBulk d + 1
  | .map entries => uptoBulkEntries entries + 1
  | .held _ => 1
def uptoBulkAll {H : Type} : List (DataW H) → Nat
  | [] => 0
  | d :: r => uptoBulk d + uptoBulkAll r
def uptoBulkEntries {H : Type} : List (Lit × DataW H) → Nat
  | [] => 0
  | x :: r => uptoBulkEntry x + uptoBulkEntries r
def uptoBulkEntry {H : Type} : Lit × DataW H → Nat
  | (.string bytes, d) => bytes.length + uptoBulk d + 1
  | (_, d) => uptoBulk d + 1
 end
def uptoSmall : (H : Type) → List (DataW H) → Bool := fun _ ds => decide (uptoBulkAll ds ≤ 1048576)
def OpenSpec.upto (s : _root_.Go.ChangeSpec) : _root_.Go.OpenSpec := { _root_.Go.OpenSpec.ofChange s with cond := some uptoSmall }

/-- 'landfalllaw17.BackoffWaits', WHERE WHAT IT READS IS OF BULK AT MOST 1048576: true; the input reads as it did. -/
def backoffWaitsUptoRow : OpenClaim := { program := "ytocibljkmgffeaa", sum := "9a12f5f3219f3fe5da9e18bc0a566ef24bed0e03c77ba90de37a3272e96a980d", func := "landfall/landfalllaw17.BackoffWaits", spec := "backoffWaits", unfollowed := true, recurses := true, apart := false, narrowed := true }
def BackoffWaitsUptoSaid : Prop := backoffWaitsUptoRow.holds Try.pinned (OpenSpec.upto backoffWaitsSpec)

/-- 'landfalllaw11.ClockLater', WHERE WHAT IT READS IS OF BULK AT MOST 1048576: true; the input reads as it did. -/
def clockLaterUptoRow : OpenClaim := { program := "ytocibljkmgffeaa", sum := "9a12f5f3219f3fe5da9e18bc0a566ef24bed0e03c77ba90de37a3272e96a980d", func := "landfall/landfalllaw11.ClockLater", spec := "clockLater", unfollowed := true, recurses := true, apart := false, narrowed := true }
def ClockLaterUptoSaid : Prop := clockLaterUptoRow.holds Try.pinned (OpenSpec.upto clockLaterSpec)

/-- 'landfalllaw17.BackoffSums', WHERE WHAT IT READS IS OF BULK AT MOST 1048576: true; the input reads as it did. -/
def backoffSumsUptoRow : OpenClaim := { program := "ytocibljkmgffeaa", sum := "9a12f5f3219f3fe5da9e18bc0a566ef24bed0e03c77ba90de37a3272e96a980d", func := "landfall/landfalllaw17.BackoffSums", spec := "backoffSums", unfollowed := true, recurses := true, apart := false, narrowed := true }
def BackoffSumsUptoSaid : Prop := backoffSumsUptoRow.holds Try.pinned (OpenSpec.upto backoffSumsSpec)

/-- 'landfalllaw17.BackoffKnown', WHERE WHAT IT READS IS OF BULK AT MOST 1048576: true; the input reads as it did. -/
def backoffKnownUptoRow : OpenClaim := { program := "ytocibljkmgffeaa", sum := "9a12f5f3219f3fe5da9e18bc0a566ef24bed0e03c77ba90de37a3272e96a980d", func := "landfall/landfalllaw17.BackoffKnown", spec := "backoffKnown", unfollowed := true, recurses := true, apart := false, narrowed := true }
def BackoffKnownUptoSaid : Prop := backoffKnownUptoRow.holds Try.pinned (OpenSpec.upto backoffKnownSpec)

/-- 'landfalllaw17.BackoffRises', WHERE WHAT IT READS IS OF BULK AT MOST 1048576: true; the input reads as it did. -/
def backoffRisesUptoRow : OpenClaim := { program := "ytocibljkmgffeaa", sum := "9a12f5f3219f3fe5da9e18bc0a566ef24bed0e03c77ba90de37a3272e96a980d", func := "landfall/landfalllaw17.BackoffRises", spec := "backoffRises", unfollowed := true, recurses := true, apart := false, narrowed := true }
def BackoffRisesUptoSaid : Prop := backoffRisesUptoRow.holds Try.pinned (OpenSpec.upto backoffRisesSpec)

/-- 'landfalllaw17.BackoffSumsUp', WHERE WHAT IT READS IS OF BULK AT MOST 1048576: true; the input reads as it did. -/
def backoffSumsUpUptoRow : OpenClaim := { program := "ytocibljkmgffeaa", sum := "9a12f5f3219f3fe5da9e18bc0a566ef24bed0e03c77ba90de37a3272e96a980d", func := "landfall/landfalllaw17.BackoffSumsUp", spec := "backoffSumsUp", unfollowed := true, recurses := true, apart := false, narrowed := true }
def BackoffSumsUpUptoSaid : Prop := backoffSumsUpUptoRow.holds Try.pinned (OpenSpec.upto backoffSumsUpSpec)

/-- 'landfalllaw11.ClockTells', WHERE WHAT IT READS IS OF BULK AT MOST 1048576: true; the input reads as it did. -/
def clockTellsUptoRow : OpenClaim := { program := "ytocibljkmgffeaa", sum := "9a12f5f3219f3fe5da9e18bc0a566ef24bed0e03c77ba90de37a3272e96a980d", func := "landfall/landfalllaw11.ClockTells", spec := "clockTells", unfollowed := true, recurses := true, apart := false, narrowed := true }
def ClockTellsUptoSaid : Prop := clockTellsUptoRow.holds Try.pinned (OpenSpec.upto clockTellsSpec)

/-- 'landfalllaw11.ClockKnown', WHERE WHAT IT READS IS OF BULK AT MOST 1048576: true; the input reads as it did. -/
def clockKnownUptoRow : OpenClaim := { program := "ytocibljkmgffeaa", sum := "9a12f5f3219f3fe5da9e18bc0a566ef24bed0e03c77ba90de37a3272e96a980d", func := "landfall/landfalllaw11.ClockKnown", spec := "clockKnown", unfollowed := true, recurses := true, apart := false, narrowed := true }
def ClockKnownUptoSaid : Prop := clockKnownUptoRow.holds Try.pinned (OpenSpec.upto clockKnownSpec)

/-- 'landfalllaw11.ClockGoes', WHERE WHAT IT READS IS OF BULK AT MOST 1048576: true; the input reads as it did. -/
def clockGoesUptoRow : OpenClaim := { program := "ytocibljkmgffeaa", sum := "9a12f5f3219f3fe5da9e18bc0a566ef24bed0e03c77ba90de37a3272e96a980d", func := "landfall/landfalllaw11.ClockGoes", spec := "clockGoes", unfollowed := true, recurses := true, apart := false, narrowed := true }
def ClockGoesUptoSaid : Prop := clockGoesUptoRow.holds Try.pinned (OpenSpec.upto clockGoesSpec)

/-- 'landfalllaw11.ClockWindows', WHERE WHAT IT READS IS OF BULK AT MOST 1048576: true; the input reads as it did. -/
def clockWindowsUptoRow : OpenClaim := { program := "ytocibljkmgffeaa", sum := "9a12f5f3219f3fe5da9e18bc0a566ef24bed0e03c77ba90de37a3272e96a980d", func := "landfall/landfalllaw11.ClockWindows", spec := "clockWindows", unfollowed := true, recurses := true, apart := false, narrowed := true }
def ClockWindowsUptoSaid : Prop := clockWindowsUptoRow.holds Try.pinned (OpenSpec.upto clockWindowsSpec)

end Rows
end Go.Proofs.Ytocibljkmgffeaa
