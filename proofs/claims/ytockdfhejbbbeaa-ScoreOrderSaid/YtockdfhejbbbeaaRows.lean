/-
  No cell of these rows narrows 'for every input' (looked for: loops, veiled, ifaces, maps, wideKeys, modest, calm, conditions, laid).
  DERIVED. THE GIVEN ROWS OF THIS SEAT. 6 by the template 'for every input the law returns true; each argument reads behind the call as it read before'; 0 by the template 'total and deterministic' (their statements: YtockdfhejbbbeaaTotals.lean).
  GIVEN WITH THE SEED: the statements are not yours to turn. If you find one false, say at which input.
  Laid BY PROGRAM, IN A SANDBOX (cutbox-rows.mjs): the forced cells as the released guide's own fill.sh prints them over the translation 235e9c0e5a05377a… (all of the seat's roots in one cut). By AI agents, Wed Nov 11 2026. No macro, syntax, notation, axiom, sorry.
-/
import Derived.Test.YtockdfhejbbbeaaChecked
import GoSem.Claim
import GoSem.ClaimJoined
import GoSem.ClaimMapViews
import Derived.JoinedTies
import Derived.KernelRfl
namespace Go.Proofs.Ytockdfhejbbbeaa
/- THE CELL 'sum', in the pinned program and in every row, IS THE sha256 OF THE DUMP (.gsa) THAT YtockdfhejbbbeaaProg.lean LOADS. Nothing in Lean hashes anything: it is a label: what it is worth is what the hold of that sum in a sandbox is worth. -/
noncomputable def Try.pinned : Pinned := { name := "ytockdfhejbbbeaa", sum := "235e9c0e5a05377af79dd7efdf9224e2785e17fae989908c38f7b606d850bff5", checked := Try.checked }
namespace Rows
def none {H : Type} : Left H := { results := [], args := [] }

/-- 'landfalllaw20.ScoreTurns': WHATEVER THE INPUT: true; the input reads as it did. -/
def scoreTurnsSpec : ChangeSpec := { name := "scoreTurns", fn := fun _ => fun
  | [d1, d2, d3] => { results := [.lit (.bool true)], args := [d1, d2, d3] }
  | _ => none }
def scoreTurnsRow : OpenClaim := { program := "ytockdfhejbbbeaa", sum := "235e9c0e5a05377af79dd7efdf9224e2785e17fae989908c38f7b606d850bff5", func := "landfall/landfalllaw20.ScoreTurns", spec := "scoreTurns", inPlace := ["math.Float64frombits", "math.Float64bits"], unfollowed := true, recurses := true, apart := false }
def ScoreTurnsSaid : Prop := scoreTurnsRow.holds Try.pinned (OpenSpec.ofChange scoreTurnsSpec)

/-- ITS FALSE NEIGHBOUR: 'it returns false'. Refute it at one input. -/
def scoreTurnsWrong : ChangeSpec := { name := "scoreTurns", fn := fun _ => fun
  | [d1, d2, d3] => { results := [.lit (.bool false)], args := [d1, d2, d3] }
  | _ => none }
def ScoreTurnsWrongFalsely : Prop := scoreTurnsRow.holds Try.pinned (OpenSpec.ofChange scoreTurnsWrong)

/-- 'landfalllaw20.ScoreRanks': WHATEVER THE INPUT: true; the input reads as it did. -/
def scoreRanksSpec : ChangeSpec := { name := "scoreRanks", fn := fun _ => fun
  | [d1, d2] => { results := [.lit (.bool true)], args := [d1, d2] }
  | _ => none }
def scoreRanksRow : OpenClaim := { program := "ytockdfhejbbbeaa", sum := "235e9c0e5a05377af79dd7efdf9224e2785e17fae989908c38f7b606d850bff5", func := "landfall/landfalllaw20.ScoreRanks", spec := "scoreRanks", inPlace := ["math.Float64frombits", "math.Float64bits"], unfollowed := true, recurses := true, apart := false }
def ScoreRanksSaid : Prop := scoreRanksRow.holds Try.pinned (OpenSpec.ofChange scoreRanksSpec)

/-- ITS FALSE NEIGHBOUR: 'it returns false'. Refute it at one input. -/
def scoreRanksWrong : ChangeSpec := { name := "scoreRanks", fn := fun _ => fun
  | [d1, d2] => { results := [.lit (.bool false)], args := [d1, d2] }
  | _ => none }
def ScoreRanksWrongFalsely : Prop := scoreRanksRow.holds Try.pinned (OpenSpec.ofChange scoreRanksWrong)

/-- 'landfalllaw20.ScoreKnown': WHATEVER THE INPUT: true; the input reads as it did. -/
def scoreKnownSpec : ChangeSpec := { name := "scoreKnown", fn := fun _ => fun
  | [] => { results := [.lit (.bool true)], args := [] }
  | _ => none }
def scoreKnownRow : OpenClaim := { program := "ytockdfhejbbbeaa", sum := "235e9c0e5a05377af79dd7efdf9224e2785e17fae989908c38f7b606d850bff5", func := "landfall/landfalllaw20.ScoreKnown", spec := "scoreKnown", inPlace := ["math.Float64frombits", "math.Float64bits"], unfollowed := true, recurses := true, apart := false }
def ScoreKnownSaid : Prop := scoreKnownRow.holds Try.pinned (OpenSpec.ofChange scoreKnownSpec)

/-- ITS FALSE NEIGHBOUR: 'it returns false'. Refute it at one input. -/
def scoreKnownWrong : ChangeSpec := { name := "scoreKnown", fn := fun _ => fun
  | [] => { results := [.lit (.bool false)], args := [] }
  | _ => none }
def ScoreKnownWrongFalsely : Prop := scoreKnownRow.holds Try.pinned (OpenSpec.ofChange scoreKnownWrong)

/-- 'landfalllaw20.ScoreOrder': WHATEVER THE INPUT: true; the input reads as it did. -/
def scoreOrderSpec : ChangeSpec := { name := "scoreOrder", fn := fun _ => fun
  | [d1, d2] => { results := [.lit (.bool true)], args := [d1, d2] }
  | _ => none }
def scoreOrderRow : OpenClaim := { program := "ytockdfhejbbbeaa", sum := "235e9c0e5a05377af79dd7efdf9224e2785e17fae989908c38f7b606d850bff5", func := "landfall/landfalllaw20.ScoreOrder", spec := "scoreOrder", inPlace := ["math.Float64frombits", "math.Float64bits"], unfollowed := true, recurses := true, apart := false }
def ScoreOrderSaid : Prop := scoreOrderRow.holds Try.pinned (OpenSpec.ofChange scoreOrderSpec)

/-- ITS FALSE NEIGHBOUR: 'it returns false'. Refute it at one input. -/
def scoreOrderWrong : ChangeSpec := { name := "scoreOrder", fn := fun _ => fun
  | [d1, d2] => { results := [.lit (.bool false)], args := [d1, d2] }
  | _ => none }
def ScoreOrderWrongFalsely : Prop := scoreOrderRow.holds Try.pinned (OpenSpec.ofChange scoreOrderWrong)

/-- 'landfalllaw20.ScoreStops': WHATEVER THE INPUT: true; the input reads as it did. -/
def scoreStopsSpec : ChangeSpec := { name := "scoreStops", fn := fun _ => fun
  | [d1, d2, d3] => { results := [.lit (.bool true)], args := [d1, d2, d3] }
  | _ => none }
def scoreStopsRow : OpenClaim := { program := "ytockdfhejbbbeaa", sum := "235e9c0e5a05377af79dd7efdf9224e2785e17fae989908c38f7b606d850bff5", func := "landfall/landfalllaw20.ScoreStops", spec := "scoreStops", inPlace := ["math.Float64frombits", "math.Float64bits"], unfollowed := true, recurses := true, apart := false }
def ScoreStopsSaid : Prop := scoreStopsRow.holds Try.pinned (OpenSpec.ofChange scoreStopsSpec)

/-- ITS FALSE NEIGHBOUR: 'it returns false'. Refute it at one input. -/
def scoreStopsWrong : ChangeSpec := { name := "scoreStops", fn := fun _ => fun
  | [d1, d2, d3] => { results := [.lit (.bool false)], args := [d1, d2, d3] }
  | _ => none }
def ScoreStopsWrongFalsely : Prop := scoreStopsRow.holds Try.pinned (OpenSpec.ofChange scoreStopsWrong)

/-- 'landfalllaw20.ScoreMends': WHATEVER THE INPUT: true; the input reads as it did. -/
def scoreMendsSpec : ChangeSpec := { name := "scoreMends", fn := fun _ => fun
  | [d1, d2, d3, d4] => { results := [.lit (.bool true)], args := [d1, d2, d3, d4] }
  | _ => none }
def scoreMendsRow : OpenClaim := { program := "ytockdfhejbbbeaa", sum := "235e9c0e5a05377af79dd7efdf9224e2785e17fae989908c38f7b606d850bff5", func := "landfall/landfalllaw20.ScoreMends", spec := "scoreMends", inPlace := ["math.Float64frombits", "math.Float64bits"], unfollowed := true, recurses := true, apart := false }
def ScoreMendsSaid : Prop := scoreMendsRow.holds Try.pinned (OpenSpec.ofChange scoreMendsSpec)

/-- ITS FALSE NEIGHBOUR: 'it returns false'. Refute it at one input. -/
def scoreMendsWrong : ChangeSpec := { name := "scoreMends", fn := fun _ => fun
  | [d1, d2, d3, d4] => { results := [.lit (.bool false)], args := [d1, d2, d3, d4] }
  | _ => none }
def ScoreMendsWrongFalsely : Prop := scoreMendsRow.holds Try.pinned (OpenSpec.ofChange scoreMendsWrong)

/- THE SECOND FORM. 'bulk': how many values and letters a reading holds, each counted each time it is reached (what is shared counts as often as it is met; a slice's spare places count too). A statement '..UptoSaid' is the law's where the arguments, and the package variables that the reading takes, are together of bulk at most 1048576: NARROWER than '..Said'. Prove '..Said' where nothing that the law and all that it calls make is longer than what came in: it says more and counts as full. Else prove '..UptoSaid'. A law counts once. -/
mutual
def uptoBulk {H : Type} : DataW H → Nat
  | .lit (.string bytes) => bytes.length + 1
  | .lit _ => 1
  | .nil => 1
  | .ptr d => uptoBulk d + 1
  | .slice elems spare => uptoBulkAll elems + uptoBulkAll spare + 1
  | .agg parts => uptoBulkAll parts + 1
  | .iface _ d => uptoBulk d + 1
  | .map entries => uptoBulkEntries entries + 1
  | .held _ => 1
def uptoBulkAll {H : Type} : List (DataW H) → Nat
  | [] => 0
  | d :: r => uptoBulk d + uptoBulkAll r
def uptoBulkEntries {H : Type} : List (Lit × DataW H) → Nat
  | [] => 0
  | x :: r => uptoBulkEntry x + uptoBulkEntries r
def uptoBulkEntry {H : Type} : Lit × DataW H → Nat
  | (.string bytes, d) => bytes.length + uptoBulk d + 1
  | (_, d) => uptoBulk d + 1
 end
def uptoSmall : (H : Type) → List (DataW H) → Bool := fun _ ds => decide (uptoBulkAll ds ≤ 1048576)
def OpenSpec.upto (s : _root_.Go.ChangeSpec) : _root_.Go.OpenSpec := { _root_.Go.OpenSpec.ofChange s with cond := some uptoSmall }

/-- 'landfalllaw20.ScoreTurns', WHERE WHAT IT READS IS OF BULK AT MOST 1048576: true; the input reads as it did. -/
def scoreTurnsUptoRow : OpenClaim := { program := "ytockdfhejbbbeaa", sum := "235e9c0e5a05377af79dd7efdf9224e2785e17fae989908c38f7b606d850bff5", func := "landfall/landfalllaw20.ScoreTurns", spec := "scoreTurns", inPlace := ["math.Float64frombits", "math.Float64bits"], unfollowed := true, recurses := true, apart := false, narrowed := true }
def ScoreTurnsUptoSaid : Prop := scoreTurnsUptoRow.holds Try.pinned (OpenSpec.upto scoreTurnsSpec)

/-- 'landfalllaw20.ScoreRanks', WHERE WHAT IT READS IS OF BULK AT MOST 1048576: true; the input reads as it did. -/
def scoreRanksUptoRow : OpenClaim := { program := "ytockdfhejbbbeaa", sum := "235e9c0e5a05377af79dd7efdf9224e2785e17fae989908c38f7b606d850bff5", func := "landfall/landfalllaw20.ScoreRanks", spec := "scoreRanks", inPlace := ["math.Float64frombits", "math.Float64bits"], unfollowed := true, recurses := true, apart := false, narrowed := true }
def ScoreRanksUptoSaid : Prop := scoreRanksUptoRow.holds Try.pinned (OpenSpec.upto scoreRanksSpec)

/-- 'landfalllaw20.ScoreKnown', WHERE WHAT IT READS IS OF BULK AT MOST 1048576: true; the input reads as it did. -/
def scoreKnownUptoRow : OpenClaim := { program := "ytockdfhejbbbeaa", sum := "235e9c0e5a05377af79dd7efdf9224e2785e17fae989908c38f7b606d850bff5", func := "landfall/landfalllaw20.ScoreKnown", spec := "scoreKnown", inPlace := ["math.Float64frombits", "math.Float64bits"], unfollowed := true, recurses := true, apart := false, narrowed := true }
def ScoreKnownUptoSaid : Prop := scoreKnownUptoRow.holds Try.pinned (OpenSpec.upto scoreKnownSpec)

/-- 'landfalllaw20.ScoreOrder', WHERE WHAT IT READS IS OF BULK AT MOST 1048576: true; the input reads as it did. -/
def scoreOrderUptoRow : OpenClaim := { program := "ytockdfhejbbbeaa", sum := "235e9c0e5a05377af79dd7efdf9224e2785e17fae989908c38f7b606d850bff5", func := "landfall/landfalllaw20.ScoreOrder", spec := "scoreOrder", inPlace := ["math.Float64frombits", "math.Float64bits"], unfollowed := true, recurses := true, apart := false, narrowed := true }
def ScoreOrderUptoSaid : Prop := scoreOrderUptoRow.holds Try.pinned (OpenSpec.upto scoreOrderSpec)

/-- 'landfalllaw20.ScoreStops', WHERE WHAT IT READS IS OF BULK AT MOST 1048576: true; the input reads as it did. -/
def scoreStopsUptoRow : OpenClaim := { program := "ytockdfhejbbbeaa", sum := "235e9c0e5a05377af79dd7efdf9224e2785e17fae989908c38f7b606d850bff5", func := "landfall/landfalllaw20.ScoreStops", spec := "scoreStops", inPlace := ["math.Float64frombits", "math.Float64bits"], unfollowed := true, recurses := true, apart := false, narrowed := true }
def ScoreStopsUptoSaid : Prop := scoreStopsUptoRow.holds Try.pinned (OpenSpec.upto scoreStopsSpec)

/-- 'landfalllaw20.ScoreMends', WHERE WHAT IT READS IS OF BULK AT MOST 1048576: true; the input reads as it did. -/
def scoreMendsUptoRow : OpenClaim := { program := "ytockdfhejbbbeaa", sum := "235e9c0e5a05377af79dd7efdf9224e2785e17fae989908c38f7b606d850bff5", func := "landfall/landfalllaw20.ScoreMends", spec := "scoreMends", inPlace := ["math.Float64frombits", "math.Float64bits"], unfollowed := true, recurses := true, apart := false, narrowed := true }
def ScoreMendsUptoSaid : Prop := scoreMendsUptoRow.holds Try.pinned (OpenSpec.upto scoreMendsSpec)

end Rows
end Go.Proofs.Ytockdfhejbbbeaa
