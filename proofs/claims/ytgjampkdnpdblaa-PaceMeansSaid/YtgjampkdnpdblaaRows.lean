/-
  No cell of these rows narrows 'for every input' (looked for: loops, veiled, ifaces, maps, wideKeys, modest, calm, conditions, laid).
  DERIVED. THE GIVEN ROWS OF THIS SEAT. 2 by the template 'for every input the law returns true; each argument reads behind the call as it read before'; 0 by the template 'total and deterministic' (their statements: YtgjampkdnpdblaaTotals.lean).
  GIVEN WITH THE SEED: the statements are not yours to turn. If you find one false, say at which input.
  Laid BY PROGRAM, IN A SANDBOX (cutbox-rows.mjs): the forced cells as the released guide's own fill.sh prints them over the translation 9a417b7175d47d30… (all of the seat's roots in one cut). By AI agents, Wed Nov 11 2026. No macro, syntax, notation, axiom, sorry.
-/
import Derived.Test.YtgjampkdnpdblaaChecked
import GoSem.Claim
import GoSem.ClaimJoined
import GoSem.ClaimMapViews
import Derived.JoinedTies
import Derived.KernelRfl
namespace Go.Proofs.Ytgjampkdnpdblaa
/- THE CELL 'sum', in the pinned program and in every row, IS THE sha256 OF THE DUMP (.gsa) THAT YtgjampkdnpdblaaProg.lean LOADS. Nothing in Lean hashes anything: it is a label: what it is worth is what the hold of that sum in a sandbox is worth. -/
noncomputable def Try.pinned : Pinned := { name := "ytgjampkdnpdblaa", sum := "9a417b7175d47d30f0a1d5b95789183317edd3b3ac23f422654fdfebf9604036", checked := Try.checked }
namespace Rows
def none {H : Type} : Left H := { results := [], args := [] }

/-- 'landfalllaw02.PaceSmooths': WHATEVER THE INPUT: true; the input reads as it did. -/
def paceSmoothsSpec : ChangeSpec := { name := "paceSmooths", fn := fun _ => fun
  | [d1, d2] => { results := [.lit (.bool true)], args := [d1, d2] }
  | _ => none }
def paceSmoothsRow : OpenClaim := { program := "ytgjampkdnpdblaa", sum := "9a417b7175d47d30f0a1d5b95789183317edd3b3ac23f422654fdfebf9604036", func := "landfall/landfalllaw02.PaceSmooths", spec := "paceSmooths", inPlace := ["math.Float64frombits", "math.Float64bits"], apart := false }
def PaceSmoothsSaid : Prop := paceSmoothsRow.holds Try.pinned (OpenSpec.ofChange paceSmoothsSpec)

/-- ITS FALSE NEIGHBOUR: 'it returns false'. Refute it at one input. -/
def paceSmoothsWrong : ChangeSpec := { name := "paceSmooths", fn := fun _ => fun
  | [d1, d2] => { results := [.lit (.bool false)], args := [d1, d2] }
  | _ => none }
def PaceSmoothsWrongFalsely : Prop := paceSmoothsRow.holds Try.pinned (OpenSpec.ofChange paceSmoothsWrong)

/-- 'landfalllaw02.PaceMeans': WHATEVER THE INPUT: true; the input reads as it did. -/
def paceMeansSpec : ChangeSpec := { name := "paceMeans", fn := fun _ => fun
  | [d] => { results := [.lit (.bool true)], args := [d] }
  | _ => none }
def paceMeansRow : OpenClaim := { program := "ytgjampkdnpdblaa", sum := "9a417b7175d47d30f0a1d5b95789183317edd3b3ac23f422654fdfebf9604036", func := "landfall/landfalllaw02.PaceMeans", spec := "paceMeans", inPlace := ["math.Float64bits", "math.Float64frombits"], unfollowed := true, recurses := true, apart := false }
def PaceMeansSaid : Prop := paceMeansRow.holds Try.pinned (OpenSpec.ofChange paceMeansSpec)

/-- ITS FALSE NEIGHBOUR: 'it returns false'. Refute it at one input. -/
def paceMeansWrong : ChangeSpec := { name := "paceMeans", fn := fun _ => fun
  | [d] => { results := [.lit (.bool false)], args := [d] }
  | _ => none }
def PaceMeansWrongFalsely : Prop := paceMeansRow.holds Try.pinned (OpenSpec.ofChange paceMeansWrong)

/- THE SECOND FORM. 'bulk': how many values and letters a reading holds, each counted each time it is reached (what is shared counts as often as it is met; a slice's spare places count too). A statement '..UptoSaid' is the law's where the arguments, and the package variables that the reading takes, are together of bulk at most 1048576: NARROWER than '..Said'. Prove '..Said' where nothing that the law and all that it calls make is longer than what came in: it says more and counts as full. Else prove '..UptoSaid'. A law counts once. -/
mutual
def uptoBulk {H : Type} : DataW H → Nat
  | .lit (.string bytes) => bytes.length + 1
  | .lit _ => 1
  | .nil => 1
  | .ptr d => uptoBulk d + 1
  | .slice elems spare => uptoBulkAll elems + uptoBulkAll spare + 1
  | .agg parts => uptoBulkAll parts + 1
  | .iface _ d => uptoBulk d + 1
  | .map entries => uptoBulkEntries entries + 1
  | .held _ => 1
def uptoBulkAll {H : Type} : List (DataW H) → Nat
  | [] => 0
  | d :: r => uptoBulk d + uptoBulkAll r
def uptoBulkEntries {H : Type} : List (Lit × DataW H) → Nat
  | [] => 0
  | x :: r => uptoBulkEntry x + uptoBulkEntries r
def uptoBulkEntry {H : Type} : Lit × DataW H → Nat
  | (.string bytes, d) => bytes.length + uptoBulk d + 1
  | (_, d) => uptoBulk d + 1
 end
def uptoSmall : (H : Type) → List (DataW H) → Bool := fun _ ds => decide (uptoBulkAll ds ≤ 1048576)
def OpenSpec.upto (s : _root_.Go.ChangeSpec) : _root_.Go.OpenSpec := { _root_.Go.OpenSpec.ofChange s with cond := some uptoSmall }

/-- 'landfalllaw02.PaceSmooths', WHERE WHAT IT READS IS OF BULK AT MOST 1048576: true; the input reads as it did. -/
def paceSmoothsUptoRow : OpenClaim := { program := "ytgjampkdnpdblaa", sum := "9a417b7175d47d30f0a1d5b95789183317edd3b3ac23f422654fdfebf9604036", func := "landfall/landfalllaw02.PaceSmooths", spec := "paceSmooths", inPlace := ["math.Float64frombits", "math.Float64bits"], apart := false, narrowed := true }
def PaceSmoothsUptoSaid : Prop := paceSmoothsUptoRow.holds Try.pinned (OpenSpec.upto paceSmoothsSpec)

/-- 'landfalllaw02.PaceMeans', WHERE WHAT IT READS IS OF BULK AT MOST 1048576: true; the input reads as it did. -/
def paceMeansUptoRow : OpenClaim := { program := "ytgjampkdnpdblaa", sum := "9a417b7175d47d30f0a1d5b95789183317edd3b3ac23f422654fdfebf9604036", func := "landfall/landfalllaw02.PaceMeans", spec := "paceMeans", inPlace := ["math.Float64bits", "math.Float64frombits"], unfollowed := true, recurses := true, apart := false, narrowed := true }
def PaceMeansUptoSaid : Prop := paceMeansUptoRow.holds Try.pinned (OpenSpec.upto paceMeansSpec)

end Rows
end Go.Proofs.Ytgjampkdnpdblaa
