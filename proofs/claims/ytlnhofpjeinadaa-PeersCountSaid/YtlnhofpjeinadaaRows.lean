/-
  No cell of these rows narrows 'for every input' (looked for: loops, veiled, ifaces, maps, wideKeys, modest, calm, conditions, laid).
  DERIVED. THE GIVEN ROWS OF THIS SEAT. 3 by the template 'for every input the law returns true; each argument reads behind the call as it read before'; 0 by the template 'total and deterministic' (their statements: YtlnhofpjeinadaaTotals.lean).
  GIVEN WITH THE SEED: the statements are not yours to turn. If you find one false, say at which input.
  Laid BY PROGRAM, IN A SANDBOX (cutbox-rows.mjs): the forced cells as the released guide's own fill.sh prints them over the translation 4cfb2fa50cbfeca6… (all of the seat's roots in one cut). By AI agents, Wed Nov 11 2026. No macro, syntax, notation, axiom, sorry.
-/
import Derived.Test.YtlnhofpjeinadaaChecked
import GoSem.Claim
import GoSem.ClaimJoined
import GoSem.ClaimMapViews
import Derived.JoinedTies
import Derived.KernelRfl
namespace Go.Proofs.Ytlnhofpjeinadaa
/- THE CELL 'sum', in the pinned program and in every row, IS THE sha256 OF THE DUMP (.gsa) THAT YtlnhofpjeinadaaProg.lean LOADS. Nothing in Lean hashes anything: it is a label: what it is worth is what the hold of that sum in a sandbox is worth. -/
noncomputable def Try.pinned : Pinned := { name := "ytlnhofpjeinadaa", sum := "4cfb2fa50cbfeca67ab6e755b0b86e392beaf66f44035827a41c0ffc7232d424", checked := Try.checked }
namespace Rows
def none {H : Type} : Left H := { results := [], args := [] }

/-- 'landfalllaw21.PeersKnown': WHATEVER THE INPUT: true; the input reads as it did. -/
def peersKnownSpec : ChangeSpec := { name := "peersKnown", fn := fun _ => fun
  | [] => { results := [.lit (.bool true)], args := [] }
  | _ => none }
def peersKnownRow : OpenClaim := { program := "ytlnhofpjeinadaa", sum := "4cfb2fa50cbfeca67ab6e755b0b86e392beaf66f44035827a41c0ffc7232d424", func := "landfall/landfalllaw21.PeersKnown", spec := "peersKnown", inPlace := ["math.Float64frombits", "math.Float64bits"], unfollowed := true, recurses := true, apart := false }
def PeersKnownSaid : Prop := peersKnownRow.holds Try.pinned (OpenSpec.ofChange peersKnownSpec)

/-- ITS FALSE NEIGHBOUR: 'it returns false'. Refute it at one input. -/
def peersKnownWrong : ChangeSpec := { name := "peersKnown", fn := fun _ => fun
  | [] => { results := [.lit (.bool false)], args := [] }
  | _ => none }
def PeersKnownWrongFalsely : Prop := peersKnownRow.holds Try.pinned (OpenSpec.ofChange peersKnownWrong)

/-- 'landfalllaw21.PeersCount': WHATEVER THE INPUT: true; the input reads as it did. -/
def peersCountSpec : ChangeSpec := { name := "peersCount", fn := fun _ => fun
  | [d1, d2, d3] => { results := [.lit (.bool true)], args := [d1, d2, d3] }
  | _ => none }
def peersCountRow : OpenClaim := { program := "ytlnhofpjeinadaa", sum := "4cfb2fa50cbfeca67ab6e755b0b86e392beaf66f44035827a41c0ffc7232d424", func := "landfall/landfalllaw21.PeersCount", spec := "peersCount", inPlace := ["math.Float64frombits", "math.Float64bits"], unfollowed := true, recurses := true, apart := false }
def PeersCountSaid : Prop := peersCountRow.holds Try.pinned (OpenSpec.ofChange peersCountSpec)

/-- ITS FALSE NEIGHBOUR: 'it returns false'. Refute it at one input. -/
def peersCountWrong : ChangeSpec := { name := "peersCount", fn := fun _ => fun
  | [d1, d2, d3] => { results := [.lit (.bool false)], args := [d1, d2, d3] }
  | _ => none }
def PeersCountWrongFalsely : Prop := peersCountRow.holds Try.pinned (OpenSpec.ofChange peersCountWrong)

/-- 'landfalllaw21.PeersActs': WHATEVER THE INPUT: true; the input reads as it did. -/
def peersActsSpec : ChangeSpec := { name := "peersActs", fn := fun _ => fun
  | [d1, d2, d3, d4] => { results := [.lit (.bool true)], args := [d1, d2, d3, d4] }
  | _ => none }
def peersActsRow : OpenClaim := { program := "ytlnhofpjeinadaa", sum := "4cfb2fa50cbfeca67ab6e755b0b86e392beaf66f44035827a41c0ffc7232d424", func := "landfall/landfalllaw21.PeersActs", spec := "peersActs", inPlace := ["math.Float64frombits", "math.Float64bits"], unfollowed := true, recurses := true, apart := false }
def PeersActsSaid : Prop := peersActsRow.holds Try.pinned (OpenSpec.ofChange peersActsSpec)

/-- ITS FALSE NEIGHBOUR: 'it returns false'. Refute it at one input. -/
def peersActsWrong : ChangeSpec := { name := "peersActs", fn := fun _ => fun
  | [d1, d2, d3, d4] => { results := [.lit (.bool false)], args := [d1, d2, d3, d4] }
  | _ => none }
def PeersActsWrongFalsely : Prop := peersActsRow.holds Try.pinned (OpenSpec.ofChange peersActsWrong)

/- THE SECOND FORM. 'bulk': how many values and letters a reading holds, each counted each time it is reached (what is shared counts as often as it is met; a slice's spare places count too). A statement '..UptoSaid' is the law's where the arguments, and the package variables that the reading takes, are together of bulk at most 1048576: NARROWER than '..Said'. Prove '..Said' where nothing that the law and all that it calls make is longer than what came in: it says more and counts as full. Else prove '..UptoSaid'. A law counts once. -/
mutual
def uptoBulk {H : Type} : DataW H → Nat
  | .lit (.string bytes) => bytes.length + 1
  | .lit _ => 1
  | .nil => 1
  | .ptr d => uptoBulk d + 1
  | .slice elems spare => uptoBulkAll elems + uptoBulkAll spare + 1
  | .agg parts => uptoBulkAll parts + 1
  | .iface _ d => uptoBulk d + 1
  | .map entries => uptoBulkEntries entries + 1
  | .held _ => 1
def uptoBulkAll {H : Type} : List (DataW H) → Nat
  | [] => 0
  | d :: r => uptoBulk d + uptoBulkAll r
def uptoBulkEntries {H : Type} : List (Lit × DataW H) → Nat
  | [] => 0
  | x :: r => uptoBulkEntry x + uptoBulkEntries r
def uptoBulkEntry {H : Type} : Lit × DataW H → Nat
  | (.string bytes, d) => bytes.length + uptoBulk d + 1
  | (_, d) => uptoBulk d + 1
 end
def uptoSmall : (H : Type) → List (DataW H) → Bool := fun _ ds => decide (uptoBulkAll ds ≤ 1048576)
def OpenSpec.upto (s : _root_.Go.ChangeSpec) : _root_.Go.OpenSpec := { _root_.Go.OpenSpec.ofChange s with cond := some uptoSmall }

/-- 'landfalllaw21.PeersKnown', WHERE WHAT IT READS IS OF BULK AT MOST 1048576: true; the input reads as it did. -/
def peersKnownUptoRow : OpenClaim := { program := "ytlnhofpjeinadaa", sum := "4cfb2fa50cbfeca67ab6e755b0b86e392beaf66f44035827a41c0ffc7232d424", func := "landfall/landfalllaw21.PeersKnown", spec := "peersKnown", inPlace := ["math.Float64frombits", "math.Float64bits"], unfollowed := true, recurses := true, apart := false, narrowed := true }
def PeersKnownUptoSaid : Prop := peersKnownUptoRow.holds Try.pinned (OpenSpec.upto peersKnownSpec)

/-- 'landfalllaw21.PeersCount', WHERE WHAT IT READS IS OF BULK AT MOST 1048576: true; the input reads as it did. -/
def peersCountUptoRow : OpenClaim := { program := "ytlnhofpjeinadaa", sum := "4cfb2fa50cbfeca67ab6e755b0b86e392beaf66f44035827a41c0ffc7232d424", func := "landfall/landfalllaw21.PeersCount", spec := "peersCount", inPlace := ["math.Float64frombits", "math.Float64bits"], unfollowed := true, recurses := true, apart := false, narrowed := true }
def PeersCountUptoSaid : Prop := peersCountUptoRow.holds Try.pinned (OpenSpec.upto peersCountSpec)

/-- 'landfalllaw21.PeersActs', WHERE WHAT IT READS IS OF BULK AT MOST 1048576: true; the input reads as it did. -/
def peersActsUptoRow : OpenClaim := { program := "ytlnhofpjeinadaa", sum := "4cfb2fa50cbfeca67ab6e755b0b86e392beaf66f44035827a41c0ffc7232d424", func := "landfall/landfalllaw21.PeersActs", spec := "peersActs", inPlace := ["math.Float64frombits", "math.Float64bits"], unfollowed := true, recurses := true, apart := false, narrowed := true }
def PeersActsUptoSaid : Prop := peersActsUptoRow.holds Try.pinned (OpenSpec.upto peersActsSpec)

end Rows
end Go.Proofs.Ytlnhofpjeinadaa
