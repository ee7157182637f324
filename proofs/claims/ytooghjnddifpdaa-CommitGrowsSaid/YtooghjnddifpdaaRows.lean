/-
  No cell of these rows narrows 'for every input' (looked for: loops, veiled, ifaces, maps, wideKeys, modest, calm, conditions, laid).
  DERIVED. THE GIVEN ROWS OF THIS SEAT. 6 by the template 'for every input the law returns true; each argument reads behind the call as it read before'; 0 by the template 'total and deterministic' (their statements: YtooghjnddifpdaaTotals.lean).
  GIVEN WITH THE SEED: the statements are not yours to turn. If you find one false, say at which input.
  Laid BY PROGRAM, IN A SANDBOX (cutbox-rows.mjs): the forced cells as the released guide's own fill.sh prints them over the translation a14823afdb6b8a4a… (all of the seat's roots in one cut). By AI agents, Wed Nov 11 2026. No macro, syntax, notation, axiom, sorry.
-/
import Derived.Test.YtooghjnddifpdaaChecked
import GoSem.Claim
import GoSem.ClaimJoined
import GoSem.ClaimMapViews
import Derived.JoinedTies
import Derived.KernelRfl
namespace Go.Proofs.Ytooghjnddifpdaa
/- THE CELL 'sum', in the pinned program and in every row, IS THE sha256 OF THE DUMP (.gsa) THAT YtooghjnddifpdaaProg.lean LOADS. Nothing in Lean hashes anything: it is a label: what it is worth is what the hold of that sum in a sandbox is worth. -/
noncomputable def Try.pinned : Pinned := { name := "ytooghjnddifpdaa", sum := "a14823afdb6b8a4a7c9770016ad9ea39278a6cd37138468e3c1152b96bf14d71", checked := Try.checked }
namespace Rows
def none {H : Type} : Left H := { results := [], args := [] }

/-- 'landfalllaw07.CommitAdds': WHATEVER THE INPUT: true; the input reads as it did. -/
def commitAddsSpec : ChangeSpec := { name := "commitAdds", fn := fun _ => fun
  | [d1, d2, d3] => { results := [.lit (.bool true)], args := [d1, d2, d3] }
  | _ => none }
def commitAddsRow : OpenClaim := { program := "ytooghjnddifpdaa", sum := "a14823afdb6b8a4a7c9770016ad9ea39278a6cd37138468e3c1152b96bf14d71", func := "landfall/landfalllaw07.CommitAdds", spec := "commitAdds", inPlace := ["slices.overlaps[landfall/api.Vote]"], unfollowed := true, recurses := true, apart := false }
def CommitAddsSaid : Prop := commitAddsRow.holds Try.pinned (OpenSpec.ofChange commitAddsSpec)

/-- ITS FALSE NEIGHBOUR: 'it returns false'. Refute it at one input. -/
def commitAddsWrong : ChangeSpec := { name := "commitAdds", fn := fun _ => fun
  | [d1, d2, d3] => { results := [.lit (.bool false)], args := [d1, d2, d3] }
  | _ => none }
def CommitAddsWrongFalsely : Prop := commitAddsRow.holds Try.pinned (OpenSpec.ofChange commitAddsWrong)

/-- 'landfalllaw07.CommitKnown': WHATEVER THE INPUT: true; the input reads as it did. -/
def commitKnownSpec : ChangeSpec := { name := "commitKnown", fn := fun _ => fun
  | [] => { results := [.lit (.bool true)], args := [] }
  | _ => none }
def commitKnownRow : OpenClaim := { program := "ytooghjnddifpdaa", sum := "a14823afdb6b8a4a7c9770016ad9ea39278a6cd37138468e3c1152b96bf14d71", func := "landfall/landfalllaw07.CommitKnown", spec := "commitKnown", inPlace := ["slices.overlaps[landfall/api.Vote]"], unfollowed := true, recurses := true, apart := false }
def CommitKnownSaid : Prop := commitKnownRow.holds Try.pinned (OpenSpec.ofChange commitKnownSpec)

/-- ITS FALSE NEIGHBOUR: 'it returns false'. Refute it at one input. -/
def commitKnownWrong : ChangeSpec := { name := "commitKnown", fn := fun _ => fun
  | [] => { results := [.lit (.bool false)], args := [] }
  | _ => none }
def CommitKnownWrongFalsely : Prop := commitKnownRow.holds Try.pinned (OpenSpec.ofChange commitKnownWrong)

/-- 'landfalllaw07.CommitGrows': WHATEVER THE INPUT: true; the input reads as it did. -/
def commitGrowsSpec : ChangeSpec := { name := "commitGrows", fn := fun _ => fun
  | [d1, d2, d3] => { results := [.lit (.bool true)], args := [d1, d2, d3] }
  | _ => none }
def commitGrowsRow : OpenClaim := { program := "ytooghjnddifpdaa", sum := "a14823afdb6b8a4a7c9770016ad9ea39278a6cd37138468e3c1152b96bf14d71", func := "landfall/landfalllaw07.CommitGrows", spec := "commitGrows", inPlace := ["slices.overlaps[landfall/api.Vote]"], unfollowed := true, recurses := true, apart := false }
def CommitGrowsSaid : Prop := commitGrowsRow.holds Try.pinned (OpenSpec.ofChange commitGrowsSpec)

/-- ITS FALSE NEIGHBOUR: 'it returns false'. Refute it at one input. -/
def commitGrowsWrong : ChangeSpec := { name := "commitGrows", fn := fun _ => fun
  | [d1, d2, d3] => { results := [.lit (.bool false)], args := [d1, d2, d3] }
  | _ => none }
def CommitGrowsWrongFalsely : Prop := commitGrowsRow.holds Try.pinned (OpenSpec.ofChange commitGrowsWrong)

/-- 'landfalllaw07.CommitDecodes': WHATEVER THE INPUT: true; the input reads as it did. -/
def commitDecodesSpec : ChangeSpec := { name := "commitDecodes", fn := fun _ => fun
  | [d] => { results := [.lit (.bool true)], args := [d] }
  | _ => none }
def commitDecodesRow : OpenClaim := { program := "ytooghjnddifpdaa", sum := "a14823afdb6b8a4a7c9770016ad9ea39278a6cd37138468e3c1152b96bf14d71", func := "landfall/landfalllaw07.CommitDecodes", spec := "commitDecodes", inPlace := ["slices.overlaps[landfall/api.Vote]"], unfollowed := true, recurses := true, apart := false }
def CommitDecodesSaid : Prop := commitDecodesRow.holds Try.pinned (OpenSpec.ofChange commitDecodesSpec)

/-- ITS FALSE NEIGHBOUR: 'it returns false'. Refute it at one input. -/
def commitDecodesWrong : ChangeSpec := { name := "commitDecodes", fn := fun _ => fun
  | [d] => { results := [.lit (.bool false)], args := [d] }
  | _ => none }
def CommitDecodesWrongFalsely : Prop := commitDecodesRow.holds Try.pinned (OpenSpec.ofChange commitDecodesWrong)

/-- 'landfalllaw07.CommitTells': WHATEVER THE INPUT: true; the input reads as it did. -/
def commitTellsSpec : ChangeSpec := { name := "commitTells", fn := fun _ => fun
  | [d1, d2, d3] => { results := [.lit (.bool true)], args := [d1, d2, d3] }
  | _ => none }
def commitTellsRow : OpenClaim := { program := "ytooghjnddifpdaa", sum := "a14823afdb6b8a4a7c9770016ad9ea39278a6cd37138468e3c1152b96bf14d71", func := "landfall/landfalllaw07.CommitTells", spec := "commitTells", inPlace := ["slices.overlaps[landfall/api.Vote]"], unfollowed := true, recurses := true, apart := false }
def CommitTellsSaid : Prop := commitTellsRow.holds Try.pinned (OpenSpec.ofChange commitTellsSpec)

/-- ITS FALSE NEIGHBOUR: 'it returns false'. Refute it at one input. -/
def commitTellsWrong : ChangeSpec := { name := "commitTells", fn := fun _ => fun
  | [d1, d2, d3] => { results := [.lit (.bool false)], args := [d1, d2, d3] }
  | _ => none }
def CommitTellsWrongFalsely : Prop := commitTellsRow.holds Try.pinned (OpenSpec.ofChange commitTellsWrong)

/-- 'landfalllaw07.CommitBack': WHATEVER THE INPUT: true; the input reads as it did. -/
def commitBackSpec : ChangeSpec := { name := "commitBack", fn := fun _ => fun
  | [d1, d2, d3] => { results := [.lit (.bool true)], args := [d1, d2, d3] }
  | _ => none }
def commitBackRow : OpenClaim := { program := "ytooghjnddifpdaa", sum := "a14823afdb6b8a4a7c9770016ad9ea39278a6cd37138468e3c1152b96bf14d71", func := "landfall/landfalllaw07.CommitBack", spec := "commitBack", inPlace := ["slices.overlaps[landfall/api.Vote]"], unfollowed := true, recurses := true, apart := false }
def CommitBackSaid : Prop := commitBackRow.holds Try.pinned (OpenSpec.ofChange commitBackSpec)

/-- ITS FALSE NEIGHBOUR: 'it returns false'. Refute it at one input. -/
def commitBackWrong : ChangeSpec := { name := "commitBack", fn := fun _ => fun
  | [d1, d2, d3] => { results := [.lit (.bool false)], args := [d1, d2, d3] }
  | _ => none }
def CommitBackWrongFalsely : Prop := commitBackRow.holds Try.pinned (OpenSpec.ofChange commitBackWrong)

/- THE SECOND FORM. 'bulk': how many values and letters a reading holds, each counted each time it is reached (what is shared counts as often as it is met; a slice's spare places count too). A statement '..UptoSaid' is the law's where the arguments, and the package variables that the reading takes, are together of bulk at most 1048576: NARROWER than '..Said'. Prove '..Said' where nothing that the law and all that it calls make is longer than what came in: it says more and counts as full. Else prove '..UptoSaid'. A law counts once. -/
mutual
def uptoBulk {H : Type} : DataW H → Nat
  | .lit (.string bytes) => bytes.length + 1
  | .lit _ => 1
  | .nil => 1
  | .ptr d => uptoBulk d + 1
  | .slice elems spare => uptoBulkAll elems + uptoBulkAll spare + 1
  | .agg parts => uptoBulkAll parts + 1
  | .iface _ d => uptoBulk d + 1
  | .map entries => uptoBulkEntries entries + 1
  | .held _ => 1
def uptoBulkAll {H : Type} : List (DataW H) → Nat
  | [] => 0
  | d :: r => uptoBulk d + uptoBulkAll r
def uptoBulkEntries {H : Type} : List (Lit × DataW H) → Nat
  | [] => 0
  | x :: r => uptoBulkEntry x + uptoBulkEntries r
def uptoBulkEntry {H : Type} : Lit × DataW H → Nat
  | (.string bytes, d) => bytes.length + uptoBulk d + 1
  | (_, d) => uptoBulk d + 1
 end
def uptoSmall : (H : Type) → List (DataW H) → Bool := fun _ ds => decide (uptoBulkAll ds ≤ 1048576)
def OpenSpec.upto (s : _root_.Go.ChangeSpec) : _root_.Go.OpenSpec := { _root_.Go.OpenSpec.ofChange s with cond := some uptoSmall }

/-- 'landfalllaw07.CommitAdds', WHERE WHAT IT READS IS OF BULK AT MOST 1048576: true; the input reads as it did. -/
def commitAddsUptoRow : OpenClaim := { program := "ytooghjnddifpdaa", sum := "a14823afdb6b8a4a7c9770016ad9ea39278a6cd37138468e3c1152b96bf14d71", func := "landfall/landfalllaw07.CommitAdds", spec := "commitAdds", inPlace := ["slices.overlaps[landfall/api.Vote]"], unfollowed := true, recurses := true, apart := false, narrowed := true }
def CommitAddsUptoSaid : Prop := commitAddsUptoRow.holds Try.pinned (OpenSpec.upto commitAddsSpec)

/-- 'landfalllaw07.CommitKnown', WHERE WHAT IT READS IS OF BULK AT MOST 1048576: true; the input reads as it did. -/
def commitKnownUptoRow : OpenClaim := { program := "ytooghjnddifpdaa", sum := "a14823afdb6b8a4a7c9770016ad9ea39278a6cd37138468e3c1152b96bf14d71", func := "landfall/landfalllaw07.CommitKnown", spec := "commitKnown", inPlace := ["slices.overlaps[landfall/api.Vote]"], unfollowed := true, recurses := true, apart := false, narrowed := true }
def CommitKnownUptoSaid : Prop := commitKnownUptoRow.holds Try.pinned (OpenSpec.upto commitKnownSpec)

/-- 'landfalllaw07.CommitGrows', WHERE WHAT IT READS IS OF BULK AT MOST 1048576: true; the input reads as it did. -/
def commitGrowsUptoRow : OpenClaim := { program := "ytooghjnddifpdaa", sum := "a14823afdb6b8a4a7c9770016ad9ea39278a6cd37138468e3c1152b96bf14d71", func := "landfall/landfalllaw07.CommitGrows", spec := "commitGrows", inPlace := ["slices.overlaps[landfall/api.Vote]"], unfollowed := true, recurses := true, apart := false, narrowed := true }
def CommitGrowsUptoSaid : Prop := commitGrowsUptoRow.holds Try.pinned (OpenSpec.upto commitGrowsSpec)

/-- 'landfalllaw07.CommitDecodes', WHERE WHAT IT READS IS OF BULK AT MOST 1048576: true; the input reads as it did. -/
def commitDecodesUptoRow : OpenClaim := { program := "ytooghjnddifpdaa", sum := "a14823afdb6b8a4a7c9770016ad9ea39278a6cd37138468e3c1152b96bf14d71", func := "landfall/landfalllaw07.CommitDecodes", spec := "commitDecodes", inPlace := ["slices.overlaps[landfall/api.Vote]"], unfollowed := true, recurses := true, apart := false, narrowed := true }
def CommitDecodesUptoSaid : Prop := commitDecodesUptoRow.holds Try.pinned (OpenSpec.upto commitDecodesSpec)

/-- 'landfalllaw07.CommitTells', WHERE WHAT IT READS IS OF BULK AT MOST 1048576: true; the input reads as it did. -/
def commitTellsUptoRow : OpenClaim := { program := "ytooghjnddifpdaa", sum := "a14823afdb6b8a4a7c9770016ad9ea39278a6cd37138468e3c1152b96bf14d71", func := "landfall/landfalllaw07.CommitTells", spec := "commitTells", inPlace := ["slices.overlaps[landfall/api.Vote]"], unfollowed := true, recurses := true, apart := false, narrowed := true }
def CommitTellsUptoSaid : Prop := commitTellsUptoRow.holds Try.pinned (OpenSpec.upto commitTellsSpec)

/-- 'landfalllaw07.CommitBack', WHERE WHAT IT READS IS OF BULK AT MOST 1048576: true; the input reads as it did. -/
def commitBackUptoRow : OpenClaim := { program := "ytooghjnddifpdaa", sum := "a14823afdb6b8a4a7c9770016ad9ea39278a6cd37138468e3c1152b96bf14d71", func := "landfall/landfalllaw07.CommitBack", spec := "commitBack", inPlace := ["slices.overlaps[landfall/api.Vote]"], unfollowed := true, recurses := true, apart := false, narrowed := true }
def CommitBackUptoSaid : Prop := commitBackUptoRow.holds Try.pinned (OpenSpec.upto commitBackSpec)

end Rows
end Go.Proofs.Ytooghjnddifpdaa
