/- What came in as a slice of structs of ints, cell by cell. -/
import Derived.Test.YtlnhofpjeinadaaBase
import Derived.Deep.Slices
import Derived.Deep.Fields
import Derived.OpenShut
namespace Go.Proofs.Ytlnhofpjeinadaa
open Go.ChangeShapes Go.WideShapes Go.Deep

section
variable {H : Type} {enc : TypeId × Value → H} {P : Program} {w : World} {base : Nat} {spare : Nat → Bool} {held : Bool}

/-- A struct of ints: its cells are ints. -/
theorem ints_of_struct {t : TypeId} {fs : Array Field} {fuel : Nat} {cs : List Value} {x : DataW H × List MemPlace} (ht : P.underlying t = some (.struct fs)) (hone : oneCellFields P fs = true) (hC : P.cellsOf t = fs.size)
    (hint : ∀ (j : Nat) f, fs[j]? = some f → P.underlying f.type = some (.int .i64)) (h : DataW.trod enc P w base spare held fuel t cs = some x) :
    cs.length = fs.size ∧ ∀ (j : Nat), j < fs.size → ∃ a : Int, cs[j]? = some (.int .i64 a) ∧ (Lit.int .i64 a).wf = true := by
  obtain ⟨ys, n, _, _, hlen, hyl, hf⟩ := DataW.trod_struct ht h
  refine ⟨hlen.trans hC, fun j hj => ?_⟩
  have hfj : fs[j]? = some fs[j] := Array.getElem?_eq_getElem hj
  obtain ⟨o, k⟩ := hone_of hone j _ hfj
  have h1 := hf j _ hfj
  have hjc : j < cs.length := by omega
  rw [o, k] at h1
  have e : (cs.drop j).take 1 = [cs[j]] := by
    rw [List.drop_eq_getElem_cons hjc]
    rfl
  have hy : ys[j]? = some (ys[j]'(by omega)) := List.getElem?_eq_getElem (by omega)
  rw [e, hy] at h1
  obtain ⟨a, ha, _, hw⟩ := DataW.trod_int (hint j _ hfj) h1
  refine ⟨a, ?_, hw⟩
  rw [List.getElem?_eq_getElem hjc]
  simpa using ha

/-- A slice of structs of ints. -/
theorem open_int_structs {t e : TypeId} {fs : Array Field} {fuel : Nat} {cs : List Value} {x : DataW H × List MemPlace} (hs : P.underlying t = some (.slice e)) (ht : P.underlying e = some (.struct fs)) (hone : oneCellFields P fs = true) (hC : P.cellsOf e = fs.size) (hfs : 0 < fs.size)
    (hint : ∀ (j : Nat) f, fs[j]? = some f → P.underlying f.type = some (.int .i64)) (h : DataW.trod enc P w base spare held fuel t cs = some x) :
    (cs = [.slice none 0 0]) ∨ ∃ (a : Addr) (len cap : Nat), cs = [.slice (some a) len cap] ∧ (0 < len → MemPlace.cell a.block a.off ∈ x.2) ∧
      ∀ i j, i < len → j < fs.size → ∃ z : Int, w.cell? (a.add (i * fs.size + j)) = some (.int .i64 z) ∧ (Lit.int .i64 z).wf = true := by
  rcases open_slice hs h with ⟨h0, _⟩ | ⟨a, len, cap, m, n, D, Pl, hcs, hb, hl, hm, hmm, hx, hi⟩
  · exact .inl h0
  · have hlm : len ≤ m := by rw [hmm]; split <;> omega
    refine .inr ⟨a, len, cap, hcs, fun hl0 => ?_, fun i j hil hj => ?_⟩
    · rw [hx, hC]
      exact List.mem_append_left _ (MemPlace.mem_row.2 ⟨0, Nat.mul_pos (by omega) hfs, by simp⟩)
    · obtain ⟨cs', hc, ht'⟩ := hi i (by omega)
      obtain ⟨hlen, hz⟩ := ints_of_struct ht hone hC hint ht'
      obtain ⟨z, hz1, hz2⟩ := hz j hj
      rw [hC] at hc
      obtain ⟨_, _, hat⟩ := World.cells?_some hc
      refine ⟨z, ?_, hz2⟩
      rw [← add_add, hat j hj, hz1]
end
end Go.Proofs.Ytlnhofpjeinadaa
