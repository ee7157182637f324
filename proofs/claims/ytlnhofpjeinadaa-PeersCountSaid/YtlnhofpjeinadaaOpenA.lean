/- Acts that came in. -/
import Derived.Test.YtlnhofpjeinadaaOpen
import Derived.Test.YtlnhofpjeinadaaOpenI
import Derived.Test.YtlnhofpjeinadaaPee25
namespace Go.Proofs.Ytlnhofpjeinadaa
open Go.ChangeShapes Go.WideShapes Go.Deep

theorem u64_toNat {a : Int} (h : (Lit.int .u64 a).wf = true) : a.toNat < 18446744073709551616 := by
  have h1 : IntKind.u64.max = 18446744073709551615 := by decide
  simp [Lit.wf] at h
  omega
theorem open_acts {H : Type} {enc : TypeId × Value → H} {W : World} {base : Nat} {spare : Nat → Bool} {held : Bool} {fuel len cap : Nat} {A : Option Addr} {x : DataW H × List MemPlace} (lt : ∀ y ∈ x.2, y.block < W.heap.size)
    (hf : DataW.trod enc Try.prog W base spare held fuel 45 (Value.slice A len cap).cells.toList = some x) : ∃ l : List Ac, l.length = len ∧ ARow W A l := by
  rcases open_int_structs Try.underlying45 Try.underlying48 (by kernel_rfl) (by kernel_rfl) (by decide)
    (fun j f hj => by
      match j, hj with
      | 0, hj => cases hj; exact Try.underlying3
      | 1, hj => cases hj; exact Try.underlying3
      | 2, hj => cases hj; exact Try.underlying3) hf with hcs | ⟨a, len', cap', hcs, hm, hc⟩
  · simp [Value.cells] at hcs
    exact ⟨[], by simp; omega, fun h => by simp at h⟩
  · simp [Value.cells] at hcs
    obtain ⟨rfl, rfl, rfl⟩ := hcs
    by_cases h0 : len = 0
    · exact ⟨[], by simp; omega, fun h => by simp at h⟩
    obtain ⟨b, off, spot⟩ := a
    obtain ⟨z0, hz0, _⟩ := hc 0 0 (by omega) (by decide)
    have hspot : spot = none := by simpa [Addr.add] using World.cell?_spot hz0
    subst hspot
    have hbW : b < W.heap.size := lt _ (hm (by omega))
    have hcell : ∀ i j, i < len → j < 3 → ∃ z : Int, W.cell? ⟨b, off + i * 3 + j, none⟩ = some (.int .i64 z) := fun i j hi hj => by
      obtain ⟨z, hz, _⟩ := hc i j hi hj
      refine ⟨z, ?_⟩
      rw [add_plain] at hz
      rw [Nat.add_assoc]
      exact hz
    obtain ⟨g, hg⟩ : ∃ g : Nat → Nat → Int, ∀ i j, i < len → j < 3 → W.cell? ⟨b, off + i * 3 + j, none⟩ = some (.int .i64 (g i j)) :=
      ⟨fun i j => if h : i < len ∧ j < 3 then (hcell i j h.1 h.2).choose else 0, fun i j hi hj => by
        simp only [dif_pos (And.intro hi hj)]
        exact (hcell i j hi hj).choose_spec⟩
    refine ⟨(List.range len).map fun i => ⟨g i 0, g i 1, g i 2⟩, by simp, fun _ => ⟨b, off, rfl, hbW, fun k a ha => ?_⟩⟩
    rw [List.getElem?_map] at ha
    have hk : k < len := by
      by_cases hk : k < len
      · exact hk
      · rw [List.getElem?_eq_none (by simp; omega)] at ha; cases ha
    rw [List.getElem?_range hk] at ha
    simp at ha
    subst ha
    exact ⟨hg k 0 hk (by omega), hg k 1 hk (by omega), hg k 2 hk (by omega)⟩
end Go.Proofs.Ytlnhofpjeinadaa
