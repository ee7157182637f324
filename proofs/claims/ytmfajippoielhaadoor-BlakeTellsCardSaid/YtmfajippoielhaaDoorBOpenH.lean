/- What came in: a hash by value. -/
import Derived.Test.YtmfajippoielhaaDoorBOpenK
namespace Go.Proofs.YtmfajippoielhaaDoor
open Go.RowKit Go.ChangeShapes Go.WideShapes Go.Deep

theorem okWide_array {P : Program} {w : World} {r : Reach} {base : Nat} {t : TypeId} {v : Value} {n : Nat} {e : TypeId} (ht : P.underlying t = some (.array n e)) (h : Value.okWide P w r base t v) : ∃ cs, v = .agg cs ∧ cs.size = P.cellsOf t := by
  simp only [Value.okWide, ht] at h
  obtain ⟨cs, h1, h2, _⟩ := h
  exact ⟨cs, h1, h2⟩
section
variable {H : Type} {enc : TypeId × Value → H} {w : World} {base : Nat} {spare : Nat → Bool} {held : Bool} {fuel : Nat} {x : DataW H × List MemPlace}
theorem open_hash {cs : Array Value} (h : DataW.trod enc Tryd.prog w base spare held fuel 26 (Value.agg cs).cells.toList = some x) : ∃ l : List UInt8, l.length = 32 ∧ cs = (u8s l).toArray := by
  obtain ⟨l, hl, e⟩ := trod_u8s Tryd.underlying26 Tryd.underlying5 (by kernel_rfl) (by kernel_rfl) h
  refine ⟨l, hl, ?_⟩
  have e : cs.toList = u8s l := e
  rw [← e]
end
theorem strB_of (s : ByteArray) : strB s.data.toList = s := by
  apply ByteArray.ext
  simp [strB]
end Go.Proofs.YtmfajippoielhaaDoor
