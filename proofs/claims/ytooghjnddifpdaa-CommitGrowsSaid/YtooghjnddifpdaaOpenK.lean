/- What came in: a slice of bytes with its capacity; a slice of ints. -/
import Derived.Test.YtooghjnddifpdaaOpenB
namespace Go.Proofs.Ytooghjnddifpdaa
open Go.RowKit Go.ChangeShapes Go.WideShapes Go.Deep

section
variable {H : Type} {enc : TypeId × Value → H} {P : Program} {w : World} {base : Nat} {spare : Nat → Bool} {held : Bool} {fuel : Nat} {x : DataW H × List MemPlace}
theorem open_bytes_arg {t e : TypeId} {A : Option Addr} {len cap : Nat} (ht : P.underlying t = some (.slice e)) (he : P.underlying e = some (.int .u8)) (hC : P.cellsOf e = 1) (h : DataW.trod enc P w base spare held fuel t (Value.slice A len cap).cells.toList = some x) :
    ∃ l : List UInt8, l.length = len ∧ BytesOf w (.slice A len cap) l ∧ len ≤ cap ∧ cap ≤ maxLen := by
  have hcap : len ≤ cap ∧ cap ≤ maxLen := by
    rcases open_slice ht h with ⟨h0, _⟩ | ⟨a, len', cap', m, n, D, Pl, hcs, hb, hl, hm, _⟩
    · simp [Value.cells] at h0; omega
    · simp [Value.cells] at hcs
      obtain ⟨_, rfl, rfl⟩ := hcs
      exact ⟨hl, hm⟩
  obtain ⟨v, l, hv, hB, _⟩ := trod_bytes ht he hC h
  simp [Value.cells] at hv
  subst hv
  have hlen : l.length = len := by
    obtain ⟨A', c', e, _⟩ := hB
    simp only [Value.slice.injEq] at e
    exact e.2.1.symm
  exact ⟨l, hlen, hB, hcap.1, hcap.2⟩
theorem open_int_arg {t e : TypeId} {A : Option Addr} {len cap : Nat} (ht : P.underlying t = some (.slice e)) (he : P.underlying e = some (.int .i64)) (hC : P.cellsOf e = 1) (h : DataW.trod enc P w base spare held fuel t (Value.slice A len cap).cells.toList = some x) :
    ∃ zs : List Int, zs.length = len ∧ (∀ z ∈ zs, (Lit.int .i64 z).wf = true) ∧ (0 < zs.length → ∃ b off, A = some ⟨b, off, none⟩ ∧ b < w.heap.size ∧ ∀ i z, zs[i]? = some z → w.cell? ⟨b, off + i, none⟩ = some (.int .i64 z)) := by
  rcases open_slice ht h with ⟨h0, _⟩ | ⟨a, len', cap', m, n, D, Pl, hcs, hb, hl, hm, hmm, hx, hi⟩
  · simp [Value.cells] at h0
    exact ⟨[], by simp; omega, by simp, by simp⟩
  · simp [Value.cells] at hcs
    obtain ⟨rfl, rfl, rfl⟩ := hcs
    have hlm : len ≤ m := by rw [hmm]; split <;> omega
    have hc : ∀ i, i < len → ∃ z : Int, w.cell? (a.add i) = some (.int .i64 z) ∧ (Lit.int .i64 z).wf = true := fun i hil => by
      obtain ⟨cs', hcc, ht'⟩ := hi i (by omega)
      rw [hC, Nat.mul_one] at hcc
      obtain ⟨z, rfl, _, hw⟩ := DataW.trod_int he ht'
      obtain ⟨_, _, hat⟩ := World.cells?_some hcc
      have := hat 0 (by omega)
      have e0 : (a.add i).add 0 = a.add i := by
        unfold Addr.add; split <;> simp_all
      rw [e0] at this
      exact ⟨z, by simpa using this, hw⟩
    obtain ⟨g, hg⟩ : ∃ g : Nat → Int, ∀ i, i < len → w.cell? (a.add i) = some (.int .i64 (g i)) ∧ (Lit.int .i64 (g i)).wf = true := ⟨fun i => if h : i < len then (hc i h).choose else 0, fun i hi => by simp only [dif_pos hi]; exact (hc i hi).choose_spec⟩
    refine ⟨(List.range len).map g, by simp, fun z hz => ?_, fun h0 => ?_⟩
    · obtain ⟨i, hi, rfl⟩ := List.mem_map.1 hz
      exact (hg i (by simpa using hi)).2
    · have h0 : 0 < len := by simpa using h0
      obtain ⟨b, off, spot⟩ := a
      have hz := (hg 0 h0).1
      have hspot : spot = none := by
        have := World.cell?_spot hz
        cases spot with
        | none => rfl
        | some s => simp [Addr.add] at this
      subst hspot
      rw [addr_add] at hz
      refine ⟨b, off, rfl, World.block_lt_of_cell? w _ hz, fun i z hiz => ?_⟩
      have hi : i < len := by have := (List.getElem?_eq_some_iff.1 hiz).1; simpa using this
      have := (hg i hi).1
      rw [addr_add] at this
      rw [this]
      simp [hi] at hiz
      rw [hiz]
end
end Go.Proofs.Ytooghjnddifpdaa
