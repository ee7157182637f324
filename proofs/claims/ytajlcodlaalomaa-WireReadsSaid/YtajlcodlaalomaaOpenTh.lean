/- What came in: things of the laws of chapter 4. -/
import Derived.Test.YtajlcodlaalomaaOpenB
import Derived.Test.YtajlcodlaalomaaWire22
namespace Go.Proofs.Ytajlcodlaalomaa
open Go.RowKit Go.ChangeShapes Go.WideShapes Go.Deep

section
variable {H : Type} {enc : TypeId × Value → H} {w : World} {base : Nat} {spare : Nat → Bool} {held : Bool} {fuel : Nat} {cs : List Value} {x : DataW H × List MemPlace}
set_option maxRecDepth 100000 in
theorem trod_thing (h : DataW.trod enc Try.prog w base spare held fuel 39 cs = some x) : ∃ (y : Th) (u : Value), cs = y.cells u ∧ y.Ok ∧ BytesOf w u y.b := by
  have c3 : Try.prog.cellsOf 3 = 1 := by kernel_rfl
  have c32 : Try.prog.cellsOf 32 = 1 := by kernel_rfl
  have c34 : Try.prog.cellsOf 34 = 32 := by kernel_rfl
  have c36 : Try.prog.cellsOf 36 = 4 := by kernel_rfl
  have c37 : Try.prog.cellsOf 37 = 1 := by kernel_rfl
  have c4 : Try.prog.cellsOf 4 = 1 := by kernel_rfl
  have c5 : Try.prog.cellsOf 5 = 1 := by kernel_rfl
  have c39 : Try.prog.cellsOf 39 = 41 := by kernel_rfl
  obtain ⟨xs, n, _, _, hl, hxl, hf⟩ := DataW.trod_struct Try.underlying39 h
  have hxl : xs.length = 7 := hxl
  have h0 := trod_of_get (show DataW.trod enc Try.prog w base spare held n 3 ((cs.drop 0).take (Try.prog.cellsOf 3)) = xs[0]? from hf 0 _ rfl) (by omega)
  have h1 := trod_of_get (show DataW.trod enc Try.prog w base spare held n 3 ((cs.drop 1).take (Try.prog.cellsOf 3)) = xs[1]? from hf 1 _ rfl) (by omega)
  have h2 := trod_of_get (show DataW.trod enc Try.prog w base spare held n 32 ((cs.drop 2).take (Try.prog.cellsOf 32)) = xs[2]? from hf 2 _ rfl) (by omega)
  have h3 := trod_of_get (show DataW.trod enc Try.prog w base spare held n 34 ((cs.drop 3).take (Try.prog.cellsOf 34)) = xs[3]? from hf 3 _ rfl) (by omega)
  have h4 := trod_of_get (show DataW.trod enc Try.prog w base spare held n 36 ((cs.drop 35).take (Try.prog.cellsOf 36)) = xs[4]? from hf 4 _ rfl) (by omega)
  have h5 := trod_of_get (show DataW.trod enc Try.prog w base spare held n 37 ((cs.drop 39).take (Try.prog.cellsOf 37)) = xs[5]? from hf 5 _ rfl) (by omega)
  have h6 := trod_of_get (show DataW.trod enc Try.prog w base spare held n 4 ((cs.drop 40).take (Try.prog.cellsOf 4)) = xs[6]? from hf 6 _ rfl) (by omega)
  obtain ⟨a0, e0, _, w0⟩ := DataW.trod_int Try.underlying3 h0
  obtain ⟨a1, e1, _, w1⟩ := DataW.trod_int Try.underlying3 h1
  obtain ⟨v, l, e2, hB, _⟩ := trod_bytes Try.underlying32 Try.underlying5 c5 h2
  obtain ⟨hh, hhl, e3⟩ := trod_u8s Try.underlying34 Try.underlying5 c5 c34 h3
  obtain ⟨kk, hkl, e4⟩ := trod_u8s Try.underlying36 Try.underlying5 c5 c36 h4
  obtain ⟨a5, e5, _, w5⟩ := DataW.trod_int Try.underlying37 h5
  obtain ⟨a6, e6, _⟩ := DataW.trod_bool Try.underlying4 h6
  rw [c3] at e0 e1
  rw [c32] at e2
  rw [c34] at e3
  rw [c36] at e4
  rw [c37] at e5
  rw [c4] at e6
  have p0 := part_of e0
  have p1 := part_of e1
  have p2 := part_of e2
  have p3 := part_of e3
  have p4 := part_of e4
  have p5 := part_of e5
  have p6 := part_of e6
  have hend : cs.drop (40 + 1) = [] := List.drop_eq_nil_of_le (by rw [hl, c39]; omega)
  simp only [Nat.zero_add, Nat.reduceAdd] at p0 p1 p2 p3 p4 p5 p6 hend
  have hw5 : 0 ≤ a5 ∧ a5 ≤ 18446744073709551615 := by simp only [Lit.wf, Bool.and_eq_true, decide_eq_true_eq] at w5; exact w5
  have hw1 : a1 ≤ 9223372036854775807 := by simp only [Lit.wf, Bool.and_eq_true, decide_eq_true_eq] at w1; exact w1.2
  refine ⟨⟨a0, a1, l, hh, kk, a5.toNat, a6⟩, v, ?_, ⟨by show a1 < _; omega, hhl, hkl, by show a5.toNat < _; omega⟩, hB⟩
  have hcs : cs = cs.drop 0 := rfl
  rw [hcs, p0, p1, p2, p3, p4, p5, p6, hend]
  have ht : ((a5.toNat : Nat) : Int) = a5 := by omega
  simp [Th.cells, ht]

theorem open_things {len cap : Nat} {A : Option Addr} (h : DataW.trod enc Try.prog w base spare held fuel 22 (Value.slice A len cap).cells.toList = some x) :
    ∃ l : List Th, l.length = len ∧ ThRow w A l := by
  have c39 : Try.prog.cellsOf 39 = 41 := by kernel_rfl
  rcases open_slice Try.underlying22 h with ⟨h0, _⟩ | ⟨a, len', cap', m, n, D, Pl, hcs, hb, hl, hm, hmm, hx, hi⟩
  · simp [Value.cells] at h0
    exact ⟨[], by simp; omega, by simp, by simp⟩
  · simp [Value.cells] at hcs
    obtain ⟨rfl, rfl, rfl⟩ := hcs
    have hlm : len ≤ m := by rw [hmm]; split <;> omega
    have hc : ∀ i, i < len → ∃ y : Th, ∃ u, (∀ j v, (y.cells u)[j]? = some v → w.cell? (a.add (i * 41 + j)) = some v) ∧ y.Ok ∧ BytesOf w u y.b := fun i hil => by
      obtain ⟨cs', hcc, ht'⟩ := hi i (by omega)
      rw [c39] at hcc
      obtain ⟨y, u, rfl, hy, hu⟩ := trod_thing ht'
      obtain ⟨_, _, hat⟩ := World.cells?_some hcc
      refine ⟨y, u, fun j v hv => ?_, hy, hu⟩
      have hj : j < 41 := by
        have := (List.getElem?_eq_some_iff.1 hv).1
        simpa [Th.cells, u8s_len, hy.h, hy.k] using this
      rw [← add_add, hat j hj, hv]
    obtain ⟨g, hg⟩ : ∃ g : Nat → Th, ∀ i, i < len → ∃ u, (∀ j v, ((g i).cells u)[j]? = some v → w.cell? (a.add (i * 41 + j)) = some v) ∧ (g i).Ok ∧ BytesOf w u (g i).b :=
      ⟨fun i => if h : i < len then (hc i h).choose else ⟨0, 0, [], [], [], 0, false⟩, fun i hi => by simp only [dif_pos hi]; exact (hc i hi).choose_spec⟩
    have hget : ∀ k y, ((List.range len).map g)[k]? = some y → k < len ∧ y = g k := fun k y hy => by
      have hk : k < len := by have := (List.getElem?_eq_some_iff.1 hy).1; simpa using this
      refine ⟨hk, ?_⟩
      simp [hk] at hy
      exact hy.symm
    refine ⟨(List.range len).map g, by simp, fun y hy => ?_, fun h0 => ?_⟩
    · obtain ⟨k, hk⟩ := List.getElem?_of_mem hy
      obtain ⟨hkl, rfl⟩ := hget k y hk
      obtain ⟨u, _, h, _⟩ := hg k hkl
      exact h
    · have h0 : 0 < len := by simpa using h0
      obtain ⟨b, off, spot⟩ := a
      obtain ⟨u, hcell, _, _⟩ := hg 0 h0
      have hz := hcell 0 _ (Th.c0 _ _)
      have hspot : spot = none := by
        have := World.cell?_spot hz
        cases spot with
        | none => rfl
        | some s => simp [Addr.add] at this
      subst hspot
      rw [addr_add] at hz
      refine ⟨b, off, rfl, World.block_lt_of_cell? w _ hz, fun k y hy => ?_⟩
      obtain ⟨hk, rfl⟩ := hget k y hy
      obtain ⟨u, hcell, _, hu⟩ := hg k hk
      refine ⟨u, fun j v hv => ?_, hu⟩
      have := hcell j v hv
      rw [addr_add] at this
      rw [Nat.add_assoc]
      exact this
end
end Go.Proofs.Ytajlcodlaalomaa
