/- What came in: votes, commits, a vote. -/
import Derived.Test.YtooghjnddifpdaaOpenK
import Derived.Test.YtooghjnddifpdaaCm21
namespace Go.Proofs.Ytooghjnddifpdaa
open Go.RowKit Go.ChangeShapes Go.WideShapes Go.Deep Go.Proofs.Ytooghjnddifpdaa.Cm

section
variable {H : Type} {enc : TypeId × Value → H} {w : World} {base : Nat} {spare : Nat → Bool} {held : Bool} {fuel : Nat} {cs : List Value} {x : DataW H × List MemPlace}
theorem trod_vote (h : DataW.trod enc Try.prog w base spare held fuel 29 cs = some x) : ∃ y : Vt, cs = [.int .i64 y.p, .int .u64 y.g] ∧ y.g < 18446744073709551616 := by
  have c3 : Try.prog.cellsOf 3 = 1 := by kernel_rfl
  have c4 : Try.prog.cellsOf 27 = 1 := by kernel_rfl
  have c5 : Try.prog.cellsOf 29 = 2 := by kernel_rfl
  obtain ⟨xs, n, _, _, hl, hxl, hf⟩ := DataW.trod_struct Try.underlying29 h
  have hxl : xs.length = 2 := hxl
  have h0 := trod_of_get (show DataW.trod enc Try.prog w base spare held n 3 ((cs.drop 0).take (Try.prog.cellsOf 3)) = xs[0]? from hf 0 _ rfl) (by omega)
  have h1 := trod_of_get (show DataW.trod enc Try.prog w base spare held n 27 ((cs.drop 1).take (Try.prog.cellsOf 27)) = xs[1]? from hf 1 _ rfl) (by omega)
  obtain ⟨a0, e0, _, w0⟩ := DataW.trod_int Try.underlying3 h0
  obtain ⟨a1, e1, _, w1⟩ := DataW.trod_int Try.underlying27 h1
  rw [c3] at e0
  rw [c4] at e1
  have p0 := part_of e0
  have p1 := part_of e1
  have hend : cs.drop (1 + 1) = [] := List.drop_eq_nil_of_le (by rw [hl, c5]; omega)
  simp only [Nat.zero_add, Nat.reduceAdd] at p0 p1 hend
  have hw1 : 0 ≤ a1 ∧ a1 ≤ 18446744073709551615 := by simp only [Lit.wf, Bool.and_eq_true, decide_eq_true_eq] at w1; exact w1
  refine ⟨⟨a0, a1.toNat⟩, ?_, by show a1.toNat < _; omega⟩
  have hcs : cs = cs.drop 0 := rfl
  have ht : ((a1.toNat : Nat) : Int) = a1 := by omega
  rw [hcs, p0, p1, hend]
  simp [ht]
theorem open_votes {len cap : Nat} {A : Option Addr} (h : DataW.trod enc Try.prog w base spare held fuel 24 (Value.slice A len cap).cells.toList = some x) :
    ∃ l : List Vt, l.length = len ∧ VRow w (.slice A len cap) l ∧ ∀ v ∈ l, v.g < 18446744073709551616 := by
  have c2 : Try.prog.cellsOf 29 = 2 := by kernel_rfl
  rcases open_slice Try.underlying24 h with ⟨h0, _⟩ | ⟨a, len', cap', m, n, D, Pl, hcs, hb, hl, hm, hmm, hx, hi⟩
  · simp [Value.cells] at h0
    obtain ⟨rfl, rfl, rfl⟩ := h0
    exact ⟨[], rfl, ⟨none, 0, rfl, fun h => by simp at h⟩, by simp⟩
  · simp [Value.cells] at hcs
    obtain ⟨rfl, rfl, rfl⟩ := hcs
    have hlm : len ≤ m := by rw [hmm]; split <;> omega
    have hc : ∀ i, i < len → ∃ y : Vt, w.cell? (a.add (i * 2 + 0)) = some (.int .i64 y.p) ∧ w.cell? (a.add (i * 2 + 1)) = some (.int .u64 y.g) ∧ y.g < 18446744073709551616 := fun i hil => by
      obtain ⟨cs', hcc, ht'⟩ := hi i (by omega)
      rw [c2] at hcc
      obtain ⟨y, rfl, hy⟩ := trod_vote ht'
      obtain ⟨_, _, hat⟩ := World.cells?_some hcc
      refine ⟨y, ?_, ?_, hy⟩
      · rw [← add_add, hat 0 (by omega)]; rfl
      · rw [← add_add, hat 1 (by omega)]; rfl
    obtain ⟨g, hg⟩ : ∃ g : Nat → Vt, ∀ i, i < len → w.cell? (a.add (i * 2 + 0)) = some (.int .i64 (g i).p) ∧ w.cell? (a.add (i * 2 + 1)) = some (.int .u64 (g i).g) ∧ (g i).g < 18446744073709551616 :=
      ⟨fun i => if h : i < len then (hc i h).choose else ⟨0, 0⟩, fun i hi => by simp only [dif_pos hi]; exact (hc i hi).choose_spec⟩
    have hget : ∀ k y, ((List.range len).map g)[k]? = some y → k < len ∧ y = g k := fun k y hy => by
      have hk : k < len := by have := (List.getElem?_eq_some_iff.1 hy).1; simpa using this
      refine ⟨hk, ?_⟩
      simp [hk] at hy
      exact hy.symm
    refine ⟨(List.range len).map g, by simp, ⟨some a, cap, by simp, fun h0 => ?_⟩, fun y hy => ?_⟩
    · have h0 : 0 < len := by simpa using h0
      obtain ⟨b, off, spot⟩ := a
      have hz := (hg 0 h0).1
      have hspot : spot = none := by
        have := World.cell?_spot hz
        cases spot with
        | none => rfl
        | some s => simp [Addr.add] at this
      subst hspot
      rw [addr_add] at hz
      refine ⟨b, off, rfl, World.block_lt_of_cell? w _ hz, fun k y hy => ?_⟩
      obtain ⟨hk, rfl⟩ := hget k y hy
      obtain ⟨h1, h2, _⟩ := hg k hk
      rw [addr_add] at h1 h2
      exact ⟨h1, h2⟩
    · obtain ⟨k, hk⟩ := List.getElem?_of_mem hy
      obtain ⟨hkl, rfl⟩ := hget k y hk
      exact (hg k hkl).2.2
theorem trod_votes (h : DataW.trod enc Try.prog w base spare held fuel 24 cs = some x) : ∃ v l, cs = [v] ∧ VRow w v l ∧ ∀ v ∈ l, v.g < 18446744073709551616 := by
  rcases open_slice Try.underlying24 h with ⟨h0, _⟩ | ⟨a, len', cap', m, n, D, Pl, hcs, _⟩
  · exact ⟨_, [], h0, ⟨none, 0, rfl, fun h => by simp at h⟩, by simp⟩
  · rw [hcs] at h
    obtain ⟨l, hl, hv, hg⟩ := open_votes (A := some a) (len := len') (cap := cap') (by simpa [Value.cells] using h)
    exact ⟨_, l, hcs, hv, hg⟩
theorem trod_commit (h : DataW.trod enc Try.prog w base spare held fuel 26 cs = some x) : ∃ (c : C) (u : Value), cs = ccs c u ∧ Ci w c u ∧ ∀ v ∈ c.vs, v.g < 18446744073709551616 := by
  have c3 : Try.prog.cellsOf 3 = 1 := by kernel_rfl
  have c32 : Try.prog.cellsOf 24 = 1 := by kernel_rfl
  have c34 : Try.prog.cellsOf 23 = 32 := by kernel_rfl
  have c5 : Try.prog.cellsOf 5 = 1 := by kernel_rfl
  have c39 : Try.prog.cellsOf 26 = 34 := by kernel_rfl
  obtain ⟨xs, n, _, _, hl, hxl, hf⟩ := DataW.trod_struct Try.underlying26 h
  have hxl : xs.length = 3 := hxl
  have h0 := trod_of_get (show DataW.trod enc Try.prog w base spare held n 3 ((cs.drop 0).take (Try.prog.cellsOf 3)) = xs[0]? from hf 0 _ rfl) (by omega)
  have h1 := trod_of_get (show DataW.trod enc Try.prog w base spare held n 23 ((cs.drop 1).take (Try.prog.cellsOf 23)) = xs[1]? from hf 1 _ rfl) (by omega)
  have h2 := trod_of_get (show DataW.trod enc Try.prog w base spare held n 24 ((cs.drop 33).take (Try.prog.cellsOf 24)) = xs[2]? from hf 2 _ rfl) (by omega)
  obtain ⟨a0, e0, _, w0⟩ := DataW.trod_int Try.underlying3 h0
  obtain ⟨hh, hhl, e1⟩ := trod_u8s Try.underlying23 Try.underlying5 c5 c34 h1
  obtain ⟨v, l, e2, hV, hg⟩ := trod_votes h2
  rw [c3] at e0
  rw [c34] at e1
  rw [c32] at e2
  have p0 := part_of e0
  have p1 := part_of e1
  have p2 := part_of e2
  have hend : cs.drop (33 + 1) = [] := List.drop_eq_nil_of_le (by rw [hl, c39]; omega)
  simp only [Nat.zero_add, Nat.reduceAdd] at p0 p1 p2 hend
  refine ⟨⟨a0, hh, l⟩, v, ?_, ⟨hhl, hV⟩, hg⟩
  have hcs : cs = cs.drop 0 := rfl
  rw [hcs, p0, p1, p2, hend]
  rfl
theorem open_commit {cs : Array Value} (h : DataW.trod enc Try.prog w base spare held fuel 26 (Value.agg cs).cells.toList = some x) : ∃ (c : C) (u : Value), cs = (ccs c u).toArray ∧ Ci w c u ∧ ∀ v ∈ c.vs, v.g < 18446744073709551616 := by
  obtain ⟨c, u, e, hC⟩ := trod_commit h
  exact ⟨c, u, by rw [← e]; simp [Value.cells], hC⟩
theorem open_vote {cs : Array Value} (h : DataW.trod enc Try.prog w base spare held fuel 29 (Value.agg cs).cells.toList = some x) : ∃ y : Vt, cs = #[.int .i64 y.p, .int .u64 y.g] ∧ y.g < 18446744073709551616 := by
  obtain ⟨y, e, hy⟩ := trod_vote h
  refine ⟨y, ?_, hy⟩
  have : cs.toList = [.int .i64 y.p, .int .u64 y.g] := by simpa [Value.cells] using e
  rw [← Array.toArray_toList (xs := cs), this]
end
end Go.Proofs.Ytooghjnddifpdaa
