/- What came in: validators. -/
import Derived.Test.YtooghjnddifpdaaOpenCm
import Derived.Test.YtooghjnddifpdaaCm22
namespace Go.Proofs.Ytooghjnddifpdaa
open Go.RowKit Go.ChangeShapes Go.WideShapes Go.Deep Go.Proofs.Ytooghjnddifpdaa.Cm

theorem gcs_inv {α : Type} {f : α → List Value} {sz : Nat} (hf : ∀ a, (f a).length = sz) : ∀ (l : List α) (j : Nat) (u : Value), (gcs f l)[j]? = some u → ∃ (i r : Nat) (a : α), j = i * sz + r ∧ l[i]? = some a ∧ (f a)[r]? = some u
  | [], j, u, h => by simp [gcs] at h
  | b :: L, j, u, h => by
    have h' : (f b ++ gcs f L)[j]? = some u := h
    by_cases hj : j < sz
    · rw [List.getElem?_append_left (by rw [hf]; exact hj)] at h'
      exact ⟨0, j, b, by simp, rfl, h'⟩
    · rw [List.getElem?_append_right (by rw [hf]; omega), hf] at h'
      obtain ⟨i, r, a, hi, ha, hr⟩ := gcs_inv hf L _ u h'
      exact ⟨i + 1, r, a, by rw [Nat.succ_mul]; omega, ha, hr⟩
section
variable {H : Type} {enc : TypeId × Value → H} {w : World} {base : Nat} {spare : Nat → Bool} {held : Bool} {fuel : Nat} {cs : List Value} {x : DataW H × List MemPlace}
theorem trod_vd (h : DataW.trod enc Try.prog w base spare held fuel 89 cs = some x) : ∃ d : Vd, cs = dcs d := by
  have c3 : Try.prog.cellsOf 3 = 1 := by kernel_rfl
  have c34 : Try.prog.cellsOf 52 = 4 := by kernel_rfl
  have c5 : Try.prog.cellsOf 5 = 1 := by kernel_rfl
  have c39 : Try.prog.cellsOf 89 = 5 := by kernel_rfl
  obtain ⟨xs, n, _, _, hl, hxl, hf⟩ := DataW.trod_struct Try.underlying89 h
  have hxl : xs.length = 2 := hxl
  have h0 := trod_of_get (show DataW.trod enc Try.prog w base spare held n 52 ((cs.drop 0).take (Try.prog.cellsOf 52)) = xs[0]? from hf 0 _ rfl) (by omega)
  have h1 := trod_of_get (show DataW.trod enc Try.prog w base spare held n 3 ((cs.drop 4).take (Try.prog.cellsOf 3)) = xs[1]? from hf 1 _ rfl) (by omega)
  obtain ⟨hh, hhl, e0⟩ := trod_u8s Try.underlying52 Try.underlying5 c5 c34 h0
  obtain ⟨a1, e1, _, w1⟩ := DataW.trod_int Try.underlying3 h1
  rw [c34] at e0
  rw [c3] at e1
  have p0 := part_of e0
  have p1 := part_of e1
  have hend : cs.drop (4 + 1) = [] := List.drop_eq_nil_of_le (by rw [hl, c39]; omega)
  simp only [Nat.zero_add, Nat.reduceAdd] at p0 p1 hend
  match hh, hhl with
  | [a, b, c, d], _ =>
    refine ⟨⟨⟨a, b, c, d⟩, a1⟩, ?_⟩
    have hcs : cs = cs.drop 0 := rfl
    rw [hcs, p0, p1, hend]
    rfl
theorem open_vals {len cap : Nat} {A : Option Addr} (h : DataW.trod enc Try.prog w base spare held fuel 46 (Value.slice A len cap).cells.toList = some x) :
    ∃ l : List Vd, l.length = len ∧ DRow w (.slice A len cap) l := by
  have c2 : Try.prog.cellsOf 89 = 5 := by kernel_rfl
  rcases open_slice Try.underlying46 h with ⟨h0, _⟩ | ⟨a, len', cap', m, n, D, Pl, hcs, hb, hl, hm, hmm, hx, hi⟩
  · simp [Value.cells] at h0
    obtain ⟨rfl, rfl, rfl⟩ := h0
    exact ⟨[], rfl, ⟨none, 0, rfl, fun h => by simp at h⟩⟩
  · simp [Value.cells] at hcs
    obtain ⟨rfl, rfl, rfl⟩ := hcs
    have hlm : len ≤ m := by rw [hmm]; split <;> omega
    have hc : ∀ i, i < len → ∃ y : Vd, ∀ r u, (dcs y)[r]? = some u → w.cell? (a.add (i * 5 + r)) = some u := fun i hil => by
      obtain ⟨cs', hcc, ht'⟩ := hi i (by omega)
      rw [c2] at hcc
      obtain ⟨y, rfl⟩ := trod_vd ht'
      obtain ⟨_, _, hat⟩ := World.cells?_some hcc
      refine ⟨y, fun r u hu => ?_⟩
      have hr : r < 5 := by have := (List.getElem?_eq_some_iff.1 hu).1; rwa [dcs_len] at this
      rw [← add_add, hat r hr, hu]
    obtain ⟨g, hg⟩ : ∃ g : Nat → Vd, ∀ i, i < len → ∀ r u, (dcs (g i))[r]? = some u → w.cell? (a.add (i * 5 + r)) = some u :=
      ⟨fun i => if h : i < len then (hc i h).choose else ⟨⟨0, 0, 0, 0⟩, 0⟩, fun i hi => by simp only [dif_pos hi]; exact (hc i hi).choose_spec⟩
    refine ⟨(List.range len).map g, by simp, ⟨some a, cap, by simp, fun h0 => ?_⟩⟩
    have h0 : 0 < len := by simpa using h0
    obtain ⟨b, off, spot⟩ := a
    have hz := hg 0 h0 0 _ rfl
    have hspot : spot = none := by
      have := World.cell?_spot hz
      cases spot with
      | none => rfl
      | some s => simp [Addr.add] at this
    subst hspot
    rw [addr_add] at hz
    refine ⟨b, off, rfl, World.block_lt_of_cell? w _ hz, fun j u hu => ?_⟩
    obtain ⟨i, r, y, rfl, hy, hr⟩ := gcs_inv dcs_len _ _ _ hu
    have hk : i < len := by have := (List.getElem?_eq_some_iff.1 hy).1; simpa using this
    simp [hk] at hy
    subst hy
    have := hg i hk r u hr
    rwa [addr_add] at this
end
end Go.Proofs.Ytooghjnddifpdaa
