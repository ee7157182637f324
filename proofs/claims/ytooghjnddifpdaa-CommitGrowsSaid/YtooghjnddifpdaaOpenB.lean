/- What came in, read at any place: bytes, arrays of bytes. -/
import Derived.Test.YtooghjnddifpdaaBytes2
import Derived.Deep.Slices
import Derived.Deep.Fields
import Derived.OpenShut
namespace Go.Proofs.Ytooghjnddifpdaa
open Go.RowKit Go.ChangeShapes Go.WideShapes Go.Deep

section
variable {H : Type} {enc : TypeId × Value → H} {P : Program} {w : World} {base : Nat} {spare : Nat → Bool} {held : Bool} {fuel : Nat} {cs : List Value} {x : DataW H × List MemPlace}

theorem trod_u8 {t : TypeId} (ht : P.underlying t = some (.int .u8)) (h : DataW.trod enc P w base spare held fuel t cs = some x) : ∃ c : UInt8, cs = [u8v c] := by
  obtain ⟨n, rfl, _, hw⟩ := DataW.trod_int ht h
  simp only [Lit.wf, Bool.and_eq_true, decide_eq_true_eq] at hw
  have h0 : (0 : Int) ≤ n := hw.1
  have h1 : n ≤ 255 := hw.2
  obtain ⟨c, hc⟩ := int_u8 h0 h1
  exact ⟨c, by rw [hc]⟩
theorem all_u8s : ∀ {cs : List Value}, (∀ (i : Nat) (v : Value), cs[i]? = some v → ∃ c, v = u8v c) → ∃ l, cs = u8s l := by
  intro cs
  induction cs with
  | nil => intro _; exact ⟨[], rfl⟩
  | cons v r ih =>
    intro h
    obtain ⟨c, rfl⟩ := h 0 v rfl
    obtain ⟨l, rfl⟩ := ih fun i v hv => h (i + 1) v (by simpa using hv)
    exact ⟨c :: l, rfl⟩
theorem trod_u8s {t e : TypeId} {n : Nat} (ht : P.underlying t = some (.array n e)) (he : P.underlying e = some (.int .u8)) (hC : P.cellsOf e = 1) (hT : P.cellsOf t = n) (h : DataW.trod enc P w base spare held fuel t cs = some x) :
    ∃ l : List UInt8, l.length = n ∧ cs = u8s l := by
  obtain ⟨xs, m, _, _, hl, hxl, hi⟩ := DataW.trod_array ht h
  have hcl : cs.length = n := hl.trans hT
  obtain ⟨l, rfl⟩ : ∃ l, cs = u8s l := all_u8s fun i v hv => by
    have hil : i < cs.length := (List.getElem?_eq_some_iff.1 hv).1
    have h1 := hi i (by omega)
    rw [hC, Nat.mul_one, List.getElem?_eq_getElem (by omega)] at h1
    obtain ⟨c, hc⟩ := trod_u8 he h1
    refine ⟨c, ?_⟩
    rw [List.drop_eq_getElem_cons hil] at hc
    have hv' : cs[i] = v := by rw [List.getElem?_eq_getElem hil] at hv; simpa using hv
    simpa [hv'] using hc
  exact ⟨l, by rw [u8s_len] at hcl; exact hcl, rfl⟩
theorem trod_bytes {t e : TypeId} (ht : P.underlying t = some (.slice e)) (he : P.underlying e = some (.int .u8)) (hC : P.cellsOf e = 1) (h : DataW.trod enc P w base spare held fuel t cs = some x) :
    ∃ v l, cs = [v] ∧ BytesOf w v l ∧ l.length ≤ maxLen := by
  rcases open_slice ht h with ⟨h0, _⟩ | ⟨a, len, cap, m, n, D, Pl, hcs, hb, hl, hm, hmm, hx, hi⟩
  · exact ⟨_, [], h0, RowOf.nil w 0, Nat.zero_le _⟩
  · have hlm : len ≤ m := by rw [hmm]; split <;> omega
    have hc : ∀ i, i < len → ∃ c, w.cell? (a.add i) = some (u8v c) := fun i hil => by
      obtain ⟨cs', hcc, ht'⟩ := hi i (by omega)
      rw [hC, Nat.mul_one] at hcc
      obtain ⟨c, rfl⟩ := trod_u8 he ht'
      obtain ⟨_, _, hat⟩ := World.cells?_some hcc
      have := hat 0 (by omega)
      refine ⟨c, ?_⟩
      have e0 : (a.add i).add 0 = a.add i := by
        unfold Addr.add; split <;> simp_all
      rw [e0] at this
      simpa using this
    obtain ⟨g, hg⟩ : ∃ g : Nat → UInt8, ∀ i, i < len → w.cell? (a.add i) = some (u8v (g i)) := ⟨fun i => if h : i < len then (hc i h).choose else 0, fun i hi => by simp only [dif_pos hi]; exact (hc i hi).choose_spec⟩
    have hll : ((List.range len).map g).length = len := by simp
    refine ⟨_, (List.range len).map g, hcs, ⟨some a, cap, by rw [hll], u8s_len _, fun h0 => ?_⟩, by rw [hll]; omega⟩
    rw [hll] at h0
    obtain ⟨b, off, spot⟩ := a
    have hz := hg 0 h0
    have hspot : spot = none := by
      have := World.cell?_spot hz
      cases spot with
      | none => rfl
      | some s => simp [Addr.add] at this
    subst hspot
    rw [addr_add] at hz
    refine ⟨b, off, rfl, World.block_lt_of_cell? w _ hz, fun j u hu => ?_⟩
    have hj : j < len := by have := (List.getElem?_eq_some_iff.1 hu).1; rwa [u8s_len, hll] at this
    have := hg j hj
    rw [addr_add] at this
    rw [this]
    simp [u8s, hj] at hu
    rw [← hu]
theorem part_of {cs l : List Value} {k m : Nat} (h : (cs.drop k).take m = l) : cs.drop k = l ++ cs.drop (k + m) := by
  rw [← h, ← List.drop_drop, List.take_append_drop]
theorem trod_of_get {xs : List (DataW H × List MemPlace)} {t : TypeId} {i : Nat} (h : DataW.trod enc P w base spare held fuel t cs = xs[i]?) (hi : i < xs.length) : DataW.trod enc P w base spare held fuel t cs = some xs[i] := by
  rw [h, List.getElem?_eq_getElem hi]
end
end Go.Proofs.Ytooghjnddifpdaa
