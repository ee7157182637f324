/- The walk of WireBack. -/
import Derived.Test.YtajlcodlaalomaaWire25
import Derived.Test.YtajlcodlaalomaaKit
namespace Go.Proofs.Ytajlcodlaalomaa
open Go.RowKit Go.Proofs.Ytajlcodlaalomaa.Wi Go.Proofs.Ytajlcodlaalomaa.Pc
attribute [local go_sem] cell_alloc_some frozen_alloc_some
set_option linter.unusedSimpArgs false
set_option linter.unusedVariables false

theorem Th.Good.fine {x : Th} (h : x.Good) : x.Fine := h.toOk.fine (by have := h.b; omega)
theorem Th.bytes_len {x : Th} (hx : x.Good) : x.bytes.length ≤ 309 := by
  have h9 := fun n => numL_len n
  have hb := hx.b
  rcases kinds x with k | k | k | k | k | k | k | k | k
  · rw [Th.bytes_0 k]; have := h9 x.n.toNat; omega
  · rw [Th.bytes_1 (.inl k), List.length_append]; have := h9 x.b.length; omega
  · rw [Th.bytes_1 (.inr k), List.length_append]; have := h9 x.b.length; omega
  · rw [Th.bytes_3 k, hx.h]; omega
  · rw [Th.bytes_4 k, hx.k]; omega
  · rw [Th.bytes_5 k, wrdL_len]; omega
  · rw [Th.bytes_6 k, wrdL_len]; omega
  · rw [Th.bytes_7 k]; simp
  · rw [Th.bytes_no k]; simp
theorem put_fits {lim : Int} {bs : List UInt8} {x : Th} (hx : x.Good) (hl : (bs.length : Int) + x.bytes.length ≤ lim) : ansT lim bs 0 x = 0 ∧ putT lim bs 0 x = ⟨bs ++ x.bytes, 0⟩ := by
  unfold ansT putT
  by_cases hk : 0 ≤ x.kind ∧ x.kind ≤ 7
  · have hm : x.may = true := by
      unfold Th.may
      split
      · rename_i h; exact decide_eq_true (hx.pos h)
      · rfl
    have hb : x.bytes = x.form := by simp only [Th.bytes, if_pos hk]
    rw [hb] at hl ⊢
    rw [if_pos hk, if_pos hk, hm]
    unfold putS
    rw [if_neg (by simp), if_neg (by simp), if_neg (by omega)]
    exact ⟨rfl, rfl⟩
  · have hb : x.bytes = [] := Th.bytes_no hk
    rw [if_neg hk, if_neg hk, hb, List.append_nil]
    exact ⟨rfl, rfl⟩
/-- The bytes of things, one behind the other. -/
def catB (l : List Th) : List UInt8 := (l.map Th.bytes).flatten
theorem catB_next {l : List Th} {k : Nat} {x : Th} (h : l[k]? = some x) : catB (l.take (k + 1)) = catB (l.take k) ++ x.bytes := by
  unfold catB
  rw [List.take_add_one, h]
  simp
theorem catB_drop {l : List Th} {k : Nat} {x : Th} (h : l[k]? = some x) : (catB l).drop (catB (l.take k)).length = x.bytes ++ catB (l.drop (k + 1)) := by
  have hk : k < l.length := (List.getElem?_eq_some_iff.1 h).1
  have e : catB l = catB (l.take k) ++ (x.bytes ++ catB (l.drop (k + 1))) := by
    unfold catB
    have hl : l = l.take k ++ (x :: l.drop (k + 1)) := by
      have h1 := List.take_append_drop k l
      rw [List.drop_eq_getElem_cons hk] at h1
      have : l[k] = x := by rw [List.getElem?_eq_getElem hk] at h; simpa using h
      rw [this] at h1
      exact h1.symm
    conv => lhs; rw [hl]
    simp
  rw [e, List.drop_left]
theorem catB_le {l : List Th} {k : Nat} {x : Th} (h : l[k]? = some x) : (catB (l.take k)).length + x.bytes.length ≤ (catB l).length := by
  have := congrArg List.length (catB_drop h)
  have hk : k < l.length := (List.getElem?_eq_some_iff.1 h).1
  have h2 : (catB (l.take k)).length ≤ (catB l).length := by
    unfold catB
    rw [← List.take_append_drop k l]
    simp only [List.map_append, List.flatten_append, List.length_append, List.take_left' (List.length_take_of_le (Nat.le_of_lt hk))]
    omega
  rw [List.length_drop, List.length_append] at this
  omega
theorem catB_len {l : List Th} (h : ∀ x ∈ l, x.Good) : (catB l).length ≤ l.length * 309 := by
  induction l with
  | nil => simp [catB]
  | cons x r ih =>
    have h1 := ih fun y hy => h y (by simp [hy])
    have h2 := Th.bytes_len (h x (by simp))
    unfold catB at h1 ⊢
    simp only [List.map_cons, List.flatten_cons, List.length_append, List.length_cons]
    omega
end Go.Proofs.Ytajlcodlaalomaa
