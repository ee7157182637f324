/- Whole structs of many cells: stored into a variable that was just laid. -/
import Derived.Test.YtooghjnddifpdaaKeep
import Derived.Deep.MidRow
namespace Go.Proofs.Ytooghjnddifpdaa
open Go.RowKit

/-- A block laid anew, its cells stored one by one. -/
def updC : Array Value → Nat → List Value → Array Value
  | c, _, [] => c
  | c, o, v :: r => updC (c.setIfInBounds o v) (o + 1) r
theorem updC_size (vs : List Value) : ∀ (c : Array Value) (o : Nat), (updC c o vs).size = c.size := by
  induction vs with
  | nil => intro c o; rfl
  | cons v r ih => intro c o; rw [updC, ih, Array.size_setIfInBounds]
theorem updC_get (vs : List Value) : ∀ (c : Array Value) (o : Nat), o + vs.length ≤ c.size → ∀ j, (updC c o vs)[j]? = if o ≤ j ∧ j < o + vs.length then vs[j - o]? else c[j]? := by
  induction vs with
  | nil => intro c o _ j; rw [updC, if_neg (by simp only [List.length_nil]; omega)]
  | cons v r ih =>
    intro c o ho j
    simp only [List.length_cons] at ho ⊢
    rw [updC, ih _ _ (by rw [Array.size_setIfInBounds]; omega)]
    by_cases h1 : o + 1 ≤ j ∧ j < o + 1 + r.length
    · rw [if_pos h1, if_pos (by omega), show j - o = (j - (o + 1)) + 1 by omega, List.getElem?_cons_succ]
    · rw [if_neg h1]
      by_cases h2 : j = o
      · subst h2
        rw [if_pos (by omega), Array.getElem?_setIfInBounds_self_of_lt (by omega), show j - j = 0 by omega, List.getElem?_cons_zero]
      · rw [Array.getElem?_setIfInBounds_ne (by omega), if_neg (by omega)]
theorem updC_all (c : Array Value) (vs : List Value) (h : c.size = vs.length) : updC c 0 vs = vs.toArray := by
  apply Array.ext_getElem?
  intro j
  rw [updC_get _ _ _ (by omega)]
  by_cases h1 : j < vs.length
  · rw [if_pos (by omega)]; simp
  · rw [if_neg (by omega), Array.getElem?_eq_none (by omega), Array.getElem?_eq_none (by simp; omega)]
theorem setCells_upd (w : World) (t : TypeId) (vs : List Value) : ∀ (c : Array Value) (o : Nat), (w.alloc (.cells c t)).setCells w.heap.size o vs = w.alloc (.cells (updC c o vs) t) := by
  induction vs with
  | nil => intro c o; rfl
  | cons v r ih => intro c o; rw [World.setCells, World.setCell_alloc_new, ih]; rfl
theorem setCells_new (w : World) (t : TypeId) (c : Array Value) (vs : List Value) (h : c.size = vs.length) : (w.alloc (.cells c t)).setCells w.heap.size 0 vs = w.alloc (.cells vs.toArray t) := by
  rw [setCells_upd, updC_all c vs h]
theorem there_new (w : World) (t : TypeId) (c : Array Value) (n : Nat) (h : c.size = n) : (w.alloc (.cells c t)).there w.heap.size 0 n := fun j hj => by
  have b := kb_new (w := w) rfl (.cells c t)
  exact ⟨by rw [kb_cell b, Array.getElem?_eq_getElem (by omega)]; rfl, kb_frozen b _⟩
/-- A whole struct is stored into a variable that was just laid. -/
theorem wpList_store_new {P : Program} {ops : Array Oper} {rest : List Oper} {op : Oper} {a : Act} {w : World} {Q : Exit → Act → World → Prop} {c : Array Value} {t : TypeId} (hgd : op.guard = none) (ty : TypeId) (x y : Operand) (ho : op.op = .store ty x y)
    (cells : Array Value) (hx : a.eval x = .pointer (some ⟨w.heap.size, 0, none⟩)) (hy : a.eval y = .agg cells)
    (hs : c.size = cells.size) (hi : (P.info? ty).map (·.size) = some cells.size) (h1 : cells.all (·.oneCell') = true)
    (h : wpList P ops Q rest (a.put op.dst undef) (w.alloc (.cells cells t))) : wpList P ops Q (op :: rest) a (w.alloc (.cells c t)) :=
  wpList_store_mid hgd ty x y ho w.heap.size 0 cells hx hy (there_new w t c _ hs) hi h1 (by rw [setCells_new w t c _ (by simpa using hs)]; simpa using h)
theorem setCells_at {g : Nat} {t : TypeId} {fr : Nat × Nat} (vs : List Value) : ∀ (w : World) (c : Array Value) (o : Nat), w.heap[g]? = some (.cells c t fr) → (w.setCells g o vs).heap[g]? = some (.cells (updC c o vs) t fr) := by
  induction vs with
  | nil => intro w c o h; exact h
  | cons v r ih => intro w c o h; exact ih _ _ _ (kb_set h v)
theorem setCells_kb {w : World} {g : Nat} {c : Array Value} {t : TypeId} {fr : Nat × Nat} (vs : List Value) (h : w.heap[g]? = some (.cells c t fr)) (hs : c.size = vs.length) : (w.setCells g 0 vs).heap[g]? = some (.cells vs.toArray t fr) := by
  rw [setCells_at vs w c 0 h, updC_all c vs hs]
theorem there_kb {w : World} {g n : Nat} {c : Array Value} {t : TypeId} (h : w.heap[g]? = some (.cells c t (0, 0))) (hs : c.size = n) : w.there g 0 n := fun j hj =>
  ⟨by rw [kb_cell h, Array.getElem?_eq_getElem (by omega)]; rfl, kb_frozen h _⟩
theorem keep_cells {S : Nat → Prop} {w : World} {g : Nat} (vs : List Value) : ∀ {w1 : World} (o : Nat), Keep S w w1 → (g < w.heap.size → S g) → Keep S w (w1.setCells g o vs) := by
  induction vs with
  | nil => intro w1 o h _; exact h
  | cons v r ih => intro w1 o h hg; exact ih _ (h.set (p := ⟨g, o, none⟩) hg v) hg
theorem bl_cells {a : World} {g : Nat} (vs : List Value) (hg : a.heap.size ≤ g) : ∀ {w : World} (o : Nat), Below a.heap.size a w → Below a.heap.size a (w.setCells g o vs) := by
  induction vs with
  | nil => intro w o h; exact h
  | cons v r ih => intro w o h; exact ih _ (bl_set (p := ⟨g, o, none⟩) hg h v)
theorem range_below {w w' : World} {b o : Nat} {cs : List Value} (h : w.rangeAt b o cs) (hb : b < w.heap.size) (k : Below w.heap.size w w') : w'.rangeAt b o cs := fun j v hv => (k.cell (by exact hb)).trans (h j v hv)
theorem range_of_kb {w : World} {b : Nat} {cs : List Value} {t : TypeId} {fr : Nat × Nat} (h : w.heap[b]? = some (.cells cs.toArray t fr)) : w.rangeAt b 0 cs := fun j v hv => by rw [Nat.zero_add, kb_cell h]; simpa using hv
theorem range_of_block {w w' : World} {b o : Nat} {cs : List Value} (h : w.rangeAt b o cs) (e : w'.heap[b]? = w.heap[b]?) : w'.rangeAt b o cs := fun j v hv => (World.cell?_of_block e).trans (h j v hv)
end Go.Proofs.Ytooghjnddifpdaa
