/- Small lemmas used by all walks of this seat: how 'Below' goes on over steps. -/
import Derived.Test.YtooghjnddifpdaaProg
import Derived.WalkKit
import Derived.WalkSpells
import Derived.WalkLawsBesides
import Derived.BigQuiet
import Derived.Deep.QuietTactic
import Derived.Lib.Hide
import Derived.Deep.RegionHeld3
namespace Go.Proofs.Ytooghjnddifpdaa
open Go.RowKit

theorem some_lt {W : World} {b o : Nat} (h : (W.cell? ⟨b, o, none⟩).isSome = true) : b < W.heap.size := by
  rcases Option.isSome_iff_exists.1 h with ⟨v, hv⟩
  exact World.block_lt_of_cell? W ⟨b, o, none⟩ hv
/-! ### What a block holds, carried over steps -/
section
variable {w w1 : World} {b i : Nat} {o : Obj} {cs : Array Value} {t : TypeId} {fr : Nat × Nat}
theorem kb_lt (h : w.heap[b]? = some o) : b < w.heap.size := (Array.getElem?_eq_some_iff.1 h).1
theorem kb_below (hb : Below w.heap.size w w1) (h : w.heap[b]? = some o) : w1.heap[b]? = some o := (hb.block b (kb_lt h)).trans h
theorem kb_alloc (h : w.heap[b]? = some o) (x : Obj) : (w.alloc x).heap[b]? = some o := (Below.heap_alloc w x b (kb_lt h)).trans h
theorem kb_new (hb : b = w.heap.size) (x : Obj) : (w.alloc x).heap[b]? = some x := by
  subst hb
  show (w.heap.push x)[w.heap.size]? = some x
  simp
theorem kb_drew (h : w.heap[b]? = some o) : w.drew.heap[b]? = some o := h
theorem kb_drewN (h : w.heap[b]? = some o) (n : Nat) : (w.drewN n).heap[b]? = some o := h
theorem kb_far (h : w.heap[b]? = some o) {p : Addr} (hne : b ≠ p.block) (u : Value) : (w.setCell p u).heap[b]? = some o := (Below.heap_setCell w p u b hne).trans h
theorem kb_set (h : w.heap[b]? = some (.cells cs t fr)) (u : Value) : (w.setCell ⟨b, i, none⟩ u).heap[b]? = some (.cells (cs.setIfInBounds i u) t fr) := by
  simp [World.setCell, Array.getElem?_modify, h]
theorem kb_cell (h : w.heap[b]? = some (.cells cs t fr)) : ∀ i, w.cell? ⟨b, i, none⟩ = cs[i]? := fun i => by simp [World.cell?, h]
theorem kb_frozen (h : w.heap[b]? = some (.cells cs t (0, 0))) : ∀ i, w.frozen? ⟨b, i, none⟩ = false := fun i => by simp [World.frozen?, h]
end
theorem cell_alloc_some (w : World) (b i : Nat) (o : Obj) (h : (w.cell? ⟨b, i, none⟩).isSome = true) : (w.alloc o).cell? ⟨b, i, none⟩ = w.cell? ⟨b, i, none⟩ := World.cell?_alloc_lt w o ⟨b, i, none⟩ (some_lt h)
theorem frozen_alloc_some (w : World) (b i : Nat) (o : Obj) (h : (w.cell? ⟨b, i, none⟩).isSome = true) : (w.alloc o).frozen? ⟨b, i, none⟩ = w.frozen? ⟨b, i, none⟩ := World.frozen?_alloc_old w o ⟨b, i, none⟩ (Nat.ne_of_lt (some_lt h))
theorem bl_then {a W w' : World} (h : Below a.heap.size a W) (k : Below W.heap.size W w') : Below a.heap.size a w' := h.trans (k.mono h.size)
theorem bl_alloc {a w : World} (h : Below a.heap.size a w) (o : Obj) : Below a.heap.size a (w.alloc o) := h.alloc h.size o
theorem bl_drew {a w : World} (h : Below a.heap.size a w) : Below a.heap.size a w.drew := h.drew
theorem bl_drewN {a w : World} (h : Below a.heap.size a w) (n : Nat) : Below a.heap.size a (w.drewN n) := below_drewN h n
theorem bl_set {a w : World} {p : Addr} (hp : a.heap.size ≤ p.block) (h : Below a.heap.size a w) (u : Value) : Below a.heap.size a (w.setCell p u) := h.setCell hp u
theorem ret_int {k : IntKind} {a b : Int} (h : a = b) : Ending.returned (.int k a) = .returned (.int k b) := by rw [h]
theorem ret_bool {a b : Bool} (h : a = b) : Ending.returned (.bool a) = .returned (.bool b) := by rw [h]
theorem ret_ii {k l : IntKind} {a b c d : Int} (h : a = c) (h' : b = d) : Ending.returned (.tuple #[.int k a, .int l b]) = .returned (.tuple #[.int k c, .int l d]) := by rw [h, h']
theorem ret_iii {k l m : IntKind} {a b c d e f : Int} (h : a = d) (h' : b = e) (h'' : c = f) : Ending.returned (.tuple #[.int k a, .int l b, .int m c]) = .returned (.tuple #[.int k d, .int l e, .int m f]) := by rw [h, h', h'']
/-! ### A region that draws its order, whose operations read what was there and whose calls only make new memory: one walk in the order of the text -/
theorem wp_region_below {P : Program} {id : Nat} {Q : Exit → Act → World → Prop} {a : Act} {w : World} {l : List Oper} (hm : P.follows .mixedOrders = true) (hB : Region.lexB .any l.toArray = true)
    (h : wpQuiet P l.toArray (fun W => Below w.heap.size w W) (fun a' => ∀ w', Below w.heap.size w w' → Q .normal a' w') l a) : (Code.region id l.toArray true).wp P Q a w :=
  wp_region_quiet (C := fun W => Below w.heap.size w W) hm hB (show Below w.heap.size w w.drew from (Below.refl _ w).drew) (by simpa using h)
theorem q_call {P : Program} {f : FuncId} {args : Array Value} {a W : World} {v : Value} (hW : Below a.heap.size a W) (h : Calls P f args W fun e w' => e = .returned v ∧ Below W.heap.size W w') :
    Calls P f args W fun e w' => e = .returned v ∧ Below a.heap.size a w' := h.mono fun _ _ ⟨he, hb⟩ => ⟨he, bl_then hW hb⟩
theorem q_same {P : Program} {f : FuncId} {args : Array Value} {a W : World} {v : Value} (hW : Below a.heap.size a W) (h : Calls P f args W fun e w' => e = .returned v ∧ W = w') :
    Calls P f args W fun e w' => e = .returned v ∧ Below a.heap.size a w' := h.mono fun _ _ ⟨he, hb⟩ => ⟨he, hb ▸ hW⟩
end Go.Proofs.Ytooghjnddifpdaa
