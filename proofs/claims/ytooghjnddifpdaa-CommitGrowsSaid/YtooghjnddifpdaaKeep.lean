/- What a call leaves as it was, beside a set of blocks. -/
import Derived.Test.YtooghjnddifpdaaBase
import Derived.Maps.Own
namespace Go.Proofs.Ytooghjnddifpdaa
open Go.RowKit

/-- Beside the blocks of S all that was there is as it was. -/
structure Keep (S : Nat → Prop) (w w' : World) : Prop where
  os : w'.os = w.os
  tape : w'.tape = w.tape
  output : w'.output = w.output
  size : w.heap.size ≤ w'.heap.size
  block : ∀ b, b < w.heap.size → ¬ S b → w'.heap[b]? = w.heap[b]?

theorem Keep.refl (S : Nat → Prop) (w : World) : Keep S w w := ⟨rfl, rfl, rfl, Nat.le_refl _, fun _ _ _ => rfl⟩
theorem Keep.of_below {S : Nat → Prop} {w w' : World} (h : Below w.heap.size w w') : Keep S w w' := ⟨h.os, h.tape, h.output, h.size, fun b hb _ => h.block b hb⟩
theorem Keep.mono {S T : Nat → Prop} {w w' : World} (h : Keep S w w') (hs : ∀ b, b < w.heap.size → S b → T b) : Keep T w w' :=
  ⟨h.os, h.tape, h.output, h.size, fun b hb ht => h.block b hb fun x => ht (hs b hb x)⟩
theorem Keep.trans {S T : Nat → Prop} {w w1 w2 : World} (h : Keep S w w1) (k : Keep T w1 w2) (hs : ∀ b, b < w.heap.size → T b → S b) : Keep S w w2 :=
  ⟨k.os.trans h.os, k.tape.trans h.tape, k.output.trans h.output, Nat.le_trans h.size k.size,
    fun b hb hn => (k.block b (Nat.lt_of_lt_of_le hb h.size) fun x => hn (hs b hb x)).trans (h.block b hb hn)⟩
theorem Keep.below {S : Nat → Prop} {w w' : World} {B : Nat} (h : Keep S w w') (hB : B ≤ w.heap.size) (hs : ∀ b, S b → B ≤ b) : Below B w w' :=
  ⟨h.os, h.tape, h.output, h.size, fun b hb => h.block b (by omega) fun x => by have := hs b x; omega⟩
theorem Keep.then_below {S : Nat → Prop} {w w1 w2 : World} (h : Keep S w w1) (k : Below w1.heap.size w1 w2) : Keep S w w2 :=
  h.trans (T := fun _ => False) (Keep.of_below k) fun _ _ x => x.elim
theorem Keep.after {S : Nat → Prop} {w w1 w2 : World} (k : Below w.heap.size w w1) (h : Keep S w1 w2) : Keep S w w2 :=
  (Keep.of_below k).trans h fun _ _ x => x
theorem Keep.alloc {S : Nat → Prop} {w w1 : World} (h : Keep S w w1) (o : Obj) : Keep S w (w1.alloc o) := h.then_below (bl_alloc (Below.refl _ _) o)
theorem Keep.drew {S : Nat → Prop} {w w1 : World} (h : Keep S w w1) : Keep S w w1.drew := h.then_below (bl_drew (Below.refl _ _))
theorem Keep.drewN {S : Nat → Prop} {w w1 : World} (h : Keep S w w1) (n : Nat) : Keep S w (w1.drewN n) := h.then_below (bl_drewN (Below.refl _ _) n)
theorem Keep.set {S : Nat → Prop} {w w1 : World} {p : Addr} (h : Keep S w w1) (hp : p.block < w.heap.size → S p.block) (u : Value) : Keep S w (w1.setCell p u) :=
  ⟨h.os, h.tape, h.output, by have := h.size; simpa using this, fun b hb hn => (Below.heap_setCell _ _ _ _ (fun e : b = p.block => hn (by rw [e]; exact hp (by rw [← e]; exact hb)))).trans (h.block b hb hn)⟩
theorem Keep.grown {S : Nat → Prop} {w w1 w2 : World} {row : Option Nat} (h : Keep S w w1) (g : w1.grownBy w2 row) (hr : ∀ b, b < w.heap.size → row = some b → S b) : Keep S w w2 :=
  h.trans (T := fun b => row = some b) ⟨g.os, g.tape, g.output, g.size, fun b hb hn => g.block b hb fun e => hn e.symm⟩ hr
theorem Keep.kb {S : Nat → Prop} {w w1 : World} {b : Nat} {o : Obj} (h : Keep S w w1) (hb : w.heap[b]? = some o) (hn : ¬ S b) : w1.heap[b]? = some o := (h.block b (kb_lt hb) hn).trans hb
theorem Keep.row {S : Nat → Prop} {w w1 : World} {base e size n : Nat} {v : Value} {xs : List Value} (h : Keep S w w1) (ho : w.ownsRow base e size v n xs) (hn : ∀ b, v.ownBlock = some b → ¬ S b) : w1.ownsRow base e size v n xs :=
  ⟨ho.1, ho.2.imp id fun ⟨g, cap, cur, hv, hB, hh, r⟩ => ⟨g, cap, cur, hv, hB, h.kb hh (hn g (by rw [hv]; rfl)), r⟩⟩
theorem own_set {w : World} {base e size n p i : Nat} {v u : Value} {xs : List Value} (h : w.ownsRow base e size v n xs) (hn : v.ownBlock ≠ some p) : (w.setCell ⟨p, i, none⟩ u).ownsRow base e size v n xs :=
  h.kept (row := some p) ⟨rfl, rfl, rfl, by simp, fun b _ hb => Below.heap_setCell _ _ _ _ (fun e => hb (by rw [e]))⟩ (.inr hn)
theorem owns_drew {w : World} {base e size n : Nat} {v : Value} {xs : List Value} (h : w.ownsRow base e size v n xs) : w.drew.ownsRow base e size v n xs := h
theorem owns_mono {w : World} {base base' e size n : Nat} {v : Value} {xs : List Value} (h : w.ownsRow base e size v n xs) (hb : base' ≤ base) : w.ownsRow base' e size v n xs :=
  ⟨h.1, h.2.imp id fun ⟨g, cap, cur, hv, hB, r⟩ => ⟨g, cap, cur, hv, Nat.le_trans hb hB, r⟩⟩
theorem map_kb {w w1 : World} {P : Program} {k : TypeId} {R : Value → Option (DataW Unit × List MemPlace)} {b n : Nat} {D : DataW Unit} (h : w.ownsMap P k R b n D) (hb : w1.heap[b]? = w.heap[b]?) : w1.ownsMap P k R b n D := by
  obtain ⟨es, clock, h1, r⟩ := h
  exact ⟨es, clock, hb.trans h1, r⟩
theorem own_ne {w : World} {base e size n p : Nat} {v : Value} {xs : List Value} {cs : Array Value} {t : TypeId} {fr : Nat × Nat} (h : w.ownsRow base e size v n xs) (hp : w.heap[p]? = some (.cells cs t fr)) (hne : e ≠ t) : v.ownBlock ≠ some p := by
  rcases h.2 with ⟨rfl, _⟩ | ⟨g, cap, cur, rfl, _, hh, _⟩
  · simp [Value.ownBlock]
  · intro he
    have : g = p := by simpa [Value.ownBlock] using he
    subst this
    rw [hp] at hh
    injection hh with hh
    injection hh with _ ht
    exact hne ht.symm
theorem own_ne_map {w : World} {base e size n p : Nat} {v : Value} {xs : List Value} {P : Program} {k : TypeId} {R : Value → Option (DataW Unit × List MemPlace)} {j : Nat} {D : DataW Unit} (h : w.ownsRow base e size v n xs) (hp : w.ownsMap P k R p j D) : v.ownBlock ≠ some p := by
  obtain ⟨es, clock, hp, _⟩ := hp
  rcases h.2 with ⟨rfl, _⟩ | ⟨g, cap, cur, rfl, _, hh, _⟩
  · simp [Value.ownBlock]
  · intro he
    have : g = p := by simpa [Value.ownBlock] using he
    subst this
    rw [hp] at hh
    cases hh
/-- A goal that a walk does not step into: 'refine hold ?_' stops it, 'refine ⟨?_⟩' lets it go on. -/
structure Hold (p : Prop) : Prop where
  out : p
theorem hold {p : Prop} (h : Hold p) : p := h.out
end Go.Proofs.Ytooghjnddifpdaa
