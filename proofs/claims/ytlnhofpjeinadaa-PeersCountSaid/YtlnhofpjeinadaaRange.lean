/- A range over a function whose iterator hands on one known sequence, for ever, and stops when it is told to: a law for the statement, in terms of the number of rounds. -/
import Derived.RangeFuncNested
import Derived.RangeFuncBound
import Derived.RangeFuncCalls
import Derived.RangeFuncLeaves
import Derived.Shelf.Abstract
import Derived.Shelf.RegionOpen
import Derived.OwnWalkIn
import Derived.TacticsInMore
import Derived.LoopNIn
import Derived.LoopIn
import Derived.Test.YtlnhofpjeinadaaBase
namespace Go.Proofs.Ytlnhofpjeinadaa
open Go.RowKit Go.Shelf

theorem bl_put {a W : World} {l : Nat} (h : Below a.heap.size a W) (hl : a.heap.size ≤ l) (o : Obj) : Below a.heap.size a (W.putObj l o) :=
  ⟨h.os, h.tape, h.output, by rw [World.putObj_size]; exact h.size, fun k hk => (World.putObj_heap_other (by omega)).trans (h.block k hk)⟩
theorem kb_put {W : World} {l b : Nat} {x : Obj} (h : W.heap[b]? = some x) (hl : b ≠ l) (o : Obj) : (W.putObj l o).heap[b]? = some x := (World.putObj_heap_other hl).trans h

section
variable {F : Fence} {n : Nat} {P : Program}

/-- What an iterator owes that hands on enc 0, enc 1, .. and so on: as long as a round says 'go on', J goes from k to k + 1; it returns only behind a round that says 'no more'. 'Good' is what it may lean on. -/
def SeqGoes (F : Fence) (n : Nat) (P : Program) (g : Nat) (lb : Array Value) (enc : Nat → Array Value) (Good : (Nat → World → Prop) → Prop) : Prop :=
  ∀ (l : Nat) (J Jx : Nat → World → Prop) (W : World), Good J →
    (∀ k W1, J k W1 → YieldAt F (n - 1) P l (enc k) W1 fun e W' => (e = .returned (.bool true) ∧ J (k + 1) W') ∨ (e = .returned (.bool false) ∧ Jx k W')) →
    J 0 W → CallsIn F n P g (#[.func (.yield l) #[] #[]] ++ lb) W fun e W' => (∃ v, e = .returned v) ∧ ∃ k, Jx k W'

/-- How a round's body may be left: l, D: the loop's record and its block of deferred calls, which stay. -/
def seqPost (l D : Nat) (I : Nat → World → Prop) (Ix : Code → Nat → World → Prop) (k : Nat) (W : World) : Exit → Act → World → Prop
  | .normal, _, W' => (W'.heap[l]? = W.heap[l]? ∧ W'.heap[D]? = W.heap[D]?) ∧ I (k + 1) W'
  | .ret, _, W' => (W'.heap[l]? = W.heap[l]? ∧ W'.heap[D]? = W.heap[D]?) ∧ Ix .ret k W'
  | .exit id, _, W' => (W'.heap[l]? = W.heap[l]? ∧ W'.heap[D]? = W.heap[D]?) ∧ Ix (.exit id) k W'
  | _, _, _ => False

theorem wpIn_range_seq {g : Operand} {ps : Array Tmp} {assign body : Code} {Q : Exit → Act → World → Prop} {a : Act} {w : World}
    (hro : F.round = none) (h1 : 1 ≤ n) {gf : Nat} {lb : Array Value} (hg : a.eval g = .func (.func gf) #[] lb) (hFg : F.fn gf) (eg : ∀ args w, (callFunc gf args).run P w = .ok (.enter gf args) w)
    {enc : Nat → Array Value} {Good : (Nat → World → Prop) → Prop} (hseq : SeqGoes F (n - 1) P gf lb enc Good) (hps : ∀ k, (enc k).size = ps.size)
    (I : Nat → World → Prop) (Ix : Code → Nat → World → Prop)
    (hgood : ∀ A : World → Prop, (∀ W, A W → A W.drew) → Good (fun k W => I k W ∧ A W))
    (hI : ∀ k W l o, w.heap.size ≤ l → I k W → I k (W.putObj l o)) (hIx : ∀ c k W l o, w.heap.size ≤ l → Ix c k W → Ix c k (W.putObj l o))
    (h0 : ∀ o o', I 0 ((w.alloc o).alloc o')) (a₁ : Nat → Act)
    (hassign : ∀ (l k : Nat) (W : World) (K : Act → World → Prop), K (a₁ k) W →
      assign.wpIn (F.inRound l) (n - 1 - 1) P (Exit.then K (fun _ _ _ => False)) { tmps := (ps.zip (enc k)).foldl (fun t (p, v) => t.setIfInBounds p v) a.tmps, defers := [] } W)
    (hbody : ∀ (l k : Nat) (W : World), l = w.heap.size + 1 → w.heap.size + 1 < W.heap.size → I k W → body.wpIn (F.inRound l) (n - 1 - 1) P (seqPost l w.heap.size I Ix k W) (a₁ k) W)
    (hstop : ∀ (c : Code) (k : Nat) (W : World), Ix c k W → W.heap[w.heap.size]? = some (.deferred (some [])) → c.wpIn F n P Q { a with defers := { target := .collected w.heap.size, args := #[] } :: a.defers } W) :
    (Code.rangeFunc g ps assign body).wpIn F n P Q a w := by
  refine wpIn_rangeFunc fun fn hfn => ?_
  rw [hro]
  obtain ⟨rc, hrc⟩ : ∃ rc : LoopState → Option Code → Loop, rc = fun st pe => { state := st, pending := pe, fn, tmps := a.tmps, params := ps, assign, body, defers := w.heap.size } := ⟨_, rfl⟩
  have eps : ∀ st pe, (rc st pe).params = ps := fun _ _ => by rw [hrc]
  have est : ∀ st pe, (rc st pe).state = st := fun _ _ => by rw [hrc]
  have epe : ∀ st pe, (rc st pe).pending = pe := fun _ _ => by rw [hrc]
  have eset : ∀ st pe st' pe', ({ rc st pe with state := st', pending := pe' } : Loop) = rc st' pe' := fun _ _ _ _ => by rw [hrc]
  have eset1 : ∀ st pe st', ({ rc st pe with state := st' } : Loop) = rc st' pe := fun _ _ _ => by rw [hrc]
  generalize hW0 : (w.alloc (.deferred (some []))).alloc (.loop (rc .ready none)) = W0
  have hl0 : W0.heap[w.heap.size + 1]? = some (.loop (rc .ready none)) := by rw [← hW0]; exact kb_new (by simp) _
  have hD0 : W0.heap[w.heap.size]? = some (.deferred (some [])) := by rw [← hW0]; exact kb_alloc (kb_new rfl _) _
  have hI0 : I 0 W0 := by rw [← hW0]; exact h0 _ _
  refine ⟨w.heap.size + 1, [{ target := .collected w.heap.size, args := #[] }], W0, { target := .fn (.func gf) lb, args := #[.func (.yield (w.heap.size + 1)) #[] #[]] }, W0, gf, #[.func (.yield (w.heap.size + 1)) #[] #[]] ++ lb, W0, ?_, ?_, ?_, ?_, fun _ => h1, ?_⟩
  · rw [← hW0, hrc]
    exact run_enterLoop_outer _ _ _ _ _
  · simp only [resolve, hg]
    simp [go_sem]
  · intro f hf
    simp [Target.leads] at hf
    exact hf ▸ hFg
  · simp [invoke, go_sem, eg]
  -- what stands between two rounds, beside the caller's own
  have hA := hgood (fun W => W.heap[w.heap.size + 1]? = some (.loop (rc .ready none)) ∧ W.heap[w.heap.size]? = some (.deferred (some []))) (fun W h => h)
  refine (hseq (w.heap.size + 1) _ (fun k W => ∃ c, Ix c k W ∧ W.heap[w.heap.size + 1]? = some (.loop (rc .done (some c))) ∧ W.heap[w.heap.size]? = some (.deferred (some []))) W0 hA ?_ ⟨hI0, hl0, hD0⟩).mono ?_
  · -- one round
    rintro k W ⟨hi, hl, hD⟩
    have hlt : w.heap.size + 1 < W.heap.size := kb_lt hl
    refine ⟨fn, _, assign, body, (by have := run_yield (P := P) (args := enc k) hl (by rw [eps]; exact hps k); rw [hrc] at this; exact this), ?_⟩
    refine roundIn_of_wpIn hfn (hassign _ k W _ ⟨_, run_beginRound hl (est _ _), ?_⟩)
    rw [eset1]
    have hlB : (W.putObj (w.heap.size + 1) (.loop (rc .busy none))).heap[w.heap.size + 1]? = some (.loop (rc .busy none)) := World.putObj_heap_same hlt
    have hDB : (W.putObj (w.heap.size + 1) (.loop (rc .busy none))).heap[w.heap.size]? = some (.deferred (some [])) := (World.putObj_heap_other (by omega)).trans hD
    refine wpIn_mono (hbody _ k _ rfl (by rw [World.putObj_size]; exact hlt) (hI k W _ _ (by omega) hi)) ?_
    have fin : ∀ (jump : Option Code) (W3 : World), W3.heap[w.heap.size + 1]? = some (.loop (rc .busy none)) → W3.heap[w.heap.size]? = some (.deferred (some [])) →
        (Instr.endRound (w.heap.size + 1) jump).run P W3 = .ok (.bool jump.isNone) (W3.putObj (w.heap.size + 1) (.loop (rc (if jump.isNone then .ready else .done) jump))) ∧
        (W3.putObj (w.heap.size + 1) (.loop (rc (if jump.isNone then .ready else .done) jump))).heap[w.heap.size + 1]? = some (.loop (rc (if jump.isNone then .ready else .done) jump)) ∧
        (W3.putObj (w.heap.size + 1) (.loop (rc (if jump.isNone then .ready else .done) jump))).heap[w.heap.size]? = some (.deferred (some [])) := fun jump W3 hl3 hD3 =>
      ⟨(run_endRound jump hl3).trans (by rw [eset]), World.putObj_heap_same (kb_lt hl3), (World.putObj_heap_other (by omega)).trans hD3⟩
    rintro e a3 W3 hp
    cases e with
    | normal =>
      obtain ⟨⟨k1, k2⟩, hi3⟩ := hp
      obtain ⟨f1, f2, f3⟩ := fin none W3 (k1.trans hlB) (k2.trans hDB)
      exact ⟨_, _, f1, .inl ⟨rfl, hI _ _ _ _ (by omega) hi3, f2, f3⟩⟩
    | ret =>
      obtain ⟨⟨k1, k2⟩, hi3⟩ := hp
      obtain ⟨f1, f2, f3⟩ := fin (some .ret) W3 (k1.trans hlB) (k2.trans hDB)
      exact ⟨_, _, f1, .inr ⟨rfl, .ret, hIx _ _ _ _ _ (by omega) hi3, f2, f3⟩⟩
    | exit id =>
      obtain ⟨⟨k1, k2⟩, hi3⟩ := hp
      obtain ⟨f1, f2, f3⟩ := fin (some (.exit id)) W3 (k1.trans hlB) (k2.trans hDB)
      exact ⟨_, _, f1, .inr ⟨rfl, .exit id, hIx _ _ _ _ _ (by omega) hi3, f2, f3⟩⟩
    | goto t => exact hp.elim
    | panic ch => exact hp.elim
    | outgrown => exact hp.elim
  · -- behind the iterator
    rintro e W2 ⟨⟨v, rfl⟩, k, c, hi, hl, hD⟩
    refine ⟨some c, _, (by have := run_endLoop (P := P) hl (by rw [est]; simp); rw [epe] at this; exact this), hstop c k _ (hIx _ _ _ _ _ (by omega) hi) ((World.putObj_heap_other (by omega)).trans hD)⟩
end
end Go.Proofs.Ytlnhofpjeinadaa
