/- A range over a function whose iterator hands on N things, one behind the other, and whose body leaves no round: a law for the statement. -/
import Derived.Test.YtlnhofpjeinadaaRange
namespace Go.Proofs.Ytlnhofpjeinadaa
open Go.RowKit Go.Shelf

theorem kb_loop {W : World} {l b : Nat} {cs : Array Value} {t : TypeId} {fr : Nat × Nat} {r : Loop} (h : W.heap[b]? = some (.cells cs t fr)) (hl : W.heap[l]? = some (.loop r)) (o : Obj) : (W.putObj l o).heap[b]? = some (.cells cs t fr) :=
  kb_put h (fun e => by subst e; rw [h] at hl; cases hl) o
theorem kb_defd {W : World} {l b : Nat} {cs : Array Value} {t : TypeId} {fr : Nat × Nat} {x : Option (List Deferred)} (h : W.heap[b]? = some (.cells cs t fr)) (hl : W.heap[l]? = some (.deferred x)) (o : Obj) : (W.putObj l o).heap[b]? = some (.cells cs t fr) :=
  kb_put h (fun e => by subst e; rw [h] at hl; cases hl) o
theorem own_ne_loop {W : World} {l base e size n : Nat} {v : Value} {xs : List Value} {r : Loop} (h : W.ownsRow base e size v n xs) (hl : W.heap[l]? = some (.loop r)) : v.ownBlock ≠ some l := by
  rcases h.2 with ⟨rfl, _⟩ | ⟨g, cap, cur, rfl, _, hh, _⟩
  · simp [Value.ownBlock]
  · intro he
    have : g = l := by simpa [Value.ownBlock] using he
    subst this
    rw [hl] at hh
    cases hh
theorem own_ne_defd {W : World} {l base e size n : Nat} {v : Value} {xs : List Value} {x : Option (List Deferred)} (h : W.ownsRow base e size v n xs) (hl : W.heap[l]? = some (.deferred x)) : v.ownBlock ≠ some l := by
  rcases h.2 with ⟨rfl, _⟩ | ⟨g, cap, cur, rfl, _, hh, _⟩
  · simp [Value.ownBlock]
  · intro he
    have : g = l := by simpa [Value.ownBlock] using he
    subst this
    rw [hl] at hh
    cases hh
theorem own_loop {W : World} {l base e size n : Nat} {v : Value} {xs : List Value} {r : Loop} (h : W.ownsRow base e size v n xs) (hl : W.heap[l]? = some (.loop r)) (o : Obj) : (W.putObj l o).ownsRow base e size v n xs :=
  ⟨h.1, h.2.imp id fun ⟨g, cap, cur, hv, hB, hh, q⟩ => ⟨g, cap, cur, hv, hB, kb_loop hh hl o, q⟩⟩
theorem own_defd {W : World} {l base e size n : Nat} {v : Value} {xs : List Value} {x : Option (List Deferred)} (h : W.ownsRow base e size v n xs) (hl : W.heap[l]? = some (.deferred x)) (o : Obj) : (W.putObj l o).ownsRow base e size v n xs :=
  ⟨h.1, h.2.imp id fun ⟨g, cap, cur, hv, hB, hh, q⟩ => ⟨g, cap, cur, hv, hB, kb_defd hh hl o, q⟩⟩

section
variable {F : Fence} {n : Nat} {P : Program}

/-- What an iterator owes that hands on enc 0 .. enc (N - 1): as long as each round says 'go on', J goes from 0 to N. 'Good' is what it may lean on. -/
def SeqEnds (F : Fence) (n : Nat) (P : Program) (g : Nat) (lb : Array Value) (N : Nat) (enc : Nat → Array Value) (Good : (Nat → World → Prop) → Prop) : Prop :=
  ∀ (l : Nat) (J : Nat → World → Prop) (W : World), Good J →
    (∀ k W1, k < N → J k W1 → YieldAt F (n - 1) P l (enc k) W1 fun e W' => e = .returned (.bool true) ∧ J (k + 1) W') →
    J 0 W → CallsIn F n P g (#[.func (.yield l) #[] #[]] ++ lb) W fun e W' => (∃ v, e = .returned v) ∧ J N W'

/-- How a round's body is left: l, D: the loop's record and its block of deferred calls, which stay. -/
def endPost (l D : Nat) (I : Nat → World → Prop) (k : Nat) (W : World) : Exit → Act → World → Prop
  | .normal, _, W' => (W'.heap[l]? = W.heap[l]? ∧ W'.heap[D]? = W.heap[D]?) ∧ I (k + 1) W'
  | _, _, _ => False

theorem wpIn_range_ends {g : Operand} {ps : Array Tmp} {assign body : Code} {Q : Exit → Act → World → Prop} {a : Act} {w : World}
    (hro : F.round = none) (h1 : 1 ≤ n) {gf : Nat} {lb : Array Value} (hg : a.eval g = .func (.func gf) #[] lb) (hFg : F.fn gf) (eg : ∀ args w, (callFunc gf args).run P w = .ok (.enter gf args) w)
    {N : Nat} {enc : Nat → Array Value} {Good : (Nat → World → Prop) → Prop} (hseq : SeqEnds F (n - 1) P gf lb N enc Good) (hps : ∀ k, (enc k).size = ps.size)
    (I : Nat → World → Prop) (Ax : Nat → Act → World → Prop)
    (hgood : ∀ A : World → Prop, (∀ W W', A W → Below W.heap.size W W' → A W') → Good (fun k W => I k W ∧ A W))
    (hI : ∀ k W l r o, w.heap.size ≤ l → W.heap[l]? = some (.loop r) → I k W → I k (W.putObj l o)) (hAx : ∀ k a' W l r o, w.heap.size ≤ l → W.heap[l]? = some (.loop r) → Ax k a' W → Ax k a' (W.putObj l o))
    (h0 : ∀ o o', I 0 ((w.alloc o).alloc o'))
    (hassign : ∀ (l k : Nat) (W : World) (K : Act → World → Prop), k < N → I k W → (∀ a' W', Below W.heap.size W W' → Ax k a' W' → K a' W') →
      assign.wpIn (F.inRound l) (n - 1 - 1) P (Exit.then K (fun _ _ _ => False)) { tmps := (ps.zip (enc k)).foldl (fun t (p, v) => t.setIfInBounds p v) a.tmps, defers := [] } W)
    (hbody : ∀ (l k : Nat) (a' : Act) (W : World) (r : Loop), l = w.heap.size + 1 → w.heap.size + 1 < W.heap.size → W.heap[l]? = some (.loop r) → W.heap[w.heap.size]? = some (.deferred (some [])) → k < N → Ax k a' W → body.wpIn (F.inRound l) (n - 1 - 1) P (endPost l w.heap.size I k W) a' W)
    (hdone : ∀ (W : World), I N W → W.heap[w.heap.size]? = some (.deferred (some [])) → Q .normal { a with defers := { target := .collected w.heap.size, args := #[] } :: a.defers } W) :
    (Code.rangeFunc g ps assign body).wpIn F n P Q a w := by
  refine wpIn_rangeFunc fun fn hfn => ?_
  rw [hro]
  obtain ⟨rc, hrc⟩ : ∃ rc : LoopState → Option Code → Loop, rc = fun st pe => { state := st, pending := pe, fn, tmps := a.tmps, params := ps, assign, body, defers := w.heap.size } := ⟨_, rfl⟩
  have eps : ∀ st pe, (rc st pe).params = ps := fun _ _ => by rw [hrc]
  have est : ∀ st pe, (rc st pe).state = st := fun _ _ => by rw [hrc]
  have epe : ∀ st pe, (rc st pe).pending = pe := fun _ _ => by rw [hrc]
  have eset : ∀ st pe st' pe', ({ rc st pe with state := st', pending := pe' } : Loop) = rc st' pe' := fun _ _ _ _ => by rw [hrc]
  have eset1 : ∀ st pe st', ({ rc st pe with state := st' } : Loop) = rc st' pe := fun _ _ _ => by rw [hrc]
  generalize hW0 : (w.alloc (.deferred (some []))).alloc (.loop (rc .ready none)) = W0
  have hl0 : W0.heap[w.heap.size + 1]? = some (.loop (rc .ready none)) := by rw [← hW0]; exact kb_new (by simp) _
  have hD0 : W0.heap[w.heap.size]? = some (.deferred (some [])) := by rw [← hW0]; exact kb_alloc (kb_new rfl _) _
  have hI0 : I 0 W0 := by rw [← hW0]; exact h0 _ _
  refine ⟨w.heap.size + 1, [{ target := .collected w.heap.size, args := #[] }], W0, { target := .fn (.func gf) lb, args := #[.func (.yield (w.heap.size + 1)) #[] #[]] }, W0, gf, #[.func (.yield (w.heap.size + 1)) #[] #[]] ++ lb, W0, ?_, ?_, ?_, ?_, fun _ => h1, ?_⟩
  · rw [← hW0, hrc]
    exact run_enterLoop_outer _ _ _ _ _
  · simp only [resolve, hg]
    simp [go_sem]
  · intro f hf
    simp [Target.leads] at hf
    exact hf ▸ hFg
  · simp [invoke, go_sem, eg]
  have hA := hgood (fun W => W.heap[w.heap.size + 1]? = some (.loop (rc .ready none)) ∧ W.heap[w.heap.size]? = some (.deferred (some []))) (fun W W' h hb => ⟨kb_below hb h.1, kb_below hb h.2⟩)
  refine (hseq (w.heap.size + 1) _ W0 hA ?_ ⟨hI0, hl0, hD0⟩).mono ?_
  · rintro k W hk ⟨hi, hl, hD⟩
    refine ⟨fn, _, assign, body, (by have := run_yield (P := P) (args := enc k) hl (by rw [eps]; exact hps k); rw [hrc] at this; exact this), ?_⟩
    refine roundIn_of_wpIn hfn (hassign _ k W _ hk hi fun a' W' hb hax => ?_)
    have hl' := kb_below hb hl
    have hD' := kb_below hb hD
    have hlt : w.heap.size + 1 < W'.heap.size := kb_lt hl'
    refine ⟨_, run_beginRound hl' (est _ _), ?_⟩
    rw [eset1]
    have hlB : (W'.putObj (w.heap.size + 1) (.loop (rc .busy none))).heap[w.heap.size + 1]? = some (.loop (rc .busy none)) := World.putObj_heap_same hlt
    have hDB : (W'.putObj (w.heap.size + 1) (.loop (rc .busy none))).heap[w.heap.size]? = some (.deferred (some [])) := (World.putObj_heap_other (by omega)).trans hD'
    refine wpIn_mono (hbody _ k _ _ _ rfl (by rw [World.putObj_size]; exact hlt) hlB hDB hk (hAx k a' W' _ _ _ (by omega) hl' hax)) ?_
    rintro e a3 W3 hp
    cases e with
    | normal =>
      obtain ⟨⟨k1, k2⟩, hi3⟩ := hp
      have hl3 := k1.trans hlB
      have hD3 := k2.trans hDB
      exact ⟨_, _, (run_endRound none hl3).trans (by rw [eset]; rfl), rfl, hI _ _ _ _ _ (by omega) hl3 hi3, World.putObj_heap_same (kb_lt hl3), (World.putObj_heap_other (by omega)).trans hD3⟩
    | ret => exact hp.elim
    | exit id => exact hp.elim
    | goto t => exact hp.elim
    | panic ch => exact hp.elim
    | outgrown => exact hp.elim
  · rintro e W2 ⟨⟨v, rfl⟩, hi, hl, hD⟩
    exact ⟨none, _, (by have := run_endLoop (P := P) hl (by rw [est]; simp); rw [epe] at this; exact this), hdone _ (hI _ _ _ _ _ (by omega) hl hi) ((World.putObj_heap_other (by omega)).trans hD)⟩
end
end Go.Proofs.Ytlnhofpjeinadaa
