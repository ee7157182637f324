/- Merits as plain data; rows of merits. -/
import Derived.Test.YtlnhofpjeinadaaSco3
import Derived.Test.YtlnhofpjeinadaaRow
namespace Go.Proofs.Ytlnhofpjeinadaa
open Go.RowKit Go.Proofs.Ytlnhofpjeinadaa.Pc BigFrame

/-- A merit as plain data. -/
structure Mr where
  s : Int
  p : Nat
def Mr.val (m : Mr) : Value := .agg #[.int .i64 m.s, .float .f64 m.p]
def Mr.cells (m : Mr) : List Value := [.int .i64 m.s, .float .f64 m.p]
def mcs (ms : List Mr) : List Value := ms.flatMap Mr.cells
theorem mcs_len (ms : List Mr) : (mcs ms).length = ms.length * 2 := by
  induction ms with
  | nil => rfl
  | cons r L ih => show (r.cells ++ mcs L).length = _; rw [List.length_append, ih]; simp [Mr.cells]; omega
theorem mcs_at (ms : List Mr) (i : Nat) (m : Mr) (h : ms[i]? = some m) : (mcs ms)[i * 2]? = some (.int .i64 m.s) ∧ (mcs ms)[i * 2 + 1]? = some (.float .f64 m.p) := by
  induction ms generalizing i with
  | nil => simp at h
  | cons x L ih =>
    have hx : x.cells.length = 2 := rfl
    cases i with
    | zero => simp at h; subst h; exact ⟨rfl, rfl⟩
    | succ i =>
      simp at h
      obtain ⟨h1, h2⟩ := ih i h
      show (x.cells ++ mcs L)[_]? = _ ∧ (x.cells ++ mcs L)[_]? = _
      rw [List.getElem?_append_right (by omega), List.getElem?_append_right (by omega), hx, show (i + 1) * 2 - 2 = i * 2 by omega, show (i + 1) * 2 + 1 - 2 = i * 2 + 1 by omega]
      exact ⟨h1, h2⟩
/-- The paces' bits are 64. -/
def Fit (ms : List Mr) : Prop := ∀ m ∈ ms, m.p < 18446744073709551616
/-- A slice that reads as a list of merits. -/
def MRow (w : World) (v : Value) (ms : List Mr) : Prop :=
  ∃ A cap, v = .slice A ms.length cap ∧ (0 < ms.length → ∃ b off, A = some ⟨b, off, none⟩ ∧ b < w.heap.size ∧ ∀ i m, ms[i]? = some m → w.cell? ⟨b, off + i * 2, none⟩ = some (.int .i64 m.s) ∧ w.cell? ⟨b, off + i * 2 + 1, none⟩ = some (.float .f64 m.p))
theorem MRow.keep {w w' : World} {v : Value} {ms : List Mr} {S : Nat → Prop} (h : MRow w v ms) (hk : Keep S w w') (hn : ∀ b, v.ownBlock = some b → ¬ S b) : MRow w' v ms := by
  obtain ⟨A, cap, e, h⟩ := h
  refine ⟨A, cap, e, fun h0 => ?_⟩
  obtain ⟨b, off, e', hlt, hc⟩ := h h0
  have hb : w'.heap[b]? = w.heap[b]? := hk.block b hlt (hn b (by rw [e, e']; rfl))
  exact ⟨b, off, e', Nat.lt_of_lt_of_le hlt hk.size, fun i m hm => ⟨(World.cell?_of_block hb).trans (hc i m hm).1, (World.cell?_of_block hb).trans (hc i m hm).2⟩⟩
theorem MRow.below {w w' : World} {v : Value} {ms : List Mr} (h : MRow w v ms) (hb : Below w.heap.size w w') : MRow w' v ms := h.keep (S := fun _ => False) (Keep.of_below hb) (fun _ _ h => h)
theorem MRow.of_own {w : World} {B n : Nat} {v : Value} {ms : List Mr} (h : w.ownsRow B 33 2 v n (mcs ms)) : MRow w v ms := by
  have hl : n = ms.length := by have := h.1; rw [mcs_len] at this; omega
  rcases h.2 with ⟨rfl, h0⟩ | ⟨g, cap, cur, rfl, _, hh, _, _, _, ht⟩
  · have : ms.length = 0 := by omega
    exact ⟨none, 0, by rw [this], fun h => by omega⟩
  · refine ⟨_, cap, by rw [hl], fun _ => ⟨g, 0, rfl, kb_lt hh, fun i m hm => ?_⟩⟩
    obtain ⟨h1, h2⟩ := mcs_at ms i m hm
    have at_ : ∀ j u, (mcs ms)[j]? = some u → w.cell? ⟨g, j, none⟩ = some u := by
      intro j u hu
      rw [kb_cell hh, ← Array.getElem?_toList]
      rw [← ht, List.getElem?_take] at hu
      split at hu
      · exact hu
      · cases hu
    rw [Nat.zero_add]
    exact ⟨at_ _ _ h1, at_ _ _ h2⟩
/-- The merit at a place. -/
def mrAt (ms : List Mr) (i : Nat) : Mr := ms.getD i ⟨0, 0⟩
theorem mrAt_some {ms : List Mr} {i : Nat} (h : i < ms.length) : ms[i]? = some (mrAt ms i) := by
  unfold mrAt
  rw [List.getD, List.getElem?_eq_getElem h]; rfl
theorem Fit.at {ms : List Mr} (h : Fit ms) (i : Nat) : (mrAt ms i).p < 18446744073709551616 := by
  unfold mrAt
  by_cases hi : i < ms.length
  · rw [List.getD, List.getElem?_eq_getElem hi]; exact h _ (List.getElem_mem hi)
  · rw [List.getD, List.getElem?_eq_none (by omega)]; decide
end Go.Proofs.Ytlnhofpjeinadaa
