/- Rows of votes, a commit's cells; what is wrong with a vote behind a place. -/
import Derived.Test.YtooghjnddifpdaaCmP
import Derived.Test.YtooghjnddifpdaaBytesEq
namespace Go.Proofs.Ytooghjnddifpdaa
open Go.RowKit Go.Proofs.Ytooghjnddifpdaa.Cm
set_option linter.unusedSimpArgs false
set_option linter.unusedVariables false

/-- The cells of votes, of a commit. -/
def vcs (l : List Vt) : List Value := l.flatMap fun v => [.int .i64 v.p, .int .u64 v.g]
def ccs (c : C) (v : Value) : List Value := .int .i64 c.h :: (u8s c.x ++ [v])
theorem vcs_len (l : List Vt) : (vcs l).length = l.length * 2 := by
  induction l with
  | nil => rfl
  | cons r L ih => show ([_, _] ++ vcs L).length = _; rw [List.length_append, ih]; simp; omega
theorem vcs_append (a b : List Vt) : vcs (a ++ b) = vcs a ++ vcs b := by simp [vcs]
theorem vcs_at (l : List Vt) (i : Nat) (m : Vt) (h : l[i]? = some m) : (vcs l)[i * 2]? = some (.int .i64 m.p) ∧ (vcs l)[i * 2 + 1]? = some (.int .u64 m.g) := by
  induction l generalizing i with
  | nil => simp at h
  | cons x L ih =>
    cases i with
    | zero => simp at h; subst h; exact ⟨rfl, rfl⟩
    | succ i =>
      simp at h
      obtain ⟨h1, h2⟩ := ih i h
      show ([_, _] ++ vcs L)[_]? = _ ∧ ([_, _] ++ vcs L)[_]? = _
      rw [List.getElem?_append_right (by simp; omega), List.getElem?_append_right (by simp; omega)]
      simp only [List.length_cons, List.length_nil]
      rw [show (i + 1) * 2 - (0 + 1 + 1) = i * 2 by omega, show (i + 1) * 2 + 1 - (0 + 1 + 1) = i * 2 + 1 by omega]
      exact ⟨h1, h2⟩
theorem vcs_one (l : List Vt) : ∀ u ∈ vcs l, u.oneCell' = true := by
  intro u hu
  obtain ⟨v, _, hv⟩ := List.mem_flatMap.1 hu
  simp at hv
  rcases hv with rfl | rfl <;> rfl
/-- A slice that reads as a list of votes. -/
def VRow (w : World) (v : Value) (l : List Vt) : Prop :=
  ∃ A cap, v = .slice A l.length cap ∧ (0 < l.length → ∃ b off, A = some ⟨b, off, none⟩ ∧ b < w.heap.size ∧ ∀ i m, l[i]? = some m → w.cell? ⟨b, off + i * 2, none⟩ = some (.int .i64 m.p) ∧ w.cell? ⟨b, off + i * 2 + 1, none⟩ = some (.int .u64 m.g))
theorem VRow.keep {w w' : World} {v : Value} {l : List Vt} {S : Nat → Prop} (h : VRow w v l) (hk : Keep S w w') (hn : ∀ b, v.ownBlock = some b → ¬ S b) : VRow w' v l := by
  obtain ⟨A, cap, e, h⟩ := h
  refine ⟨A, cap, e, fun h0 => ?_⟩
  obtain ⟨b, off, e', hlt, hc⟩ := h h0
  have hb : w'.heap[b]? = w.heap[b]? := hk.block b hlt (hn b (by rw [e, e']; rfl))
  exact ⟨b, off, e', Nat.lt_of_lt_of_le hlt hk.size, fun i m hm => ⟨(World.cell?_of_block hb).trans (hc i m hm).1, (World.cell?_of_block hb).trans (hc i m hm).2⟩⟩
theorem VRow.below {w w' : World} {v : Value} {l : List Vt} (h : VRow w v l) (hb : Below w.heap.size w w') : VRow w' v l := h.keep (S := fun _ => False) (Keep.of_below hb) (fun _ _ h => h)
theorem VRow.form {w : World} {v : Value} {l : List Vt} (h : VRow w v l) : ∃ A cap, v = .slice A l.length cap := by obtain ⟨A, cap, e, _⟩ := h; exact ⟨A, cap, e⟩
theorem VRow.of_own {w : World} {B n : Nat} {v : Value} {l : List Vt} (h : w.ownsRow B 29 2 v n (vcs l)) : VRow w v l := by
  have hl : n = l.length := by have := h.1; rw [vcs_len] at this; omega
  rcases h.2 with ⟨rfl, h0⟩ | ⟨g, cap, cur, rfl, _, hh, _, _, _, ht⟩
  · have : l.length = 0 := by omega
    exact ⟨none, 0, by rw [this], fun h => by omega⟩
  · refine ⟨_, cap, by rw [hl], fun _ => ⟨g, 0, rfl, kb_lt hh, fun i m hm => ?_⟩⟩
    obtain ⟨h1, h2⟩ := vcs_at l i m hm
    have at_ : ∀ j u, (vcs l)[j]? = some u → w.cell? ⟨g, j, none⟩ = some u := by
      intro j u hu
      rw [kb_cell hh, ← Array.getElem?_toList]
      rw [← ht, List.getElem?_take] at hu
      split at hu
      · exact hu
      · cases hu
    rw [Nat.zero_add]
    exact ⟨at_ _ _ h1, at_ _ _ h2⟩
/-- The vote at a place. -/
def vAt (l : List Vt) (i : Nat) : Vt := l.getD i ⟨0, 0⟩
theorem vAt_some {l : List Vt} {i : Nat} (h : i < l.length) : l[i]? = some (vAt l i) := by
  unfold vAt
  rw [List.getD, List.getElem?_eq_getElem h]; rfl

section
variable {c : C} (hx : c.x.length = 32) (v : Value)
include hx
theorem ccs_len : (ccs c v).length = 34 := by simp [ccs, u8s_len, hx]
theorem ccs_33 : (ccs c v)[33]? = some v := by
  show (u8s c.x ++ _)[32]? = _
  rw [List.getElem?_append_right (by rw [u8s_len, hx]; omega), u8s_len, hx]
  rfl
theorem ccs_h (j : Nat) (u : Value) (h : (u8s c.x)[j]? = some u) : (ccs c v)[1 + j]? = some u := by
  have hj : j < 32 := by have := (List.getElem?_eq_some_iff.1 h).1; rw [u8s_len, hx] at this; exact this
  rw [show 1 + j = j + 1 by omega]
  show (u8s c.x ++ _)[j]? = _
  rw [List.getElem?_append_left (by rw [u8s_len, hx]; exact hj)]
  exact h
end
theorem ccs_0 (c : C) (v : Value) : (ccs c v)[0]? = some (.int .i64 c.h) := rfl

/-- What the closure of rises answers, and the place behind it. -/
def riseS (last : Int) (v : Vt) : Int × Int := if v.p < 0 ∨ 64 ≤ v.p then (3, last) else if v.p ≤ last then (9, last) else (0, v.p)
theorem chkV_cons (last : Int) (v : Vt) (L : List Vt) : ((chkV last (v :: L) : Nat) : Int) = if (riseS last v).1 = 0 then ((chkV (riseS last v).2 L : Nat) : Int) else (riseS last v).1 := by
  rw [show chkV last (v :: L) = if v.p < 0 ∨ 64 ≤ v.p then 3 else if v.p ≤ last then 9 else chkV v.p L from rfl]
  unfold riseS
  split
  · rfl
  · split <;> simp
theorem rises_any (w : World) :
    Calls Try.prog 42 #[] w fun e w' => e = .returned (.func (.func 74) #[] #[.pointer (some ⟨w.heap.size, 0, none⟩)]) ∧ w.alloc (.cells #[.int .i64 (-1)] 3) = w' := by
  go_enter Try.func42, Try.ntmps42
  go_wp2_with fail
  go_ret
  exact ⟨rfl, rfl⟩
theorem rise_any {w : World} {b : Nat} {last : Int} (v : Vt) (hb : w.heap[b]? = some (.cells #[.int .i64 last] 3 (0, 0))) :
    Calls Try.prog 74 (#[.agg #[.int .i64 v.p, .int .u64 v.g]] ++ #[.pointer (some ⟨b, 0, none⟩)]) w fun e w' => e = .returned (.int .i64 (riseS last v).1) ∧ w'.heap[b]? = some (.cells #[.int .i64 (riseS last v).2] 3 (0, 0)) ∧ Keep (fun x => x = b) w w' := by
  have hlt := kb_lt hb
  have c0 := kb_cell hb 0
  have z0 := kb_frozen hb 0
  simp at c0
  have HB := Lib.hid hb
  clear hb
  have fin : ∀ (a l : Int), riseS last v = (a, l) → ∀ (q : Value) (W : World), q = .int .i64 a → W.heap[b]? = some (.cells #[.int .i64 l] 3 (0, 0)) → Keep (fun x => x = b) w W → Ending.returned q = .returned (.int .i64 (riseS last v).1) ∧ W.heap[b]? = some (.cells #[.int .i64 (riseS last v).2] 3 (0, 0)) ∧ Keep (fun x => x = b) w W := by
    intro a l h q W hq h1 h2
    rw [h, hq]; exact ⟨rfl, h1, h2⟩
  have kA : Keep (fun x => x = b) w (w.alloc (.cells #[.int .i64 v.p, .int .u64 v.g] 29)) := (Keep.refl _ _).alloc _
  have kB := HB.out
  by_cases h1 : v.p < 0
  · have hr : riseS last v = (3, last) := by simp [riseS, h1]
    go_enter Try.func74, Try.ntmps74
    go_wp2_with fail
    go_ret
    first | exact ⟨rfl, kb_alloc kB _, kA⟩ | exact fin _ _ hr _ _ rfl (kb_alloc kB _) kA
  by_cases h2 : 64 ≤ v.p
  · have hr : riseS last v = (3, last) := by simp [riseS, h2]
    have h3 : ¬ v.p < 64 := by omega
    go_enter Try.func74, Try.ntmps74
    go_wp2_with fail
    go_ret
    first | exact ⟨rfl, kb_alloc kB _, kA⟩ | exact fin _ _ hr _ _ rfl (kb_alloc kB _) kA
  have h3 : v.p < 64 := by omega
  by_cases h4 : v.p ≤ last
  · have hr : riseS last v = (9, last) := by simp [riseS, h1, h2, h4]
    go_enter Try.func74, Try.ntmps74
    go_wp2_with fail
    go_ret
    first | exact ⟨rfl, kb_alloc kB _, kA⟩ | exact fin _ _ hr _ _ rfl (kb_alloc kB _) kA
  · have hr : riseS last v = (0, v.p) := by simp [riseS, h1, h2, h4]
    go_enter Try.func74, Try.ntmps74
    go_wp2_with fail
    go_ret
    have hS := kb_set (i := 0) kB (.int .i64 v.p)
    simp only [List.setIfInBounds_toArray, List.set_cons_zero] at hS
    have kC := Keep.set (S := fun x => x = b) (p := ⟨b, 0, none⟩) (Keep.refl _ w) (fun _ => rfl) (.int .i64 v.p)
    exact ⟨rfl, kb_alloc hS _, kC.alloc _⟩
end Go.Proofs.Ytooghjnddifpdaa
