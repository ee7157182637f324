/- The order of merits: plain facts. -/
import Derived.Test.YtockdfhejbbbeaaSco4
namespace Go.Proofs.Ytockdfhejbbbeaa
open Go.RowKit Go.Proofs.Ytockdfhejbbbeaa.Pc Go.Proofs.Ytockdfhejbbbeaa.Sy

theorem cmpF_lt {p q : Nat} (hp : p < 18446744073709551616) (hq : q < 18446744073709551616) : cmpF p q < 0 ↔ keyF p < keyF q := by
  rw [cmpF_key hp hq]
  by_cases h : keyF p < keyF q
  · rw [if_pos h]; simp [h]
  · rw [if_neg h]
    by_cases h' : keyF q < keyF p
    · rw [if_pos h']; simp [h]
    · rw [if_neg h']; simp [h]
theorem cmpM_lt {s : Int} {p : Nat} {t : Int} {q : Nat} (hp : p < 18446744073709551616) (hq : q < 18446744073709551616) : cmpM s p t q < 0 ↔ t < s ∨ (t = s ∧ keyF p < keyF q) := by
  unfold cmpM cmpI
  by_cases h : t < s
  · simp [h]
  · by_cases h' : s < t
    · have h'' : ¬ t = s := by omega
      simp [h, h', h'']
    · have h'' : t = s := by omega
      simp only [h, h', if_false, if_true]
      rw [cmpF_lt hp hq]
      simp [h'']
/-- Which merit is better, by their places; of two that are alike the first. -/
def ltM (ms : List Mr) (i k : Nat) : Bool := decide (cfM ms i k < 0) || (!decide (cfM ms k i < 0) && decide (i < k))
theorem ltM_iff {ms : List Mr} (h : Fit ms) (i k : Nat) : ltM ms i k = true ↔ ((mrAt ms k).s < (mrAt ms i).s ∨ ((mrAt ms k).s = (mrAt ms i).s ∧ (keyF (mrAt ms i).p < keyF (mrAt ms k).p ∨ (keyF (mrAt ms i).p = keyF (mrAt ms k).p ∧ i < k)))) := by
  have h1 := cmpM_lt (s := (mrAt ms i).s) (t := (mrAt ms k).s) (h.at i) (h.at k)
  have h2 := cmpM_lt (s := (mrAt ms k).s) (t := (mrAt ms i).s) (h.at k) (h.at i)
  simp only [ltM, cfM, Bool.or_eq_true, Bool.and_eq_true, Bool.not_eq_true', decide_eq_true_eq, decide_eq_false_iff_not, h1, h2]
  omega
theorem ltM_strict {ms : List Mr} (h : Fit ms) : Strict (ltM ms) where
  irr x := by
    cases e : ltM ms x x
    · rfl
    · rw [ltM_iff h] at e; omega
  tr x y z := by
    rw [ltM_iff h, ltM_iff h, ltM_iff h]
    omega
  tot x y hne := by
    rw [ltM_iff h, ltM_iff h]
    omega
theorem ltM_up {ms : List Mr} {x y : Nat} (h : y < x) : decide (cfM ms x y < 0) = ltM ms x y := by
  unfold ltM
  rw [decide_eq_false (show ¬ x < y by omega)]
  simp

/-- What merits are compared by, at each world of the sort. -/
theorem cmp_merits {g lc : Nat} {v : Value} {ms : List Mr} (hg : lc ≠ g) (hv : v.ownBlock ≠ some g) (hF : Fit ms) (hl : ms.length ≤ 1000) :
    ∀ J : World → Prop, (∀ W, J W ↔ (W.heap[lc]? = some (.cells #[v] 37) ∧ MRow W v ms)) →
      (∀ i k W, i < ms.length → k < ms.length → J W → Calls Try.prog 39 (#[.int .i64 (i : Int), .int .i64 (k : Int)] ++ #[.pointer (some ⟨lc, 0, none⟩)]) W fun e w' => e = .returned (.int .i64 (cfM ms i k)) ∧ Below W.heap.size W w') ∧
      (∀ W W', J W → Only g W W' → J W') := by
  intro J hJ
  refine ⟨fun i k W hi hk h => ?_, fun W W' h ho => ?_⟩
  · obtain ⟨h1, h2⟩ := (hJ W).1 h
    exact Rank1_any lc v ms i k W h1 h2 hF hl hi hk
  · obtain ⟨h1, h2⟩ := (hJ W).1 h
    exact (hJ W').2 ⟨ho.kb h1 hg, h2.keep ho fun b hb e => hv (by rw [hb, e])⟩
end Go.Proofs.Ytockdfhejbbbeaa
