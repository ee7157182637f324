/- The plain side of the clock: what 'Check', 'asked', 'Expired', 'Ahead', 'Look', 'Later' and 'Window' compute, as functions on integers; and that the two ways of computing agree. -/
import Derived.WalkArith
import Derived.IntWalk
namespace Go.Proofs.Ytocibljkmgffeaa.Ck
open Go

/-- Is n from lo to hi? Kept shut: the walks carry it as one Bool. -/
def fineB (n lo hi : Int) : Bool := decide (lo ≤ n ∧ n ≤ hi)
theorem fineB_iff {n lo hi : Int} : fineB n lo hi = true ↔ lo ≤ n ∧ n ≤ hi := by simp [fineB]
def timeB (n : Int) : Bool := fineB n 0 1099511627776
def saneB (p d n m : Int) : Bool := fineB p 1 1099511627776 && fineB d 0 1099511627776 && fineB m 1 100 && fineB n 1 m
/-- The errno of terms (Period p, Drift d, Num n, Den m). -/
def chkT (p d n m : Int) : Int := if saneB p d n m then (if 3 * n < m then 2 else 0) else 3
def askT (t a p d n m : Int) : Int := if chkT p d n m = 0 then (if timeB t && timeB a then 0 else 3) else chkT p d n m
def expB (a t p : Int) : Bool := decide (t + p ≤ a)
def aheadB (a t d : Int) : Bool := decide (a + max d 1 ≤ t)
def lookT (t a p d n m : Int) : Int := if askT t a p d n m = 0 then (if expB a t p then 16 else if aheadB a t d then 17 else 0) else askT t a p d n m
def laterN (a n : Int) : Int := if timeB a && decide (0 ≤ n) then a + min n (1099511627776 - a) else 0
def laterE (a n : Int) : Int := if timeB a && decide (0 ≤ n) then 0 else 3
def firstN (b d : Int) : Int := max 0 (b - max d 1 + 1)
def lastN (a p : Int) : Int := min (a + p - 1) 1099511627776

theorem chk_bounds {p d n m : Int} (h : chkT p d n m = 0) : 1 ≤ p ∧ p ≤ 1099511627776 ∧ 0 ≤ d ∧ d ≤ 1099511627776 ∧ 1 ≤ m ∧ m ≤ 100 ∧ 1 ≤ n ∧ n ≤ m := by
  unfold chkT at h
  by_cases hs : saneB p d n m = true
  · simp only [saneB, Bool.and_eq_true, fineB_iff] at hs
    omega
  · rw [if_neg hs] at h; omega
theorem ask_bounds {t a p d n m : Int} (h : askT t a p d n m = 0) : chkT p d n m = 0 ∧ 0 ≤ t ∧ t ≤ 1099511627776 ∧ 0 ≤ a ∧ a ≤ 1099511627776 := by
  unfold askT at h
  by_cases hc : chkT p d n m = 0
  · rw [if_pos hc] at h
    by_cases ht : (timeB t && timeB a) = true
    · simp only [timeB, Bool.and_eq_true, fineB_iff] at ht
      omega
    · rw [if_neg ht] at h; omega
  · rw [if_neg hc] at h; exact absurd h hc

def winE (a b p d n m : Int) : Int := if askT a b p d n m = 0 then (if firstN b d ≤ lastN a p then 0 else 16) else askT a b p d n m
def winF (a b p d n m : Int) : Int := if winE a b p d n m = 0 then firstN b d else 0
def winL (a b p d n m : Int) : Int := if winE a b p d n m = 0 then lastN a p else 0
theorem first_of {b d r : Int} (hb : 0 ≤ b) (hb2 : b ≤ 1099511627776) (h0 : 0 ≤ r) (h1 : r ≤ 1099511627777)
    (h2 : 0 < r → (!aheadB (r - 1) b d) = false) (h3 : r < 1099511627777 → (!aheadB r b d) = true) : r = firstN b d := by
  unfold firstN
  simp only [aheadB, Bool.not_eq_false', Bool.not_eq_true', decide_eq_true_eq, decide_eq_false_iff_not] at h2 h3
  omega
theorem last_of {a p r : Int} (ha : 0 ≤ a) (ha2 : a ≤ 1099511627776) (hp : 1 ≤ p) (h0 : 0 ≤ r) (h1 : r ≤ 1099511627777)
    (h2 : 0 < r → expB (r - 1) a p = false) (h3 : r < 1099511627777 → expB r a p = true) : r = lastN a p + 1 := by
  unfold lastN
  simp only [expB, decide_eq_true_eq, decide_eq_false_iff_not] at h2 h3
  omega
theorem first_bd {b d : Int} (hb : 0 ≤ b) (hb2 : b ≤ 1099511627776) : 0 ≤ firstN b d ∧ firstN b d ≤ 1099511627776 := by unfold firstN; omega
theorem last_bd {a p : Int} (ha : 0 ≤ a) (hp : 1 ≤ p) : 0 ≤ lastN a p ∧ lastN a p ≤ 1099511627776 := by unfold lastN; omega
end Go.Proofs.Ytocibljkmgffeaa.Ck
