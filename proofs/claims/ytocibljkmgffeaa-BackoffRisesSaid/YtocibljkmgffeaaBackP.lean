/- Plain: waits as numbers. -/
import Derived.WalkArith
namespace Go.Proofs.Ytocibljkmgffeaa.Bk

/-- The wait with k strikes. -/
def wN (base cap : Int) : Nat → Int
  | 0 => base
  | k + 1 => min (2 * wN base cap k) cap
theorem wN_bd {base cap : Int} (h1 : 1 ≤ base) (h2 : base ≤ cap) (k : Nat) : base ≤ wN base cap k ∧ wN base cap k ≤ cap := by
  induction k with
  | zero => exact ⟨by simp [wN], by simpa [wN] using h2⟩
  | succ k ih => simp only [wN]; omega
theorem wN_succ (base cap : Int) (k : Nat) : wN base cap (k + 1) = min (2 * wN base cap k) cap := rfl
/-- All waits ahead of k strikes. -/
def sN (base cap : Int) : Nat → Int
  | 0 => 0
  | k + 1 => sN base cap k + wN base cap k
theorem sN_bd {base cap : Int} (h1 : 1 ≤ base) (h2 : base ≤ cap) (k : Nat) : 0 ≤ sN base cap k ∧ sN base cap k ≤ k * cap := by
  induction k with
  | zero => simp [sN]
  | succ k ih =>
    have := wN_bd h1 h2 k
    simp only [sN, Int.natCast_add, Int.add_mul]
    omega
end Go.Proofs.Ytocibljkmgffeaa.Bk
