/- Plain: a number's form, a word's form, as bytes. -/
import Derived.WalkArith
namespace Go.Proofs.Ytooghjnddifpdaa.Wi

/-- The digits of base 256, the lowest first. -/
def les : Nat → Nat → List UInt8
  | 0, _ => []
  | k + 1, n => if n = 0 then [] else UInt8.ofNat n :: les k (n / 256)
/-- A number's form. -/
def numL (n : Nat) : List UInt8 := UInt8.ofNat (les 8 n).length :: (les 8 n).reverse
/-- A word's form. -/
def wrdL (n : Nat) : List UInt8 := ((List.range 8).map fun i => UInt8.ofNat (n / 256 ^ i)).reverse
theorem les_len (k n : Nat) : (les k n).length ≤ k := by
  induction k generalizing n with
  | zero => simp [les]
  | succ k ih =>
    simp only [les]
    split
    · simp
    · simp only [List.length_cons]; have := ih (n / 256); omega
theorem numL_len (n : Nat) : (numL n).length ≤ 9 := by have := les_len 8 n; simp [numL]; omega
theorem wrdL_len (n : Nat) : (wrdL n).length = 8 := rfl

theorem les_all (k n : Nat) (h : ∀ j, j < k → n / 256 ^ j ≠ 0) (h0 : n / 256 ^ k = 0) (m : Nat) (hm : k ≤ m) : les m n = (List.range k).map fun j => UInt8.ofNat (n / 256 ^ j) := by
  induction k generalizing n m with
  | zero =>
    simp at h0
    cases m with
    | zero => rfl
    | succ m => simp [les, h0]
  | succ k ih =>
    cases m with
    | zero => omega
    | succ m =>
      have hn : n ≠ 0 := by have := h 0 (by omega); simpa using this
      have e : ∀ j, n / 256 / 256 ^ j = n / 256 ^ (j + 1) := fun j => by rw [Nat.div_div_eq_div_mul, Nat.pow_succ, Nat.mul_comm]
      rw [les, if_neg hn, ih (n / 256) (fun j hj => by rw [e]; exact h (j + 1) (by omega)) (by rw [e]; exact h0) m (by omega), List.range_succ_eq_map, List.map_cons, List.map_map]
      congr 1
      · simp
      · refine List.map_congr_left fun j _ => ?_
        simp [e]
/-- A number's form, place by place. -/
theorem numL_at (n k : Nat) (hk : k ≤ 8) (h : ∀ j, j < k → n / 256 ^ j ≠ 0) (h0 : n / 256 ^ k = 0) :
    numL n = UInt8.ofNat k :: ((List.range k).map fun j => UInt8.ofNat (n / 256 ^ j)).reverse := by
  have e := les_all k n h h0 8 hk
  unfold numL
  rw [e]
  simp

/-- The first k digits, the highest of them first. -/
def pre (n k : Nat) : List UInt8 := ((List.range k).map fun j => UInt8.ofNat (n / 256 ^ j)).reverse
theorem pre_next (n k : Nat) : pre n (k + 1) = UInt8.ofNat (n / 256 ^ k) :: pre n k := by simp [pre, List.range_succ]
theorem pre_len (n k : Nat) : (pre n k).length = k := by simp [pre]
theorem pre_8 (n : Nat) : wrdL n = pre n 8 := rfl
end Go.Proofs.Ytooghjnddifpdaa.Wi
