/- Plain: the number that 'Pick' picks. -/
import Derived.WalkArith
namespace Go.Proofs.Ytooghjnddifpdaa

/-- 'Pick': one of the numbers from 0 on below n. -/
def pickN (x n : Int) : Int := if n ≤ 0 then 0 else x % n
theorem pick_none {x n : Int} (h : n ≤ 0) : pickN x n = 0 := by simp [pickN, h]
theorem pick_pos {x n : Int} (h : 0 < n) (hx : 0 ≤ x.tmod n) : pickN x n = x.tmod n := by
  have h1 : ¬ n ≤ 0 := by omega
  simp only [pickN, h1, if_false]
  have e := Int.mul_tdiv_add_tmod x n
  have l := Int.tmod_lt_of_pos x h
  have : x = x.tmod n + n * x.tdiv n := by omega
  conv => lhs; rw [this]
  rw [Int.add_mul_emod_self_left]
  exact Int.emod_eq_of_lt hx l
theorem pick_neg {x n : Int} (h : 0 < n) (hx : x.tmod n < 0) : pickN x n = x.tmod n + n := by
  have h1 : ¬ n ≤ 0 := by omega
  simp only [pickN, h1, if_false]
  have e := Int.mul_tdiv_add_tmod x n
  have l := Int.lt_tmod_of_pos x h
  have e2 : n * (x.tdiv n - 1) = n * x.tdiv n - n := by rw [Int.mul_sub, Int.mul_one]
  have : x = (x.tmod n + n) + n * (x.tdiv n - 1) := by rw [e2]; omega
  conv => lhs; rw [this]
  rw [Int.add_mul_emod_self_left]
  exact Int.emod_eq_of_lt (by omega) (by omega)
theorem pick_bd {x n : Int} (h : 0 < n) : 0 ≤ pickN x n ∧ pickN x n < n := by
  have h1 : ¬ n ≤ 0 := by omega
  simp only [pickN, h1, if_false]
  exact ⟨Int.emod_nonneg _ (by omega), Int.emod_lt_of_pos _ h⟩
theorem tmod_bd (x : Int) {n : Int} (h : 0 < n) : -n < x.tmod n ∧ x.tmod n < n := ⟨Int.lt_tmod_of_pos x h, Int.tmod_lt_of_pos x h⟩
end Go.Proofs.Ytooghjnddifpdaa
