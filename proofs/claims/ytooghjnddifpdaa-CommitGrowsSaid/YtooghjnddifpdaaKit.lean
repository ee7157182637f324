/- The walk of landfallkit.Pick. -/
import Derived.Test.YtooghjnddifpdaaBase
import Derived.Test.YtooghjnddifpdaaKitP
namespace Go.Proofs.Ytooghjnddifpdaa
open Go.RowKit

set_option maxHeartbeats 400000 in
theorem Pick_any (x n : Int) (w : World) (hn : n ≤ 4611686018427387904) :
    Calls Try.prog 26 #[.int .i64 x, .int .i64 n] w fun e w' => e = .returned (.int .i64 (pickN x n)) ∧ w = w' := by
  by_cases h : n ≤ 0
  · rw [pick_none h]
    go_enter Try.func26, Try.ntmps26
    go_wp2
    go_ret
    exact ⟨rfl, rfl⟩
  · have h0 : 0 < n := by omega
    obtain ⟨b1, b2⟩ := tmod_bd x h0
    have hne : (n == 0) = false := by simp; omega
    by_cases hx : 0 ≤ x.tmod n
    · rw [pick_pos h0 hx]
      go_enter Try.func26, Try.ntmps26
      go_wp2
      go_ret
      exact ⟨rfl, rfl⟩
    · rw [pick_neg h0 (by omega)]
      go_enter Try.func26, Try.ntmps26
      go_wp2
      go_ret
      exact ⟨rfl, rfl⟩
end Go.Proofs.Ytooghjnddifpdaa
