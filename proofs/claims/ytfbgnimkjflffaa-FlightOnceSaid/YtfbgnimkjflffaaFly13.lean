/- FlightKnown: the walk. -/
import Derived.Test.YtfbgnimkjflffaaFly12
namespace Go.Proofs.Ytfbgnimkjflffaa
open Go.RowKit Go.Maps
attribute [local go_sem] cell_alloc_some frozen_alloc_some

def L5 : List Rq := [⟨1, 0, 5, 1, false⟩, ⟨2, 1, 5, 1, true⟩, ⟨3, 0, 6, 2, true⟩, ⟨4, 0, 5, 7, true⟩]
theorem eq4 (W : World) : (binOp .eql 29 (.agg #[.int .i64 4, .int .i64 0, .int .i64 5, .int .i64 7, .bool true]) (.agg #[.int .i64 4, .int .i64 0, .int .i64 5, .int .i64 7, .bool true])).run Try.prog W = .ok (.bool true) W := by kernel_rfl

set_option maxHeartbeats 1000000 in
theorem FlightKnown_any (w : World) :
    Calls Try.prog 3 #[] w fun e w' => e = .returned (.bool true) ∧ Below w.heap.size w w' := by
  go_enter Try.func3, Try.ntmps3
  go_wp2_with fail
  refine (first_any _).mono ?_
  rintro e w1 ⟨rfl, F, b1⟩
  have F1 := Lib.hid F
  clear F
  go_wp2_with fail
  refine (fClose_E 1 0 L4 F1.out (by decide) (by rfl)).mono ?_
  rintro e w2 ⟨rfl, F, k2⟩
  have F2 := Lib.hid F
  have b2 := bl_from b1 k2 (Nat.le_refl _)
  clear F k2
  go_wp2_with fail
  refine (fClose_E 1 11 L4 F2.out (by decide) (by rfl)).mono ?_
  rintro e w3 ⟨rfl, F, k3⟩
  have F3 := Lib.hid F
  have b3 := bl_from b2 k3 (Nat.le_refl _)
  clear F k3
  go_wp2_with fail
  refine (fClose_E 9 10 L4 F3.out (by decide) (by rfl)).mono ?_
  rintro e w4 ⟨rfl, F, k4⟩
  have F4 := Lib.hid F
  have b4 := bl_from b3 k4 (Nat.le_refl _)
  clear F k4
  go_wp2_with fail
  refine (fIs_E 1 1 0 F4.out (by decide) (by rfl)).mono ?_
  rintro e w5 ⟨rfl, rfl⟩
  go_wp2_with fail
  refine (asks_yes _ _ _ 2 0 5 7 4 0 true L4 L5 _ F4.out (by decide) (by rfl)).mono ?_
  rintro e w6 ⟨rfl, F, k6⟩
  have F6 := Lib.hid F
  have b6 := bl_from b4 k6 (Nat.le_refl _)
  clear F k6
  go_wp2_with fail
  refine (fGet_E 4 ⟨4, 0, 5, 7, true⟩ true F6.out (by decide) (by rfl)).mono ?_
  rintro e w7 ⟨rfl, k7⟩
  unfold Rq.val
  have F7 := Lib.hid ((F6.out.below k7).below (bl_alloc (Below.refl _ w7) (.cells #[.int .i64 4, .int .i64 0, .int .i64 5, .int .i64 7, .bool true] 29)))
  have b7 := bl_then b6 k7
  clear k7
  go_wp2_with fail
  refine (fNew_no 0 _ (by omega)).mono ?_
  rintro e w8 ⟨rfl, rfl⟩
  go_wp2_with fail
  refine (fNew_no 17 _ (by omega)).mono ?_
  rintro e w8 ⟨rfl, rfl⟩
  have D7 : (w7.alloc (.cells #[.int .i64 4, .int .i64 0, .int .i64 5, .int .i64 7, .bool true] 29)).heap[w7.heap.size]? = some _ := kb_new rfl _
  have c7 := kb_cell D7
  have h4 := fun W => eq4 W
  go_wp2_with fail
  refine (asks_yes _ _ _ 2 2 5 1 0 3 false L5 L5 _ F7.out (by decide) (by rfl)).mono ?_
  rintro e w9 ⟨rfl, F, k9⟩
  have F9 := Lib.hid F
  have b9 := bl_from (bl_alloc b7 _) k9 (Nat.le_refl _)
  clear F k9
  go_wp2_with fail
  refine (asks_yes _ _ _ 2 0 0 1 0 3 false L5 L5 _ F9.out (by decide) (by rfl)).mono ?_
  rintro e w10 ⟨rfl, F, k10⟩
  have F10 := Lib.hid F
  have b10 := bl_from b9 k10 (Nat.le_refl _)
  clear F k10
  go_wp2_with fail
  refine (asks_yes _ _ _ 2 0 5 (-1) 0 3 false L5 L5 _ F10.out (by decide) (by rfl)).mono ?_
  rintro e w11 ⟨rfl, F, k11⟩
  have b11 := bl_from b10 k11 (Nat.le_refl _)
  clear F k11
  go_wp2_with fail
  refine (awake_any _).mono ?_
  rintro e w12 ⟨rfl, k12⟩
  go_wp2_with fail
  go_ret
  exact ⟨rfl, bl_then b11 k12⟩
end Go.Proofs.Ytfbgnimkjflffaa
