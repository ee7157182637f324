/- The law package of backoff: its helpers, its closed examples, BackoffWaits. -/
import Derived.Test.YtocibljkmgffeaaBack6
namespace Go.Proofs.Ytocibljkmgffeaa
open Go.RowKit Go.Proofs.Ytocibljkmgffeaa.Bk

set_option maxHeartbeats 400000 in
theorem waitsL_t (s b c x e : Int) (h1 : waitN s b c = x) (h2 : waitE s b c = e) (w : World) :
    Calls Try.prog 31 #[.int .i64 s, .int .i64 b, .int .i64 c, .int .i64 x, .int .i64 e] w fun e w' => e = .returned (.bool true) ∧ Below w.heap.size w w' := by
  go_enter Try.func31, Try.ntmps31
  go_wp2_with (go_at_call 13; (with_reducible refine (bWait_any _ _ _ _).mono ?_); rintro e w1 ⟨rfl, hb1⟩; have hz1 := hb1.size)
  go_ret
  exact ⟨rfl, by (repeat (with_reducible (first | exact Below.refl _ _ | assumption | refine bl_alloc ?_ _ | refine bl_drew ?_ | refine bl_drewN ?_ _ | (refine bl_set ?_ ?_ _; (focus (first | (simp; done) | (simp; omega) | omega))) | refine bl_then ?_ (by assumption))))⟩

set_option maxHeartbeats 400000 in
theorem deadL_t (now s b c x e : Int) (h1 : deadN now s b c = x) (h2 : deadE now s b c = e) (w : World) :
    Calls Try.prog 32 #[.int .i64 now, .int .i64 s, .int .i64 b, .int .i64 c, .int .i64 x, .int .i64 e] w fun e w' => e = .returned (.bool true) ∧ Below w.heap.size w w' := by
  go_enter Try.func32, Try.ntmps32
  go_wp2_with (go_at_call 15; (with_reducible refine (Deadline_any _ _ _ _ _).mono ?_); rintro e w1 ⟨rfl, hb1⟩; have hz1 := hb1.size)
  go_ret
  exact ⟨rfl, by (repeat (with_reducible (first | exact Below.refl _ _ | assumption | refine bl_alloc ?_ _ | refine bl_drew ?_ | refine bl_drewN ?_ _ | (refine bl_set ?_ ?_ _; (focus (first | (simp; done) | (simp; omega) | omega))) | refine bl_then ?_ (by assumption))))⟩

set_option maxHeartbeats 400000 in
theorem allL_t (s b c x : Int) (h1 : allN s b c = x) (h2 : waitE s b c = 0) (w : World) :
    Calls Try.prog 33 #[.int .i64 s, .int .i64 b, .int .i64 c, .int .i64 x] w fun e w' => e = .returned (.bool true) ∧ Below w.heap.size w w' := by
  go_enter Try.func33, Try.ntmps33
  go_wp2_with (go_at_call 25; (with_reducible refine (bAll_any _ _ _ _).mono ?_); rintro e w1 ⟨rfl, hb1⟩; have hz1 := hb1.size)
  go_ret
  exact ⟨rfl, by (repeat (with_reducible (first | exact Below.refl _ _ | assumption | refine bl_alloc ?_ _ | refine bl_drew ?_ | refine bl_drewN ?_ _ | (refine bl_set ?_ ?_ _; (focus (first | (simp; done) | (simp; omega) | omega))) | refine bl_then ?_ (by assumption))))⟩

theorem wN_stay {b c : Int} (hc : 0 ≤ c) {k : Nat} (h : wN b c k = c) (j : Nat) : wN b c (k + j) = c := by
  induction j with
  | zero => exact h
  | succ j ih => rw [Nat.add_succ, wN_succ, ih]; omega
theorem w1000 : waitN 1000 3 20 = 20 := by
  unfold waitN
  rw [if_pos (by decide +kernel)]
  exact wN_stay (k := 3) (by decide) (by decide +kernel) 997
theorem kb_w0 (w : World) : Calls Try.prog 31 #[.int .i64 0, .int .i64 3, .int .i64 20, .int .i64 3, .int .i64 0] w fun e w' => e = .returned (.bool true) ∧ Below w.heap.size w w' := waitsL_t (0) (3) (20) (3) (0) (by decide +kernel) (by decide +kernel) w
theorem kb_w1 (w : World) : Calls Try.prog 31 #[.int .i64 3, .int .i64 3, .int .i64 20, .int .i64 20, .int .i64 0] w fun e w' => e = .returned (.bool true) ∧ Below w.heap.size w w' := waitsL_t (3) (3) (20) (20) (0) (by decide +kernel) (by decide +kernel) w
theorem kb_w2 (w : World) : Calls Try.prog 31 #[.int .i64 0, .int .i64 0, .int .i64 5, .int .i64 0, .int .i64 3] w fun e w' => e = .returned (.bool true) ∧ Below w.heap.size w w' := waitsL_t (0) (0) (5) (0) (3) (by decide +kernel) (by decide +kernel) w
theorem kb_w3 (w : World) : Calls Try.prog 31 #[.int .i64 1, .int .i64 3, .int .i64 20, .int .i64 6, .int .i64 0] w fun e w' => e = .returned (.bool true) ∧ Below w.heap.size w w' := waitsL_t (1) (3) (20) (6) (0) (by decide +kernel) (by decide +kernel) w
theorem kb_w4 (w : World) : Calls Try.prog 31 #[.int .i64 2, .int .i64 3, .int .i64 20, .int .i64 12, .int .i64 0] w fun e w' => e = .returned (.bool true) ∧ Below w.heap.size w w' := waitsL_t (2) (3) (20) (12) (0) (by decide +kernel) (by decide +kernel) w
theorem kb_w5 (w : World) : Calls Try.prog 31 #[.int .i64 1000, .int .i64 3, .int .i64 20, .int .i64 20, .int .i64 0] w fun e w' => e = .returned (.bool true) ∧ Below w.heap.size w w' := waitsL_t (1000) (3) (20) (20) (0) w1000 (by decide +kernel) w
theorem kb_w6 (w : World) : Calls Try.prog 31 #[.int .i64 (-1), .int .i64 3, .int .i64 20, .int .i64 0, .int .i64 3] w fun e w' => e = .returned (.bool true) ∧ Below w.heap.size w w' := waitsL_t (-1) (3) (20) (0) (3) (by decide +kernel) (by decide +kernel) w
theorem kb_w7 (w : World) : Calls Try.prog 31 #[.int .i64 1001, .int .i64 3, .int .i64 20, .int .i64 0, .int .i64 3] w fun e w' => e = .returned (.bool true) ∧ Below w.heap.size w w' := waitsL_t (1001) (3) (20) (0) (3) (by decide +kernel) (by decide +kernel) w
theorem kb_w8 (w : World) : Calls Try.prog 31 #[.int .i64 0, .int .i64 6, .int .i64 5, .int .i64 0, .int .i64 3] w fun e w' => e = .returned (.bool true) ∧ Below w.heap.size w w' := waitsL_t (0) (6) (5) (0) (3) (by decide +kernel) (by decide +kernel) w
theorem kb_w9 (w : World) : Calls Try.prog 31 #[.int .i64 0, .int .i64 1, .int .i64 1048577, .int .i64 0, .int .i64 3] w fun e w' => e = .returned (.bool true) ∧ Below w.heap.size w w' := waitsL_t (0) (1) (1048577) (0) (3) (by decide +kernel) (by decide +kernel) w
theorem kb_d0 (w : World) : Calls Try.prog 32 #[.int .i64 100, .int .i64 2, .int .i64 3, .int .i64 20, .int .i64 112, .int .i64 0] w fun e w' => e = .returned (.bool true) ∧ Below w.heap.size w w' := deadL_t (100) (2) (3) (20) (112) (0) (by decide +kernel) (by decide +kernel) w
theorem kb_d1 (w : World) : Calls Try.prog 32 #[.int .i64 1099511627776, .int .i64 0, .int .i64 3, .int .i64 20, .int .i64 1099511627776, .int .i64 0] w fun e w' => e = .returned (.bool true) ∧ Below w.heap.size w w' := deadL_t (1099511627776) (0) (3) (20) (1099511627776) (0) (by decide +kernel) (by decide +kernel) w
theorem kb_d2 (w : World) : Calls Try.prog 32 #[.int .i64 (-1), .int .i64 0, .int .i64 3, .int .i64 20, .int .i64 0, .int .i64 3] w fun e w' => e = .returned (.bool true) ∧ Below w.heap.size w w' := deadL_t (-1) (0) (3) (20) (0) (3) (by decide +kernel) (by decide +kernel) w
theorem kb_a0 (w : World) : Calls Try.prog 33 #[.int .i64 6, .int .i64 3, .int .i64 20, .int .i64 81] w fun e w' => e = .returned (.bool true) ∧ Below w.heap.size w w' := allL_t (6) (3) (20) (81) (by decide +kernel) (by decide +kernel) w
theorem kb_a1 (w : World) : Calls Try.prog 33 #[.int .i64 0, .int .i64 3, .int .i64 20, .int .i64 0] w fun e w' => e = .returned (.bool true) ∧ Below w.heap.size w w' := allL_t (0) (3) (20) (0) (by decide +kernel) (by decide +kernel) w
theorem kb_a2 (w : World) : Calls Try.prog 33 #[.int .i64 4, .int .i64 3, .int .i64 20, .int .i64 41] w fun e w' => e = .returned (.bool true) ∧ Below w.heap.size w w' := allL_t (4) (3) (20) (41) (by decide +kernel) (by decide +kernel) w

set_option maxHeartbeats 400000 in
theorem bawake_any (w : World) : Calls Try.prog 19 #[] w fun e w' => e = .returned (.bool true) ∧ Below w.heap.size w w' := by
  go_enter Try.func19, Try.ntmps19
  go_wp2_with (first | (go_at_call 31; (with_reducible refine (kb_w0 _).mono ?_); rintro e w1 ⟨rfl, hb1⟩; have hz1 := hb1.size) | (go_at_call 31; (with_reducible refine (kb_w1 _).mono ?_); rintro e w1 ⟨rfl, hb1⟩; have hz1 := hb1.size) | (go_at_call 31; (with_reducible refine (kb_w2 _).mono ?_); rintro e w1 ⟨rfl, hb1⟩; have hz1 := hb1.size) | (go_at_call 32; (with_reducible refine (kb_d0 _).mono ?_); rintro e w1 ⟨rfl, hb1⟩; have hz1 := hb1.size) | (go_at_call 33; (with_reducible refine (kb_a0 _).mono ?_); rintro e w1 ⟨rfl, hb1⟩; have hz1 := hb1.size))
  go_ret
  exact ⟨rfl, by (repeat (with_reducible (first | exact Below.refl _ _ | assumption | refine bl_alloc ?_ _ | refine bl_drew ?_ | refine bl_drewN ?_ _ | (refine bl_set ?_ ?_ _; (focus (first | (simp; done) | (simp; omega) | omega))) | refine bl_then ?_ (by assumption))))⟩

set_option maxRecDepth 100000 in
set_option maxHeartbeats 1000000 in
theorem BackoffWaits_walk (now s b c : Int) (w : World) :
    Calls Try.prog 3 #[.int .i64 now, .int .i64 s, .int .i64 b, .int .i64 c] w fun e w' => e = .returned (.bool true) ∧ Below w.heap.size w w' := by
  go_enter Try.func3, Try.ntmps3
  go_wp2_with (first | (go_at_call 13; (with_reducible refine (bWait_any _ _ _ _).mono ?_); rintro e w1 ⟨rfl, hb1⟩; have hz1 := hb1.size) | (go_at_call 14; (with_reducible refine (rbWait_any _ _ _ _).mono ?_); rintro e w1 ⟨rfl, rfl⟩) | (go_at_call 15; (with_reducible refine (Deadline_any _ _ _ _ _).mono ?_); rintro e w1 ⟨rfl, hb1⟩; have hz1 := hb1.size) | (go_at_call 16; (with_reducible refine (rDeadline_any _ _ _ _ _).mono ?_); rintro e w1 ⟨rfl, hb1⟩; have hz1 := hb1.size) | (go_at_call 17; (with_reducible refine (bCheck_any _ _ _).mono ?_); rintro e w1 ⟨rfl, hb1⟩; have hz1 := hb1.size) | (go_at_call 18; (with_reducible refine (rbCheck_any _ _ _).mono ?_); rintro e w1 ⟨rfl, rfl⟩) | (go_at_call 19; (with_reducible refine (bawake_any _).mono ?_); rintro e w1 ⟨rfl, hb1⟩; have hz1 := hb1.size))
  go_ret
  exact ⟨rfl, by (repeat (with_reducible (first | exact Below.refl _ _ | assumption | refine bl_alloc ?_ _ | refine bl_drew ?_ | refine bl_drewN ?_ _ | (refine bl_set ?_ ?_ _; (focus (first | (simp; done) | (simp; omega) | omega))) | refine bl_then ?_ (by assumption))))⟩
end Go.Proofs.Ytocibljkmgffeaa
