/- The walks of package clock and of its reference: what each function computes, in any world. -/
import Derived.Test.YtocibljkmgffeaaBase
import Derived.Test.YtocibljkmgffeaaClockP
import Derived.LoopN
namespace Go.Proofs.Ytocibljkmgffeaa
open Go.RowKit Go.Proofs.Ytocibljkmgffeaa.Ck
attribute [local go_sem] cell_alloc_some frozen_alloc_some

set_option maxHeartbeats 400000 in
theorem fine_any (n lo hi : Int) (w : World) :
    Calls Try.prog 64 #[.agg #[.int .i64 n, .int .i64 lo, .int .i64 hi]] w fun e w' => e = .returned (.bool (fineB n lo hi)) ∧ Below w.heap.size w w' := by
  by_cases h1 : lo ≤ n
  · have h2 : fineB n lo hi = decide (n ≤ hi) := by simp [fineB, h1]
    rw [h2]
    clear h2
    go_enter Try.func64, Try.ntmps64
    go_wp2
    go_ret
    exact ⟨rfl, by (repeat (with_reducible (first | exact Below.refl _ _ | assumption | refine bl_alloc ?_ _ | refine bl_drew ?_ | refine bl_drewN ?_ _ | (refine bl_set ?_ ?_ _; (focus (first | (simp; done) | (simp; omega) | omega))) | refine bl_then ?_ (by assumption))))⟩
  · have h2 : fineB n lo hi = false := by simp [fineB, h1]
    rw [h2]
    clear h2
    go_enter Try.func64, Try.ntmps64
    go_wp2
    go_ret
    exact ⟨rfl, by (repeat (with_reducible (first | exact Below.refl _ _ | assumption | refine bl_alloc ?_ _ | refine bl_drew ?_ | refine bl_drewN ?_ _ | (refine bl_set ?_ ?_ _; (focus (first | (simp; done) | (simp; omega) | omega))) | refine bl_then ?_ (by assumption))))⟩

set_option maxHeartbeats 400000 in
theorem is_any (n : Int) (w : World) :
    Calls Try.prog 54 #[.int .i64 n] w fun e w' => e = .returned (.bool (timeB n)) ∧ Below w.heap.size w w' := by
  go_enter Try.func54, Try.ntmps54
  go_wp2_with (go_at_call 64; (with_reducible refine (fine_any _ _ _ _).mono ?_); rintro e w1 ⟨rfl, hb1⟩; have hz1 := hb1.size)
  go_ret
  exact ⟨rfl, by (repeat (with_reducible (first | exact Below.refl _ _ | assumption | refine bl_alloc ?_ _ | refine bl_drew ?_ | refine bl_drewN ?_ _ | (refine bl_set ?_ ?_ _; (focus (first | (simp; done) | (simp; omega) | omega))) | refine bl_then ?_ (by assumption))))⟩

set_option maxHeartbeats 400000 in
theorem within_any (n lo hi : Int) (w : World) :
    Calls Try.prog 65 #[.int .i64 n, .int .i64 lo, .int .i64 hi] w fun e w' => e = .returned (.bool (fineB n lo hi)) ∧ w = w' := by
  by_cases h1 : lo ≤ n
  · have h2 : fineB n lo hi = decide (n ≤ hi) := by simp [fineB, h1]
    rw [h2]
    clear h2
    go_enter Try.func65, Try.ntmps65
    go_wp2
    go_ret
    exact ⟨rfl, rfl⟩
  · have h2 : fineB n lo hi = false := by simp [fineB, h1]
    rw [h2]
    clear h2
    go_enter Try.func65, Try.ntmps65
    go_wp2
    go_ret
    exact ⟨rfl, rfl⟩

set_option maxHeartbeats 400000 in
theorem rTime_any (n : Int) (w : World) :
    Calls Try.prog 55 #[.int .i64 n] w fun e w' => e = .returned (.bool (timeB n)) ∧ w = w' := by
  go_enter Try.func55, Try.ntmps55
  go_wp2_with (go_at_call 65; (with_reducible refine (within_any _ _ _ _).mono ?_); rintro e w1 ⟨rfl, rfl⟩)
  go_ret
  exact ⟨rfl, rfl⟩

set_option maxHeartbeats 400000 in
theorem check_no1 (p d n m : Int) (w : World) (h1 : fineB p 1 1099511627776 = false) :
    Calls Try.prog 41 #[.agg #[.int .i64 p, .int .i64 d, .int .i64 n, .int .i64 m]] w fun e w' => e = .returned (.int .i64 3) ∧ Below w.heap.size w w' := by
  go_enter Try.func41, Try.ntmps41
  go_wp2
  refine wp_loop_rounds 5 ?_
  rw [rounds_succ]
  go_wp2_with (go_at_call 64; (with_reducible refine (fine_any _ _ _ _).mono ?_); rintro e w1 ⟨rfl, hb1⟩; have hz1 := hb1.size; have B0 : w1.heap[w.heap.size]? = some _ := kb_below hb1 (by (repeat (with_reducible (first | assumption | (apply kb_new; (focus (simp; done))) | apply kb_alloc | apply kb_drew | apply kb_drewN | apply kb_set | (apply kb_far; (focus (first | (simp; done) | (simp; omega)))))))); have c0 := kb_cell B0; have B1 : w1.heap[w.heap.size + 1]? = some _ := kb_below hb1 (by (repeat (with_reducible (first | assumption | (apply kb_new; (focus (simp; done))) | apply kb_alloc | apply kb_drew | apply kb_drewN | apply kb_set | (apply kb_far; (focus (first | (simp; done) | (simp; omega)))))))); have c1 := kb_cell B1)
  go_ret
  exact ⟨rfl, by (repeat (with_reducible (first | exact Below.refl _ _ | assumption | refine bl_alloc ?_ _ | refine bl_drew ?_ | refine bl_drewN ?_ _ | (refine bl_set ?_ ?_ _; (focus (first | (simp; done) | (simp; omega) | omega))) | refine bl_then ?_ (by assumption))))⟩

set_option maxHeartbeats 400000 in
theorem check_no2 (p d n m : Int) (w : World) (h1 : fineB p 1 1099511627776 = true) (h2 : fineB d 0 1099511627776 = false) :
    Calls Try.prog 41 #[.agg #[.int .i64 p, .int .i64 d, .int .i64 n, .int .i64 m]] w fun e w' => e = .returned (.int .i64 3) ∧ Below w.heap.size w w' := by
  go_enter Try.func41, Try.ntmps41
  go_wp2
  refine wp_loop_rounds 5 ?_
  rw [rounds_succ]
  go_wp2_with (go_at_call 64; (with_reducible refine (fine_any _ _ _ _).mono ?_); rintro e w1 ⟨rfl, hb1⟩; have hz1 := hb1.size; have B0 : w1.heap[w.heap.size]? = some _ := kb_below hb1 (by (repeat (with_reducible (first | assumption | (apply kb_new; (focus (simp; done))) | apply kb_alloc | apply kb_drew | apply kb_drewN | apply kb_set | (apply kb_far; (focus (first | (simp; done) | (simp; omega)))))))); have c0 := kb_cell B0; have B1 : w1.heap[w.heap.size + 1]? = some _ := kb_below hb1 (by (repeat (with_reducible (first | assumption | (apply kb_new; (focus (simp; done))) | apply kb_alloc | apply kb_drew | apply kb_drewN | apply kb_set | (apply kb_far; (focus (first | (simp; done) | (simp; omega)))))))); have c1 := kb_cell B1)
  rw [rounds_succ]
  go_wp2_with (go_at_call 64; (with_reducible refine (fine_any _ _ _ _).mono ?_); rintro e w1 ⟨rfl, hb1⟩; have hz1 := hb1.size; have B0 : w1.heap[w.heap.size]? = some _ := kb_below hb1 (by (repeat (with_reducible (first | assumption | (apply kb_new; (focus (simp; done))) | apply kb_alloc | apply kb_drew | apply kb_drewN | apply kb_set | (apply kb_far; (focus (first | (simp; done) | (simp; omega)))))))); have c0 := kb_cell B0; have B1 : w1.heap[w.heap.size + 1]? = some _ := kb_below hb1 (by (repeat (with_reducible (first | assumption | (apply kb_new; (focus (simp; done))) | apply kb_alloc | apply kb_drew | apply kb_drewN | apply kb_set | (apply kb_far; (focus (first | (simp; done) | (simp; omega)))))))); have c1 := kb_cell B1)
  go_ret
  exact ⟨rfl, by (repeat (with_reducible (first | exact Below.refl _ _ | assumption | refine bl_alloc ?_ _ | refine bl_drew ?_ | refine bl_drewN ?_ _ | (refine bl_set ?_ ?_ _; (focus (first | (simp; done) | (simp; omega) | omega))) | refine bl_then ?_ (by assumption))))⟩

set_option maxHeartbeats 400000 in
theorem check_no3 (p d n m : Int) (w : World) (h1 : fineB p 1 1099511627776 = true) (h2 : fineB d 0 1099511627776 = true) (h3 : fineB m 1 100 = false) :
    Calls Try.prog 41 #[.agg #[.int .i64 p, .int .i64 d, .int .i64 n, .int .i64 m]] w fun e w' => e = .returned (.int .i64 3) ∧ Below w.heap.size w w' := by
  go_enter Try.func41, Try.ntmps41
  go_wp2
  refine wp_loop_rounds 5 ?_
  rw [rounds_succ]
  go_wp2_with (go_at_call 64; (with_reducible refine (fine_any _ _ _ _).mono ?_); rintro e w1 ⟨rfl, hb1⟩; have hz1 := hb1.size; have B0 : w1.heap[w.heap.size]? = some _ := kb_below hb1 (by (repeat (with_reducible (first | assumption | (apply kb_new; (focus (simp; done))) | apply kb_alloc | apply kb_drew | apply kb_drewN | apply kb_set | (apply kb_far; (focus (first | (simp; done) | (simp; omega)))))))); have c0 := kb_cell B0; have B1 : w1.heap[w.heap.size + 1]? = some _ := kb_below hb1 (by (repeat (with_reducible (first | assumption | (apply kb_new; (focus (simp; done))) | apply kb_alloc | apply kb_drew | apply kb_drewN | apply kb_set | (apply kb_far; (focus (first | (simp; done) | (simp; omega)))))))); have c1 := kb_cell B1)
  rw [rounds_succ]
  go_wp2_with (go_at_call 64; (with_reducible refine (fine_any _ _ _ _).mono ?_); rintro e w1 ⟨rfl, hb1⟩; have hz1 := hb1.size; have B0 : w1.heap[w.heap.size]? = some _ := kb_below hb1 (by (repeat (with_reducible (first | assumption | (apply kb_new; (focus (simp; done))) | apply kb_alloc | apply kb_drew | apply kb_drewN | apply kb_set | (apply kb_far; (focus (first | (simp; done) | (simp; omega)))))))); have c0 := kb_cell B0; have B1 : w1.heap[w.heap.size + 1]? = some _ := kb_below hb1 (by (repeat (with_reducible (first | assumption | (apply kb_new; (focus (simp; done))) | apply kb_alloc | apply kb_drew | apply kb_drewN | apply kb_set | (apply kb_far; (focus (first | (simp; done) | (simp; omega)))))))); have c1 := kb_cell B1)
  rw [rounds_succ]
  go_wp2_with (go_at_call 64; (with_reducible refine (fine_any _ _ _ _).mono ?_); rintro e w1 ⟨rfl, hb1⟩; have hz1 := hb1.size; have B0 : w1.heap[w.heap.size]? = some _ := kb_below hb1 (by (repeat (with_reducible (first | assumption | (apply kb_new; (focus (simp; done))) | apply kb_alloc | apply kb_drew | apply kb_drewN | apply kb_set | (apply kb_far; (focus (first | (simp; done) | (simp; omega)))))))); have c0 := kb_cell B0; have B1 : w1.heap[w.heap.size + 1]? = some _ := kb_below hb1 (by (repeat (with_reducible (first | assumption | (apply kb_new; (focus (simp; done))) | apply kb_alloc | apply kb_drew | apply kb_drewN | apply kb_set | (apply kb_far; (focus (first | (simp; done) | (simp; omega)))))))); have c1 := kb_cell B1)
  go_ret
  exact ⟨rfl, by (repeat (with_reducible (first | exact Below.refl _ _ | assumption | refine bl_alloc ?_ _ | refine bl_drew ?_ | refine bl_drewN ?_ _ | (refine bl_set ?_ ?_ _; (focus (first | (simp; done) | (simp; omega) | omega))) | refine bl_then ?_ (by assumption))))⟩

set_option maxHeartbeats 400000 in
theorem check_no4 (p d n m : Int) (w : World) (h1 : fineB p 1 1099511627776 = true) (h2 : fineB d 0 1099511627776 = true) (h3 : fineB m 1 100 = true) (h4 : fineB n 1 m = false) :
    Calls Try.prog 41 #[.agg #[.int .i64 p, .int .i64 d, .int .i64 n, .int .i64 m]] w fun e w' => e = .returned (.int .i64 3) ∧ Below w.heap.size w w' := by
  go_enter Try.func41, Try.ntmps41
  go_wp2
  refine wp_loop_rounds 5 ?_
  rw [rounds_succ]
  go_wp2_with (go_at_call 64; (with_reducible refine (fine_any _ _ _ _).mono ?_); rintro e w1 ⟨rfl, hb1⟩; have hz1 := hb1.size; have B0 : w1.heap[w.heap.size]? = some _ := kb_below hb1 (by (repeat (with_reducible (first | assumption | (apply kb_new; (focus (simp; done))) | apply kb_alloc | apply kb_drew | apply kb_drewN | apply kb_set | (apply kb_far; (focus (first | (simp; done) | (simp; omega)))))))); have c0 := kb_cell B0; have B1 : w1.heap[w.heap.size + 1]? = some _ := kb_below hb1 (by (repeat (with_reducible (first | assumption | (apply kb_new; (focus (simp; done))) | apply kb_alloc | apply kb_drew | apply kb_drewN | apply kb_set | (apply kb_far; (focus (first | (simp; done) | (simp; omega)))))))); have c1 := kb_cell B1)
  rw [rounds_succ]
  go_wp2_with (go_at_call 64; (with_reducible refine (fine_any _ _ _ _).mono ?_); rintro e w1 ⟨rfl, hb1⟩; have hz1 := hb1.size; have B0 : w1.heap[w.heap.size]? = some _ := kb_below hb1 (by (repeat (with_reducible (first | assumption | (apply kb_new; (focus (simp; done))) | apply kb_alloc | apply kb_drew | apply kb_drewN | apply kb_set | (apply kb_far; (focus (first | (simp; done) | (simp; omega)))))))); have c0 := kb_cell B0; have B1 : w1.heap[w.heap.size + 1]? = some _ := kb_below hb1 (by (repeat (with_reducible (first | assumption | (apply kb_new; (focus (simp; done))) | apply kb_alloc | apply kb_drew | apply kb_drewN | apply kb_set | (apply kb_far; (focus (first | (simp; done) | (simp; omega)))))))); have c1 := kb_cell B1)
  rw [rounds_succ]
  go_wp2_with (go_at_call 64; (with_reducible refine (fine_any _ _ _ _).mono ?_); rintro e w1 ⟨rfl, hb1⟩; have hz1 := hb1.size; have B0 : w1.heap[w.heap.size]? = some _ := kb_below hb1 (by (repeat (with_reducible (first | assumption | (apply kb_new; (focus (simp; done))) | apply kb_alloc | apply kb_drew | apply kb_drewN | apply kb_set | (apply kb_far; (focus (first | (simp; done) | (simp; omega)))))))); have c0 := kb_cell B0; have B1 : w1.heap[w.heap.size + 1]? = some _ := kb_below hb1 (by (repeat (with_reducible (first | assumption | (apply kb_new; (focus (simp; done))) | apply kb_alloc | apply kb_drew | apply kb_drewN | apply kb_set | (apply kb_far; (focus (first | (simp; done) | (simp; omega)))))))); have c1 := kb_cell B1)
  rw [rounds_succ]
  go_wp2_with (go_at_call 64; (with_reducible refine (fine_any _ _ _ _).mono ?_); rintro e w1 ⟨rfl, hb1⟩; have hz1 := hb1.size; have B0 : w1.heap[w.heap.size]? = some _ := kb_below hb1 (by (repeat (with_reducible (first | assumption | (apply kb_new; (focus (simp; done))) | apply kb_alloc | apply kb_drew | apply kb_drewN | apply kb_set | (apply kb_far; (focus (first | (simp; done) | (simp; omega)))))))); have c0 := kb_cell B0; have B1 : w1.heap[w.heap.size + 1]? = some _ := kb_below hb1 (by (repeat (with_reducible (first | assumption | (apply kb_new; (focus (simp; done))) | apply kb_alloc | apply kb_drew | apply kb_drewN | apply kb_set | (apply kb_far; (focus (first | (simp; done) | (simp; omega)))))))); have c1 := kb_cell B1)
  go_ret
  exact ⟨rfl, by (repeat (with_reducible (first | exact Below.refl _ _ | assumption | refine bl_alloc ?_ _ | refine bl_drew ?_ | refine bl_drewN ?_ _ | (refine bl_set ?_ ?_ _; (focus (first | (simp; done) | (simp; omega) | omega))) | refine bl_then ?_ (by assumption))))⟩

set_option maxHeartbeats 400000 in
theorem check_arg (p d n m : Int) (w : World) (h1 : fineB p 1 1099511627776 = true) (h2 : fineB d 0 1099511627776 = true) (h3 : fineB m 1 100 = true) (h4 : fineB n 1 m = true) (h5 : 3 * n < m) :
    Calls Try.prog 41 #[.agg #[.int .i64 p, .int .i64 d, .int .i64 n, .int .i64 m]] w fun e w' => e = .returned (.int .i64 2) ∧ Below w.heap.size w w' := by
  obtain ⟨b3a, b3b⟩ := fineB_iff.1 h3
  obtain ⟨b4a, b4b⟩ := fineB_iff.1 h4
  go_enter Try.func41, Try.ntmps41
  go_wp2
  refine wp_loop_rounds 5 ?_
  rw [rounds_succ]
  go_wp2_with (go_at_call 64; (with_reducible refine (fine_any _ _ _ _).mono ?_); rintro e w1 ⟨rfl, hb1⟩; have hz1 := hb1.size; have B0 : w1.heap[w.heap.size]? = some _ := kb_below hb1 (by (repeat (with_reducible (first | assumption | (apply kb_new; (focus (simp; done))) | apply kb_alloc | apply kb_drew | apply kb_drewN | apply kb_set | (apply kb_far; (focus (first | (simp; done) | (simp; omega)))))))); have c0 := kb_cell B0; have B1 : w1.heap[w.heap.size + 1]? = some _ := kb_below hb1 (by (repeat (with_reducible (first | assumption | (apply kb_new; (focus (simp; done))) | apply kb_alloc | apply kb_drew | apply kb_drewN | apply kb_set | (apply kb_far; (focus (first | (simp; done) | (simp; omega)))))))); have c1 := kb_cell B1)
  rw [rounds_succ]
  go_wp2_with (go_at_call 64; (with_reducible refine (fine_any _ _ _ _).mono ?_); rintro e w1 ⟨rfl, hb1⟩; have hz1 := hb1.size; have B0 : w1.heap[w.heap.size]? = some _ := kb_below hb1 (by (repeat (with_reducible (first | assumption | (apply kb_new; (focus (simp; done))) | apply kb_alloc | apply kb_drew | apply kb_drewN | apply kb_set | (apply kb_far; (focus (first | (simp; done) | (simp; omega)))))))); have c0 := kb_cell B0; have B1 : w1.heap[w.heap.size + 1]? = some _ := kb_below hb1 (by (repeat (with_reducible (first | assumption | (apply kb_new; (focus (simp; done))) | apply kb_alloc | apply kb_drew | apply kb_drewN | apply kb_set | (apply kb_far; (focus (first | (simp; done) | (simp; omega)))))))); have c1 := kb_cell B1)
  rw [rounds_succ]
  go_wp2_with (go_at_call 64; (with_reducible refine (fine_any _ _ _ _).mono ?_); rintro e w1 ⟨rfl, hb1⟩; have hz1 := hb1.size; have B0 : w1.heap[w.heap.size]? = some _ := kb_below hb1 (by (repeat (with_reducible (first | assumption | (apply kb_new; (focus (simp; done))) | apply kb_alloc | apply kb_drew | apply kb_drewN | apply kb_set | (apply kb_far; (focus (first | (simp; done) | (simp; omega)))))))); have c0 := kb_cell B0; have B1 : w1.heap[w.heap.size + 1]? = some _ := kb_below hb1 (by (repeat (with_reducible (first | assumption | (apply kb_new; (focus (simp; done))) | apply kb_alloc | apply kb_drew | apply kb_drewN | apply kb_set | (apply kb_far; (focus (first | (simp; done) | (simp; omega)))))))); have c1 := kb_cell B1)
  rw [rounds_succ]
  go_wp2_with (go_at_call 64; (with_reducible refine (fine_any _ _ _ _).mono ?_); rintro e w1 ⟨rfl, hb1⟩; have hz1 := hb1.size; have B0 : w1.heap[w.heap.size]? = some _ := kb_below hb1 (by (repeat (with_reducible (first | assumption | (apply kb_new; (focus (simp; done))) | apply kb_alloc | apply kb_drew | apply kb_drewN | apply kb_set | (apply kb_far; (focus (first | (simp; done) | (simp; omega)))))))); have c0 := kb_cell B0; have B1 : w1.heap[w.heap.size + 1]? = some _ := kb_below hb1 (by (repeat (with_reducible (first | assumption | (apply kb_new; (focus (simp; done))) | apply kb_alloc | apply kb_drew | apply kb_drewN | apply kb_set | (apply kb_far; (focus (first | (simp; done) | (simp; omega)))))))); have c1 := kb_cell B1)
  rw [rounds_succ]
  go_wp2_with (go_at_call 64; (with_reducible refine (fine_any _ _ _ _).mono ?_); rintro e w1 ⟨rfl, hb1⟩; have hz1 := hb1.size; have B0 : w1.heap[w.heap.size]? = some _ := kb_below hb1 (by (repeat (with_reducible (first | assumption | (apply kb_new; (focus (simp; done))) | apply kb_alloc | apply kb_drew | apply kb_drewN | apply kb_set | (apply kb_far; (focus (first | (simp; done) | (simp; omega)))))))); have c0 := kb_cell B0; have B1 : w1.heap[w.heap.size + 1]? = some _ := kb_below hb1 (by (repeat (with_reducible (first | assumption | (apply kb_new; (focus (simp; done))) | apply kb_alloc | apply kb_drew | apply kb_drewN | apply kb_set | (apply kb_far; (focus (first | (simp; done) | (simp; omega)))))))); have c1 := kb_cell B1)
  go_ret
  exact ⟨rfl, by (repeat (with_reducible (first | exact Below.refl _ _ | assumption | refine bl_alloc ?_ _ | refine bl_drew ?_ | refine bl_drewN ?_ _ | (refine bl_set ?_ ?_ _; (focus (first | (simp; done) | (simp; omega) | omega))) | refine bl_then ?_ (by assumption))))⟩

set_option maxHeartbeats 400000 in
theorem check_ok (p d n m : Int) (w : World) (h1 : fineB p 1 1099511627776 = true) (h2 : fineB d 0 1099511627776 = true) (h3 : fineB m 1 100 = true) (h4 : fineB n 1 m = true) (h5 : m ≤ 3 * n) :
    Calls Try.prog 41 #[.agg #[.int .i64 p, .int .i64 d, .int .i64 n, .int .i64 m]] w fun e w' => e = .returned (.int .i64 0) ∧ Below w.heap.size w w' := by
  obtain ⟨b3a, b3b⟩ := fineB_iff.1 h3
  obtain ⟨b4a, b4b⟩ := fineB_iff.1 h4
  go_enter Try.func41, Try.ntmps41
  go_wp2
  refine wp_loop_rounds 5 ?_
  rw [rounds_succ]
  go_wp2_with (go_at_call 64; (with_reducible refine (fine_any _ _ _ _).mono ?_); rintro e w1 ⟨rfl, hb1⟩; have hz1 := hb1.size; have B0 : w1.heap[w.heap.size]? = some _ := kb_below hb1 (by (repeat (with_reducible (first | assumption | (apply kb_new; (focus (simp; done))) | apply kb_alloc | apply kb_drew | apply kb_drewN | apply kb_set | (apply kb_far; (focus (first | (simp; done) | (simp; omega)))))))); have c0 := kb_cell B0; have B1 : w1.heap[w.heap.size + 1]? = some _ := kb_below hb1 (by (repeat (with_reducible (first | assumption | (apply kb_new; (focus (simp; done))) | apply kb_alloc | apply kb_drew | apply kb_drewN | apply kb_set | (apply kb_far; (focus (first | (simp; done) | (simp; omega)))))))); have c1 := kb_cell B1)
  rw [rounds_succ]
  go_wp2_with (go_at_call 64; (with_reducible refine (fine_any _ _ _ _).mono ?_); rintro e w1 ⟨rfl, hb1⟩; have hz1 := hb1.size; have B0 : w1.heap[w.heap.size]? = some _ := kb_below hb1 (by (repeat (with_reducible (first | assumption | (apply kb_new; (focus (simp; done))) | apply kb_alloc | apply kb_drew | apply kb_drewN | apply kb_set | (apply kb_far; (focus (first | (simp; done) | (simp; omega)))))))); have c0 := kb_cell B0; have B1 : w1.heap[w.heap.size + 1]? = some _ := kb_below hb1 (by (repeat (with_reducible (first | assumption | (apply kb_new; (focus (simp; done))) | apply kb_alloc | apply kb_drew | apply kb_drewN | apply kb_set | (apply kb_far; (focus (first | (simp; done) | (simp; omega)))))))); have c1 := kb_cell B1)
  rw [rounds_succ]
  go_wp2_with (go_at_call 64; (with_reducible refine (fine_any _ _ _ _).mono ?_); rintro e w1 ⟨rfl, hb1⟩; have hz1 := hb1.size; have B0 : w1.heap[w.heap.size]? = some _ := kb_below hb1 (by (repeat (with_reducible (first | assumption | (apply kb_new; (focus (simp; done))) | apply kb_alloc | apply kb_drew | apply kb_drewN | apply kb_set | (apply kb_far; (focus (first | (simp; done) | (simp; omega)))))))); have c0 := kb_cell B0; have B1 : w1.heap[w.heap.size + 1]? = some _ := kb_below hb1 (by (repeat (with_reducible (first | assumption | (apply kb_new; (focus (simp; done))) | apply kb_alloc | apply kb_drew | apply kb_drewN | apply kb_set | (apply kb_far; (focus (first | (simp; done) | (simp; omega)))))))); have c1 := kb_cell B1)
  rw [rounds_succ]
  go_wp2_with (go_at_call 64; (with_reducible refine (fine_any _ _ _ _).mono ?_); rintro e w1 ⟨rfl, hb1⟩; have hz1 := hb1.size; have B0 : w1.heap[w.heap.size]? = some _ := kb_below hb1 (by (repeat (with_reducible (first | assumption | (apply kb_new; (focus (simp; done))) | apply kb_alloc | apply kb_drew | apply kb_drewN | apply kb_set | (apply kb_far; (focus (first | (simp; done) | (simp; omega)))))))); have c0 := kb_cell B0; have B1 : w1.heap[w.heap.size + 1]? = some _ := kb_below hb1 (by (repeat (with_reducible (first | assumption | (apply kb_new; (focus (simp; done))) | apply kb_alloc | apply kb_drew | apply kb_drewN | apply kb_set | (apply kb_far; (focus (first | (simp; done) | (simp; omega)))))))); have c1 := kb_cell B1)
  rw [rounds_succ]
  go_wp2_with (go_at_call 64; (with_reducible refine (fine_any _ _ _ _).mono ?_); rintro e w1 ⟨rfl, hb1⟩; have hz1 := hb1.size; have B0 : w1.heap[w.heap.size]? = some _ := kb_below hb1 (by (repeat (with_reducible (first | assumption | (apply kb_new; (focus (simp; done))) | apply kb_alloc | apply kb_drew | apply kb_drewN | apply kb_set | (apply kb_far; (focus (first | (simp; done) | (simp; omega)))))))); have c0 := kb_cell B0; have B1 : w1.heap[w.heap.size + 1]? = some _ := kb_below hb1 (by (repeat (with_reducible (first | assumption | (apply kb_new; (focus (simp; done))) | apply kb_alloc | apply kb_drew | apply kb_drewN | apply kb_set | (apply kb_far; (focus (first | (simp; done) | (simp; omega)))))))); have c1 := kb_cell B1)
  go_ret
  exact ⟨rfl, by (repeat (with_reducible (first | exact Below.refl _ _ | assumption | refine bl_alloc ?_ _ | refine bl_drew ?_ | refine bl_drewN ?_ _ | (refine bl_set ?_ ?_ _; (focus (first | (simp; done) | (simp; omega) | omega))) | refine bl_then ?_ (by assumption))))⟩

theorem check_any (p d n m : Int) (w : World) :
    Calls Try.prog 41 #[.agg #[.int .i64 p, .int .i64 d, .int .i64 n, .int .i64 m]] w fun e w' => e = .returned (.int .i64 (chkT p d n m)) ∧ Below w.heap.size w w' := by
  unfold chkT saneB
  cases h1 : fineB p 1 1099511627776
  · exact check_no1 p d n m w h1
  cases h2 : fineB d 0 1099511627776
  · exact check_no2 p d n m w h1 h2
  cases h3 : fineB m 1 100
  · exact check_no3 p d n m w h1 h2 h3
  cases h4 : fineB n 1 m
  · exact check_no4 p d n m w h1 h2 h3 h4
  by_cases h5 : 3 * n < m
  · simp only [Bool.and_self, if_true, h5]
    exact check_arg p d n m w h1 h2 h3 h4 h5
  · simp only [Bool.and_self, if_true, h5, if_false]
    exact check_ok p d n m w h1 h2 h3 h4 (by omega)

set_option maxHeartbeats 400000 in
theorem rCheck_no (p d n m : Int) (w : World) (hs : saneB p d n m = false) :
    Calls Try.prog 42 #[.agg #[.int .i64 p, .int .i64 d, .int .i64 n, .int .i64 m]] w fun e w' => e = .returned (.int .i64 3) ∧ Below w.heap.size w w' := by
  simp only [saneB, Bool.and_eq_false_iff] at hs
  rcases hs with ((h1 | h2) | h3) | h4
  all_goals
    go_enter Try.func42, Try.ntmps42
    go_wp2_with (go_at_call 65; (with_reducible refine (within_any _ _ _ _).mono ?_); rintro e w1 ⟨rfl, rfl⟩)
    all_goals
      go_ret
      exact ⟨rfl, by (repeat (with_reducible (first | exact Below.refl _ _ | assumption | refine bl_alloc ?_ _ | refine bl_drew ?_ | refine bl_drewN ?_ _ | (refine bl_set ?_ ?_ _; (focus (first | (simp; done) | (simp; omega) | omega))) | refine bl_then ?_ (by assumption))))⟩

set_option maxHeartbeats 400000 in
theorem rCheck_yes (p d n m : Int) (w : World) (hs : saneB p d n m = true) :
    Calls Try.prog 42 #[.agg #[.int .i64 p, .int .i64 d, .int .i64 n, .int .i64 m]] w fun e w' => e = .returned (.int .i64 (if 3 * n < m then 2 else 0)) ∧ Below w.heap.size w w' := by
  simp only [saneB, Bool.and_eq_true] at hs
  obtain ⟨⟨⟨h1, h2⟩, h3⟩, h4⟩ := hs
  obtain ⟨b3a, b3b⟩ := fineB_iff.1 h3
  obtain ⟨b4a, b4b⟩ := fineB_iff.1 h4
  by_cases h5 : 3 * n < m
  all_goals
    go_enter Try.func42, Try.ntmps42
    go_wp2_with (go_at_call 65; (with_reducible refine (within_any _ _ _ _).mono ?_); rintro e w1 ⟨rfl, rfl⟩)
    go_ret
    exact ⟨by simp, by (repeat (with_reducible (first | exact Below.refl _ _ | assumption | refine bl_alloc ?_ _ | refine bl_drew ?_ | refine bl_drewN ?_ _ | (refine bl_set ?_ ?_ _; (focus (first | (simp; done) | (simp; omega) | omega))) | refine bl_then ?_ (by assumption))))⟩

theorem rCheck_any (p d n m : Int) (w : World) :
    Calls Try.prog 42 #[.agg #[.int .i64 p, .int .i64 d, .int .i64 n, .int .i64 m]] w fun e w' => e = .returned (.int .i64 (chkT p d n m)) ∧ Below w.heap.size w w' := by
  unfold chkT
  cases hs : saneB p d n m
  · exact rCheck_no p d n m w hs
  · simp only [if_true]
    exact rCheck_yes p d n m w hs

end Go.Proofs.Ytocibljkmgffeaa
