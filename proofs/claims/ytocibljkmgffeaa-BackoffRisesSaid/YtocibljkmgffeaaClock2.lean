/- The walks of package clock and of its reference, second part: asked, Expired, Ahead, Look, Later. -/
import Derived.Test.YtocibljkmgffeaaClock
namespace Go.Proofs.Ytocibljkmgffeaa
open Go.RowKit Go.Proofs.Ytocibljkmgffeaa.Ck
attribute [local go_sem] cell_alloc_some frozen_alloc_some

theorem ne_bne {a b : Int} (h : ¬ a = b) : (a != b) = true := by simp [h]
theorem ne_beq {a b : Int} (h : ¬ a = b) : (a == b) = false := by simp [h]

set_option maxHeartbeats 400000 in
theorem asked_any (t a p d n m : Int) (w : World) :
    Calls Try.prog 56 #[.int .i64 t, .int .i64 a, .agg #[.int .i64 p, .int .i64 d, .int .i64 n, .int .i64 m]] w fun e w' => e = .returned (.int .i64 (askT t a p d n m)) ∧ Below w.heap.size w w' := by
  by_cases hc : chkT p d n m = 0
  · have h0 : askT t a p d n m = if timeB t && timeB a then 0 else 3 := by simp [askT, hc]
    rw [h0]
    clear h0
    cases ht : timeB t <;> cases ha : timeB a
    all_goals
      go_enter Try.func56, Try.ntmps56
      go_wp2_with (first | (go_at_call 41; (with_reducible refine (check_any _ _ _ _ _).mono ?_); rintro e w1 ⟨rfl, hb1⟩; have hz1 := hb1.size; have B0 : w1.heap[w.heap.size]? = some _ := kb_below hb1 (by (repeat (with_reducible (first | assumption | (apply kb_new; (focus (simp; done))) | apply kb_alloc | apply kb_drew | apply kb_drewN | apply kb_set | (apply kb_far; (focus (first | (simp; done) | (simp; omega)))))))); have c0 := kb_cell B0) | (go_at_call 54; (with_reducible refine (is_any _ _).mono ?_); rintro e w1 ⟨rfl, hb1⟩; have hz1 := hb1.size; have B0 : w1.heap[w.heap.size]? = some _ := kb_below hb1 (by (repeat (with_reducible (first | assumption | (apply kb_new; (focus (simp; done))) | apply kb_alloc | apply kb_drew | apply kb_drewN | apply kb_set | (apply kb_far; (focus (first | (simp; done) | (simp; omega)))))))); have c0 := kb_cell B0))
      go_ret
      exact ⟨rfl, by (repeat (with_reducible (first | exact Below.refl _ _ | assumption | refine bl_alloc ?_ _ | refine bl_drew ?_ | refine bl_drewN ?_ _ | (refine bl_set ?_ ?_ _; (focus (first | (simp; done) | (simp; omega) | omega))) | refine bl_then ?_ (by assumption))))⟩
  · have h0 : askT t a p d n m = chkT p d n m := by simp [askT, hc]
    rw [h0]
    have hb := ne_bne hc
    clear h0 hc
    go_enter Try.func56, Try.ntmps56
    go_wp2_with (first | (go_at_call 41; (with_reducible refine (check_any _ _ _ _ _).mono ?_); rintro e w1 ⟨rfl, hb1⟩; have hz1 := hb1.size; have B0 : w1.heap[w.heap.size]? = some _ := kb_below hb1 (by (repeat (with_reducible (first | assumption | (apply kb_new; (focus (simp; done))) | apply kb_alloc | apply kb_drew | apply kb_drewN | apply kb_set | (apply kb_far; (focus (first | (simp; done) | (simp; omega)))))))); have c0 := kb_cell B0) | (go_at_call 54; (with_reducible refine (is_any _ _).mono ?_); rintro e w1 ⟨rfl, hb1⟩; have hz1 := hb1.size; have B0 : w1.heap[w.heap.size]? = some _ := kb_below hb1 (by (repeat (with_reducible (first | assumption | (apply kb_new; (focus (simp; done))) | apply kb_alloc | apply kb_drew | apply kb_drewN | apply kb_set | (apply kb_far; (focus (first | (simp; done) | (simp; omega)))))))); have c0 := kb_cell B0))
    go_ret
    exact ⟨rfl, by (repeat (with_reducible (first | exact Below.refl _ _ | assumption | refine bl_alloc ?_ _ | refine bl_drew ?_ | refine bl_drewN ?_ _ | (refine bl_set ?_ ?_ _; (focus (first | (simp; done) | (simp; omega) | omega))) | refine bl_then ?_ (by assumption))))⟩

set_option maxHeartbeats 400000 in
theorem may_any (t a p d n m : Int) (w : World) :
    Calls Try.prog 62 #[.int .i64 t, .int .i64 a, .agg #[.int .i64 p, .int .i64 d, .int .i64 n, .int .i64 m]] w fun e w' => e = .returned (.int .i64 (askT t a p d n m)) ∧ Below w.heap.size w w' := by
  by_cases hc : chkT p d n m = 0
  · have h0 : askT t a p d n m = if timeB t && timeB a then 0 else 3 := by simp [askT, hc]
    rw [h0]
    clear h0
    cases ht : timeB t <;> cases ha : timeB a
    all_goals
      go_enter Try.func62, Try.ntmps62
      go_wp2_with (first | (go_at_call 42; (with_reducible refine (rCheck_any _ _ _ _ _).mono ?_); rintro e w1 ⟨rfl, hb1⟩; have hz1 := hb1.size; have B0 : w1.heap[w.heap.size]? = some _ := kb_below hb1 (by (repeat (with_reducible (first | assumption | (apply kb_new; (focus (simp; done))) | apply kb_alloc | apply kb_drew | apply kb_drewN | apply kb_set | (apply kb_far; (focus (first | (simp; done) | (simp; omega)))))))); have c0 := kb_cell B0) | (go_at_call 55; (with_reducible refine (rTime_any _ _).mono ?_); rintro e w1 ⟨rfl, rfl⟩))
      go_ret
      exact ⟨rfl, by (repeat (with_reducible (first | exact Below.refl _ _ | assumption | refine bl_alloc ?_ _ | refine bl_drew ?_ | refine bl_drewN ?_ _ | (refine bl_set ?_ ?_ _; (focus (first | (simp; done) | (simp; omega) | omega))) | refine bl_then ?_ (by assumption))))⟩
  · have h0 : askT t a p d n m = chkT p d n m := by simp [askT, hc]
    rw [h0]
    have hb := ne_beq hc
    clear h0 hc
    go_enter Try.func62, Try.ntmps62
    go_wp2_with (first | (go_at_call 42; (with_reducible refine (rCheck_any _ _ _ _ _).mono ?_); rintro e w1 ⟨rfl, hb1⟩; have hz1 := hb1.size; have B0 : w1.heap[w.heap.size]? = some _ := kb_below hb1 (by (repeat (with_reducible (first | assumption | (apply kb_new; (focus (simp; done))) | apply kb_alloc | apply kb_drew | apply kb_drewN | apply kb_set | (apply kb_far; (focus (first | (simp; done) | (simp; omega)))))))); have c0 := kb_cell B0) | (go_at_call 55; (with_reducible refine (rTime_any _ _).mono ?_); rintro e w1 ⟨rfl, rfl⟩))
    go_ret
    exact ⟨rfl, by (repeat (with_reducible (first | exact Below.refl _ _ | assumption | refine bl_alloc ?_ _ | refine bl_drew ?_ | refine bl_drewN ?_ _ | (refine bl_set ?_ ?_ _; (focus (first | (simp; done) | (simp; omega) | omega))) | refine bl_then ?_ (by assumption))))⟩

set_option maxHeartbeats 400000 in
theorem expires_any (a t p d n m : Int) (w : World) (h1 : 0 ≤ t) (h2 : t ≤ 1099511627776) (h3 : 1 ≤ p) (h4 : p ≤ 1099511627776) :
    Calls Try.prog 60 #[.int .i64 a, .int .i64 t, .agg #[.int .i64 p, .int .i64 d, .int .i64 n, .int .i64 m]] w fun e w' => e = .returned (.bool (expB a t p)) ∧ Below w.heap.size w w' := by
  go_enter Try.func60, Try.ntmps60
  go_wp2
  go_ret
  exact ⟨rfl, by (repeat (with_reducible (first | exact Below.refl _ _ | assumption | refine bl_alloc ?_ _ | refine bl_drew ?_ | refine bl_drewN ?_ _ | (refine bl_set ?_ ?_ _; (focus (first | (simp; done) | (simp; omega) | omega))) | refine bl_then ?_ (by assumption))))⟩

set_option maxHeartbeats 400000 in
theorem ahead_any (a t p d n m : Int) (w : World) (h1 : 0 ≤ a) (h2 : a ≤ 1099511627777) (h3 : 0 ≤ d) (h4 : d ≤ 1099511627776) :
    Calls Try.prog 58 #[.int .i64 a, .int .i64 t, .agg #[.int .i64 p, .int .i64 d, .int .i64 n, .int .i64 m]] w fun e w' => e = .returned (.bool (aheadB a t d)) ∧ Below w.heap.size w w' := by
  have hm1 : 1 ≤ max d 1 := by omega
  have hm2 : max d 1 ≤ 1099511627776 := by omega
  go_enter Try.func58, Try.ntmps58
  go_wp2
  all_goals
    go_ret
    refine ⟨ret_bool ?_, by (repeat (with_reducible (first | exact Below.refl _ _ | assumption | refine bl_alloc ?_ _ | refine bl_drew ?_ | refine bl_drewN ?_ _ | (refine bl_set ?_ ?_ _; (focus (first | (simp; done) | (simp; omega) | omega))) | refine bl_then ?_ (by assumption))))⟩
    rw [aheadB, decide_eq_decide]
    omega

/-- What 'Expired' answers. -/
def expdB (t a p d n m : Int) : Bool := decide (askT t a p d n m = 0) && expB a t p
def ahdB (t a p d n m : Int) : Bool := decide (askT t a p d n m = 0) && aheadB a t d

set_option maxHeartbeats 400000 in
theorem Expired_any (t a p d n m : Int) (w : World) :
    Calls Try.prog 35 #[.int .i64 t, .int .i64 a, .agg #[.int .i64 p, .int .i64 d, .int .i64 n, .int .i64 m]] w fun e w' => e = .returned (.tuple #[.bool (expdB t a p d n m), .int .i64 (askT t a p d n m)]) ∧ Below w.heap.size w w' := by
  by_cases hc : askT t a p d n m = 0
  · obtain ⟨hk, t1, t2, a1, a2⟩ := ask_bounds hc
    obtain ⟨p1, p2, _⟩ := chk_bounds hk
    have h0 : expdB t a p d n m = expB a t p := by simp [expdB, hc]
    rw [h0, hc]
    clear h0 hk
    go_enter Try.func35, Try.ntmps35
    go_wp2_with (first | (go_at_call 56; (with_reducible refine (asked_any _ _ _ _ _ _ _).mono ?_); rintro e w1 ⟨rfl, hb1⟩; have hz1 := hb1.size; have B0 : w1.heap[w.heap.size]? = some _ := kb_below hb1 (by (repeat (with_reducible (first | assumption | (apply kb_new; (focus (simp; done))) | apply kb_alloc | apply kb_drew | apply kb_drewN | apply kb_set | (apply kb_far; (focus (first | (simp; done) | (simp; omega)))))))); have c0 := kb_cell B0) | (go_at_call 60; (with_reducible refine (expires_any _ _ _ _ _ _ _ t1 t2 p1 p2).mono ?_); rintro e w1 ⟨rfl, hb1⟩; have hz1 := hb1.size; have B0 : w1.heap[w.heap.size]? = some _ := kb_below hb1 (by (repeat (with_reducible (first | assumption | (apply kb_new; (focus (simp; done))) | apply kb_alloc | apply kb_drew | apply kb_drewN | apply kb_set | (apply kb_far; (focus (first | (simp; done) | (simp; omega)))))))); have c0 := kb_cell B0))
    go_ret2
    exact ⟨rfl, by (repeat (with_reducible (first | exact Below.refl _ _ | assumption | refine bl_alloc ?_ _ | refine bl_drew ?_ | refine bl_drewN ?_ _ | (refine bl_set ?_ ?_ _; (focus (first | (simp; done) | (simp; omega) | omega))) | refine bl_then ?_ (by assumption))))⟩
  · have h0 : expdB t a p d n m = false := by simp [expdB, hc]
    rw [h0]
    have hb := ne_beq hc
    clear h0 hc
    go_enter Try.func35, Try.ntmps35
    go_wp2_with (first | (go_at_call 56; (with_reducible refine (asked_any _ _ _ _ _ _ _).mono ?_); rintro e w1 ⟨rfl, hb1⟩; have hz1 := hb1.size; have B0 : w1.heap[w.heap.size]? = some _ := kb_below hb1 (by (repeat (with_reducible (first | assumption | (apply kb_new; (focus (simp; done))) | apply kb_alloc | apply kb_drew | apply kb_drewN | apply kb_set | (apply kb_far; (focus (first | (simp; done) | (simp; omega)))))))); have c0 := kb_cell B0))
    go_ret2
    exact ⟨rfl, by (repeat (with_reducible (first | exact Below.refl _ _ | assumption | refine bl_alloc ?_ _ | refine bl_drew ?_ | refine bl_drewN ?_ _ | (refine bl_set ?_ ?_ _; (focus (first | (simp; done) | (simp; omega) | omega))) | refine bl_then ?_ (by assumption))))⟩

set_option maxHeartbeats 400000 in
theorem Ahead_any (t a p d n m : Int) (w : World) :
    Calls Try.prog 37 #[.int .i64 t, .int .i64 a, .agg #[.int .i64 p, .int .i64 d, .int .i64 n, .int .i64 m]] w fun e w' => e = .returned (.tuple #[.bool (ahdB t a p d n m), .int .i64 (askT t a p d n m)]) ∧ Below w.heap.size w w' := by
  by_cases hc : askT t a p d n m = 0
  · obtain ⟨hk, t1, t2, a1, a2⟩ := ask_bounds hc
    obtain ⟨p1, p2, d1, d2, _⟩ := chk_bounds hk
    have h0 : ahdB t a p d n m = aheadB a t d := by simp [ahdB, hc]
    have a3 : a ≤ 1099511627777 := by omega
    rw [h0, hc]
    clear h0 hk
    go_enter Try.func37, Try.ntmps37
    go_wp2_with (first | (go_at_call 56; (with_reducible refine (asked_any _ _ _ _ _ _ _).mono ?_); rintro e w1 ⟨rfl, hb1⟩; have hz1 := hb1.size; have B0 : w1.heap[w.heap.size]? = some _ := kb_below hb1 (by (repeat (with_reducible (first | assumption | (apply kb_new; (focus (simp; done))) | apply kb_alloc | apply kb_drew | apply kb_drewN | apply kb_set | (apply kb_far; (focus (first | (simp; done) | (simp; omega)))))))); have c0 := kb_cell B0) | (go_at_call 58; (with_reducible refine (ahead_any _ _ _ _ _ _ _ a1 a3 d1 d2).mono ?_); rintro e w1 ⟨rfl, hb1⟩; have hz1 := hb1.size; have B0 : w1.heap[w.heap.size]? = some _ := kb_below hb1 (by (repeat (with_reducible (first | assumption | (apply kb_new; (focus (simp; done))) | apply kb_alloc | apply kb_drew | apply kb_drewN | apply kb_set | (apply kb_far; (focus (first | (simp; done) | (simp; omega)))))))); have c0 := kb_cell B0))
    go_ret2
    exact ⟨rfl, by (repeat (with_reducible (first | exact Below.refl _ _ | assumption | refine bl_alloc ?_ _ | refine bl_drew ?_ | refine bl_drewN ?_ _ | (refine bl_set ?_ ?_ _; (focus (first | (simp; done) | (simp; omega) | omega))) | refine bl_then ?_ (by assumption))))⟩
  · have h0 : ahdB t a p d n m = false := by simp [ahdB, hc]
    rw [h0]
    have hb := ne_beq hc
    clear h0 hc
    go_enter Try.func37, Try.ntmps37
    go_wp2_with (first | (go_at_call 56; (with_reducible refine (asked_any _ _ _ _ _ _ _).mono ?_); rintro e w1 ⟨rfl, hb1⟩; have hz1 := hb1.size; have B0 : w1.heap[w.heap.size]? = some _ := kb_below hb1 (by (repeat (with_reducible (first | assumption | (apply kb_new; (focus (simp; done))) | apply kb_alloc | apply kb_drew | apply kb_drewN | apply kb_set | (apply kb_far; (focus (first | (simp; done) | (simp; omega)))))))); have c0 := kb_cell B0))
    go_ret2
    exact ⟨rfl, by (repeat (with_reducible (first | exact Below.refl _ _ | assumption | refine bl_alloc ?_ _ | refine bl_drew ?_ | refine bl_drewN ?_ _ | (refine bl_set ?_ ?_ _; (focus (first | (simp; done) | (simp; omega) | omega))) | refine bl_then ?_ (by assumption))))⟩

set_option maxHeartbeats 400000 in
theorem Look_any (t a p d n m : Int) (w : World) :
    Calls Try.prog 39 #[.int .i64 t, .int .i64 a, .agg #[.int .i64 p, .int .i64 d, .int .i64 n, .int .i64 m]] w fun e w' => e = .returned (.int .i64 (lookT t a p d n m)) ∧ Below w.heap.size w w' := by
  by_cases hc : askT t a p d n m = 0
  · obtain ⟨hk, t1, t2, a1, a2⟩ := ask_bounds hc
    obtain ⟨p1, p2, d1, d2, _⟩ := chk_bounds hk
    have h0 : lookT t a p d n m = if expB a t p then 16 else if aheadB a t d then 17 else 0 := by simp [lookT, hc]
    have a3 : a ≤ 1099511627777 := by omega
    rw [h0]
    clear h0 hk
    cases hx : expB a t p <;> cases hy : aheadB a t d
    all_goals
      go_enter Try.func39, Try.ntmps39
      go_wp2_with (first | (go_at_call 56; (with_reducible refine (asked_any _ _ _ _ _ _ _).mono ?_); rintro e w1 ⟨rfl, hb1⟩; have hz1 := hb1.size; have B0 : w1.heap[w.heap.size]? = some _ := kb_below hb1 (by (repeat (with_reducible (first | assumption | (apply kb_new; (focus (simp; done))) | apply kb_alloc | apply kb_drew | apply kb_drewN | apply kb_set | (apply kb_far; (focus (first | (simp; done) | (simp; omega)))))))); have c0 := kb_cell B0) | (go_at_call 60; (with_reducible refine (expires_any _ _ _ _ _ _ _ t1 t2 p1 p2).mono ?_); rintro e w1 ⟨rfl, hb1⟩; have hz1 := hb1.size; have B0 : w1.heap[w.heap.size]? = some _ := kb_below hb1 (by (repeat (with_reducible (first | assumption | (apply kb_new; (focus (simp; done))) | apply kb_alloc | apply kb_drew | apply kb_drewN | apply kb_set | (apply kb_far; (focus (first | (simp; done) | (simp; omega)))))))); have c0 := kb_cell B0) | (go_at_call 58; (with_reducible refine (ahead_any _ _ _ _ _ _ _ a1 a3 d1 d2).mono ?_); rintro e w1 ⟨rfl, hb1⟩; have hz1 := hb1.size; have B0 : w1.heap[w.heap.size]? = some _ := kb_below hb1 (by (repeat (with_reducible (first | assumption | (apply kb_new; (focus (simp; done))) | apply kb_alloc | apply kb_drew | apply kb_drewN | apply kb_set | (apply kb_far; (focus (first | (simp; done) | (simp; omega)))))))); have c0 := kb_cell B0))
      go_ret
      exact ⟨rfl, by (repeat (with_reducible (first | exact Below.refl _ _ | assumption | refine bl_alloc ?_ _ | refine bl_drew ?_ | refine bl_drewN ?_ _ | (refine bl_set ?_ ?_ _; (focus (first | (simp; done) | (simp; omega) | omega))) | refine bl_then ?_ (by assumption))))⟩
  · have h0 : lookT t a p d n m = askT t a p d n m := by simp [lookT, hc]
    rw [h0]
    have hb := ne_bne hc
    clear h0 hc
    go_enter Try.func39, Try.ntmps39
    go_wp2_with (first | (go_at_call 56; (with_reducible refine (asked_any _ _ _ _ _ _ _).mono ?_); rintro e w1 ⟨rfl, hb1⟩; have hz1 := hb1.size; have B0 : w1.heap[w.heap.size]? = some _ := kb_below hb1 (by (repeat (with_reducible (first | assumption | (apply kb_new; (focus (simp; done))) | apply kb_alloc | apply kb_drew | apply kb_drewN | apply kb_set | (apply kb_far; (focus (first | (simp; done) | (simp; omega)))))))); have c0 := kb_cell B0))
    go_ret
    exact ⟨rfl, by (repeat (with_reducible (first | exact Below.refl _ _ | assumption | refine bl_alloc ?_ _ | refine bl_drew ?_ | refine bl_drewN ?_ _ | (refine bl_set ?_ ?_ _; (focus (first | (simp; done) | (simp; omega) | omega))) | refine bl_then ?_ (by assumption))))⟩

set_option maxHeartbeats 400000 in
theorem rExpired_any (t a p d n m : Int) (w : World) :
    Calls Try.prog 36 #[.int .i64 t, .int .i64 a, .agg #[.int .i64 p, .int .i64 d, .int .i64 n, .int .i64 m]] w fun e w' => e = .returned (.tuple #[.bool (expdB t a p d n m), .int .i64 (askT t a p d n m)]) ∧ Below w.heap.size w w' := by
  by_cases hc : askT t a p d n m = 0
  · obtain ⟨hk, t1, t2, a1, a2⟩ := ask_bounds hc
    obtain ⟨p1, p2, _⟩ := chk_bounds hk
    have h0 : expdB t a p d n m = decide (t + p ≤ a) := by simp [expdB, hc, expB]
    rw [h0, hc]
    clear h0 hk
    go_enter Try.func36, Try.ntmps36
    go_wp2_with (first | (go_at_call 62; (with_reducible refine (may_any _ _ _ _ _ _ _).mono ?_); rintro e w1 ⟨rfl, hb1⟩; have hz1 := hb1.size; have B0 : w1.heap[w.heap.size]? = some _ := kb_below hb1 (by (repeat (with_reducible (first | assumption | (apply kb_new; (focus (simp; done))) | apply kb_alloc | apply kb_drew | apply kb_drewN | apply kb_set | (apply kb_far; (focus (first | (simp; done) | (simp; omega)))))))); have c0 := kb_cell B0))
    go_ret2
    exact ⟨rfl, by (repeat (with_reducible (first | exact Below.refl _ _ | assumption | refine bl_alloc ?_ _ | refine bl_drew ?_ | refine bl_drewN ?_ _ | (refine bl_set ?_ ?_ _; (focus (first | (simp; done) | (simp; omega) | omega))) | refine bl_then ?_ (by assumption))))⟩
  · have h0 : expdB t a p d n m = false := by simp [expdB, hc]
    rw [h0]
    have hb := ne_beq hc
    clear h0 hc
    go_enter Try.func36, Try.ntmps36
    go_wp2_with (first | (go_at_call 62; (with_reducible refine (may_any _ _ _ _ _ _ _).mono ?_); rintro e w1 ⟨rfl, hb1⟩; have hz1 := hb1.size; have B0 : w1.heap[w.heap.size]? = some _ := kb_below hb1 (by (repeat (with_reducible (first | assumption | (apply kb_new; (focus (simp; done))) | apply kb_alloc | apply kb_drew | apply kb_drewN | apply kb_set | (apply kb_far; (focus (first | (simp; done) | (simp; omega)))))))); have c0 := kb_cell B0))
    go_ret2
    exact ⟨rfl, by (repeat (with_reducible (first | exact Below.refl _ _ | assumption | refine bl_alloc ?_ _ | refine bl_drew ?_ | refine bl_drewN ?_ _ | (refine bl_set ?_ ?_ _; (focus (first | (simp; done) | (simp; omega) | omega))) | refine bl_then ?_ (by assumption))))⟩

set_option maxHeartbeats 400000 in
theorem rAhead_any (t a p d n m : Int) (w : World) :
    Calls Try.prog 38 #[.int .i64 t, .int .i64 a, .agg #[.int .i64 p, .int .i64 d, .int .i64 n, .int .i64 m]] w fun e w' => e = .returned (.tuple #[.bool (ahdB t a p d n m), .int .i64 (askT t a p d n m)]) ∧ Below w.heap.size w w' := by
  by_cases hc : askT t a p d n m = 0
  · obtain ⟨hk, t1, t2, a1, a2⟩ := ask_bounds hc
    obtain ⟨p1, p2, d1, d2, _⟩ := chk_bounds hk
    have h0 : ahdB t a p d n m = decide (a + max d 1 ≤ t) := by simp [ahdB, hc, aheadB]
    by_cases hd : d = 0
    · have h1 : decide (a + max d 1 ≤ t) = decide (a < t) := by rw [decide_eq_decide]; omega
      rw [h0, h1, hc]
      subst hd
      clear h0 hk h1
      go_enter Try.func38, Try.ntmps38
      go_wp2_with (first | (go_at_call 62; (with_reducible refine (may_any _ _ _ _ _ _ _).mono ?_); rintro e w1 ⟨rfl, hb1⟩; have hz1 := hb1.size; have B0 : w1.heap[w.heap.size]? = some _ := kb_below hb1 (by (repeat (with_reducible (first | assumption | (apply kb_new; (focus (simp; done))) | apply kb_alloc | apply kb_drew | apply kb_drewN | apply kb_set | (apply kb_far; (focus (first | (simp; done) | (simp; omega)))))))); have c0 := kb_cell B0))
      go_ret2
      exact ⟨rfl, by (repeat (with_reducible (first | exact Below.refl _ _ | assumption | refine bl_alloc ?_ _ | refine bl_drew ?_ | refine bl_drewN ?_ _ | (refine bl_set ?_ ?_ _; (focus (first | (simp; done) | (simp; omega) | omega))) | refine bl_then ?_ (by assumption))))⟩
    · have h1 : decide (a + max d 1 ≤ t) = decide (a + d ≤ t) := by rw [decide_eq_decide]; omega
      rw [h0, h1, hc]
      have hb := ne_beq hd
      clear h0 hk h1 hd
      go_enter Try.func38, Try.ntmps38
      go_wp2_with (first | (go_at_call 62; (with_reducible refine (may_any _ _ _ _ _ _ _).mono ?_); rintro e w1 ⟨rfl, hb1⟩; have hz1 := hb1.size; have B0 : w1.heap[w.heap.size]? = some _ := kb_below hb1 (by (repeat (with_reducible (first | assumption | (apply kb_new; (focus (simp; done))) | apply kb_alloc | apply kb_drew | apply kb_drewN | apply kb_set | (apply kb_far; (focus (first | (simp; done) | (simp; omega)))))))); have c0 := kb_cell B0))
      go_ret2
      exact ⟨rfl, by (repeat (with_reducible (first | exact Below.refl _ _ | assumption | refine bl_alloc ?_ _ | refine bl_drew ?_ | refine bl_drewN ?_ _ | (refine bl_set ?_ ?_ _; (focus (first | (simp; done) | (simp; omega) | omega))) | refine bl_then ?_ (by assumption))))⟩
  · have h0 : ahdB t a p d n m = false := by simp [ahdB, hc]
    rw [h0]
    have hb := ne_bne hc
    clear h0 hc
    go_enter Try.func38, Try.ntmps38
    go_wp2_with (first | (go_at_call 62; (with_reducible refine (may_any _ _ _ _ _ _ _).mono ?_); rintro e w1 ⟨rfl, hb1⟩; have hz1 := hb1.size; have B0 : w1.heap[w.heap.size]? = some _ := kb_below hb1 (by (repeat (with_reducible (first | assumption | (apply kb_new; (focus (simp; done))) | apply kb_alloc | apply kb_drew | apply kb_drewN | apply kb_set | (apply kb_far; (focus (first | (simp; done) | (simp; omega)))))))); have c0 := kb_cell B0))
    go_ret2
    exact ⟨rfl, by (repeat (with_reducible (first | exact Below.refl _ _ | assumption | refine bl_alloc ?_ _ | refine bl_drew ?_ | refine bl_drewN ?_ _ | (refine bl_set ?_ ?_ _; (focus (first | (simp; done) | (simp; omega) | omega))) | refine bl_then ?_ (by assumption))))⟩

set_option maxHeartbeats 400000 in
theorem rLook_any (t a p d n m : Int) (w : World) :
    Calls Try.prog 40 #[.int .i64 t, .int .i64 a, .agg #[.int .i64 p, .int .i64 d, .int .i64 n, .int .i64 m]] w fun e w' => e = .returned (.int .i64 (lookT t a p d n m)) ∧ Below w.heap.size w w' := by
  by_cases hc : askT t a p d n m = 0
  · have h0 : lookT t a p d n m = if expdB t a p d n m then 16 else if ahdB t a p d n m then 17 else 0 := by simp [lookT, expdB, ahdB, hc]
    rw [h0]
    clear h0
    cases hx : expdB t a p d n m <;> cases hy : ahdB t a p d n m
    all_goals
      go_enter Try.func40, Try.ntmps40
      go_wp2_with (first | (go_at_call 36; (with_reducible refine (rExpired_any _ _ _ _ _ _ _).mono ?_); rintro e w1 ⟨rfl, hb1⟩; have hz1 := hb1.size; have B0 : w1.heap[w.heap.size]? = some _ := kb_below hb1 (by (repeat (with_reducible (first | assumption | (apply kb_new; (focus (simp; done))) | apply kb_alloc | apply kb_drew | apply kb_drewN | apply kb_set | (apply kb_far; (focus (first | (simp; done) | (simp; omega)))))))); have c0 := kb_cell B0) | (go_at_call 38; (with_reducible refine (rAhead_any _ _ _ _ _ _ _).mono ?_); rintro e w1 ⟨rfl, hb1⟩; have hz1 := hb1.size; have B0 : w1.heap[w.heap.size]? = some _ := kb_below hb1 (by (repeat (with_reducible (first | assumption | (apply kb_new; (focus (simp; done))) | apply kb_alloc | apply kb_drew | apply kb_drewN | apply kb_set | (apply kb_far; (focus (first | (simp; done) | (simp; omega)))))))); have c0 := kb_cell B0))
      go_ret
      exact ⟨rfl, by (repeat (with_reducible (first | exact Below.refl _ _ | assumption | refine bl_alloc ?_ _ | refine bl_drew ?_ | refine bl_drewN ?_ _ | (refine bl_set ?_ ?_ _; (focus (first | (simp; done) | (simp; omega) | omega))) | refine bl_then ?_ (by assumption))))⟩
  · have h0 : lookT t a p d n m = askT t a p d n m := by simp [lookT, hc]
    rw [h0]
    have hb := ne_bne hc
    clear h0 hc
    go_enter Try.func40, Try.ntmps40
    go_wp2_with (first | (go_at_call 36; (with_reducible refine (rExpired_any _ _ _ _ _ _ _).mono ?_); rintro e w1 ⟨rfl, hb1⟩; have hz1 := hb1.size; have B0 : w1.heap[w.heap.size]? = some _ := kb_below hb1 (by (repeat (with_reducible (first | assumption | (apply kb_new; (focus (simp; done))) | apply kb_alloc | apply kb_drew | apply kb_drewN | apply kb_set | (apply kb_far; (focus (first | (simp; done) | (simp; omega)))))))); have c0 := kb_cell B0) | (go_at_call 38; (with_reducible refine (rAhead_any _ _ _ _ _ _ _).mono ?_); rintro e w1 ⟨rfl, hb1⟩; have hz1 := hb1.size; have B0 : w1.heap[w.heap.size]? = some _ := kb_below hb1 (by (repeat (with_reducible (first | assumption | (apply kb_new; (focus (simp; done))) | apply kb_alloc | apply kb_drew | apply kb_drewN | apply kb_set | (apply kb_far; (focus (first | (simp; done) | (simp; omega)))))))); have c0 := kb_cell B0))
    go_ret
    exact ⟨rfl, by (repeat (with_reducible (first | exact Below.refl _ _ | assumption | refine bl_alloc ?_ _ | refine bl_drew ?_ | refine bl_drewN ?_ _ | (refine bl_set ?_ ?_ _; (focus (first | (simp; done) | (simp; omega) | omega))) | refine bl_then ?_ (by assumption))))⟩

set_option maxHeartbeats 400000 in
theorem Later_any (a n : Int) (w : World) :
    Calls Try.prog 20 #[.int .i64 a, .int .i64 n] w fun e w' => e = .returned (.tuple #[.int .i64 (laterN a n), .int .i64 (laterE a n)]) ∧ Below w.heap.size w w' := by
  cases ha : timeB a
  · have h0 : laterN a n = 0 := by simp [laterN, ha]
    have h1 : laterE a n = 3 := by simp [laterE, ha]
    rw [h0, h1]
    clear h0 h1
    go_enter Try.func20, Try.ntmps20
    go_wp2_with (go_at_call 54; (with_reducible refine (is_any _ _).mono ?_); rintro e w1 ⟨rfl, hb1⟩; have hz1 := hb1.size)
    go_ret2
    exact ⟨rfl, by (repeat (with_reducible (first | exact Below.refl _ _ | assumption | refine bl_alloc ?_ _ | refine bl_drew ?_ | refine bl_drewN ?_ _ | (refine bl_set ?_ ?_ _; (focus (first | (simp; done) | (simp; omega) | omega))) | refine bl_then ?_ (by assumption))))⟩
  · obtain ⟨a1, a2⟩ := fineB_iff.1 ha
    by_cases hn : 0 ≤ n
    · have h0 : laterN a n = a + min n (1099511627776 - a) := by simp [laterN, ha, hn]
      have h1 : laterE a n = 0 := by simp [laterE, ha, hn]
      rw [h0, h1]
      clear h0 h1
      have m1 : 0 ≤ min n (1099511627776 - a) := by omega
      have m2 : min n (1099511627776 - a) ≤ 1099511627776 := by omega
      go_enter Try.func20, Try.ntmps20
      go_wp2_with (go_at_call 54; (with_reducible refine (is_any _ _).mono ?_); rintro e w1 ⟨rfl, hb1⟩; have hz1 := hb1.size)
      all_goals
        go_ret2
        refine ⟨ret_ii ?_ rfl, by (repeat (with_reducible (first | exact Below.refl _ _ | assumption | refine bl_alloc ?_ _ | refine bl_drew ?_ | refine bl_drewN ?_ _ | (refine bl_set ?_ ?_ _; (focus (first | (simp; done) | (simp; omega) | omega))) | refine bl_then ?_ (by assumption))))⟩
        omega
    · have h0 : laterN a n = 0 := by simp [laterN, ha, hn]
      have h1 : laterE a n = 3 := by simp [laterE, ha, hn]
      rw [h0, h1]
      clear h0 h1
      go_enter Try.func20, Try.ntmps20
      go_wp2_with (go_at_call 54; (with_reducible refine (is_any _ _).mono ?_); rintro e w1 ⟨rfl, hb1⟩; have hz1 := hb1.size)
      go_ret2
      exact ⟨rfl, by (repeat (with_reducible (first | exact Below.refl _ _ | assumption | refine bl_alloc ?_ _ | refine bl_drew ?_ | refine bl_drewN ?_ _ | (refine bl_set ?_ ?_ _; (focus (first | (simp; done) | (simp; omega) | omega))) | refine bl_then ?_ (by assumption))))⟩

set_option maxHeartbeats 400000 in
theorem rLater_any (a n : Int) (w : World) :
    Calls Try.prog 21 #[.int .i64 a, .int .i64 n] w fun e w' => e = .returned (.tuple #[.int .i64 (laterN a n), .int .i64 (laterE a n)]) ∧ Below w.heap.size w w' := by
  cases ha : timeB a
  · have h0 : laterN a n = 0 := by simp [laterN, ha]
    have h1 : laterE a n = 3 := by simp [laterE, ha]
    rw [h0, h1]
    clear h0 h1
    go_enter Try.func21, Try.ntmps21
    go_wp2_with (go_at_call 55; (with_reducible refine (rTime_any _ _).mono ?_); rintro e w1 ⟨rfl, rfl⟩)
    go_ret2
    exact ⟨rfl, by (repeat (with_reducible (first | exact Below.refl _ _ | assumption | refine bl_alloc ?_ _ | refine bl_drew ?_ | refine bl_drewN ?_ _ | (refine bl_set ?_ ?_ _; (focus (first | (simp; done) | (simp; omega) | omega))) | refine bl_then ?_ (by assumption))))⟩
  · obtain ⟨a1, a2⟩ := fineB_iff.1 ha
    by_cases hn : 0 ≤ n
    · have h1 : laterE a n = 0 := by simp [laterE, ha, hn]
      rw [h1]
      clear h1
      by_cases hm : 1099511627776 - a < n
      · have h0 : laterN a n = 1099511627776 := by simp [laterN, ha, hn]; omega
        rw [h0]
        clear h0
        go_enter Try.func21, Try.ntmps21
        go_wp2_with (go_at_call 55; (with_reducible refine (rTime_any _ _).mono ?_); rintro e w1 ⟨rfl, rfl⟩)
        go_ret2
        exact ⟨rfl, by (repeat (with_reducible (first | exact Below.refl _ _ | assumption | refine bl_alloc ?_ _ | refine bl_drew ?_ | refine bl_drewN ?_ _ | (refine bl_set ?_ ?_ _; (focus (first | (simp; done) | (simp; omega) | omega))) | refine bl_then ?_ (by assumption))))⟩
      · have h0 : laterN a n = a + n := by simp [laterN, ha, hn]; omega
        rw [h0]
        clear h0
        go_enter Try.func21, Try.ntmps21
        go_wp2_with (go_at_call 55; (with_reducible refine (rTime_any _ _).mono ?_); rintro e w1 ⟨rfl, rfl⟩)
        go_ret2
        exact ⟨rfl, by (repeat (with_reducible (first | exact Below.refl _ _ | assumption | refine bl_alloc ?_ _ | refine bl_drew ?_ | refine bl_drewN ?_ _ | (refine bl_set ?_ ?_ _; (focus (first | (simp; done) | (simp; omega) | omega))) | refine bl_then ?_ (by assumption))))⟩
    · have h0 : laterN a n = 0 := by simp [laterN, ha, hn]
      have h1 : laterE a n = 3 := by simp [laterE, ha, hn]
      rw [h0, h1]
      clear h0 h1
      go_enter Try.func21, Try.ntmps21
      go_wp2_with (go_at_call 55; (with_reducible refine (rTime_any _ _).mono ?_); rintro e w1 ⟨rfl, rfl⟩)
      go_ret2
      exact ⟨rfl, by (repeat (with_reducible (first | exact Below.refl _ _ | assumption | refine bl_alloc ?_ _ | refine bl_drew ?_ | refine bl_drewN ?_ _ | (refine bl_set ?_ ?_ _; (focus (first | (simp; done) | (simp; omega) | omega))) | refine bl_then ?_ (by assumption))))⟩

end Go.Proofs.Ytocibljkmgffeaa
