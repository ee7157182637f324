/- The walk of ClockWindows. -/
import Derived.Test.YtocibljkmgffeaaClock6
namespace Go.Proofs.Ytocibljkmgffeaa
open Go.RowKit Go.Proofs.Ytocibljkmgffeaa.Ck BigFrame
attribute [local go_sem] cell_alloc_some frozen_alloc_some

theorem ins_eq {a b x p d n m : Int} (hc : chkT p d n m = 0) (a0 : 0 ≤ a) (a1 : a ≤ 1099511627776) (b0 : 0 ≤ b) (b1 : b ≤ 1099511627776) (x0 : 0 ≤ x) (x1 : x ≤ 1099511627776) :
    insB a b x p d n m = (decide (firstN b d ≤ x) && decide (x ≤ lastN a p)) := by
  obtain ⟨p1, p2, d1, d2, _⟩ := chk_bounds hc
  have h1 := ask_ok hc a0 a1 x0 x1
  have h2 := ask_ok hc b0 b1 x0 x1
  rw [show firstN b d = max 0 (b - max d 1 + 1) from rfl, show lastN a p = min (a + p - 1) 1099511627776 from rfl]
  simp only [insB, expdB, ahdB, h1, h2, expB, aheadB, decide_true, Bool.true_and]
  have e1 : (!decide (a + p ≤ x)) = decide (x ≤ min (a + p - 1) 1099511627776) := by rw [← decide_not, decide_eq_decide]; omega
  have e2 : (!decide (x + max d 1 ≤ b)) = decide (max 0 (b - max d 1 + 1) ≤ x) := by rw [← decide_not, decide_eq_decide]; omega
  rw [e1, e2, Bool.and_comm]

set_option maxRecDepth 100000 in
set_option maxHeartbeats 1000000 in
theorem win_none (a b now p d nu de A B NOW P D NU DE : Int) (w : World) (hA : timN a = A) (hB : timN b = B) (hNOW : timN now = NOW) (hP : finP p = P) (hD : finD d = D) (hNU : finN nu de = NU) (hDE : finM de = DE)
    (h1 : winF A B P D NU DE = 0) (h2 : winL A B P D NU DE = 0) (h3 : winE A B P D NU DE = 16) (h4 : insB A B NOW P D NU DE = false) :
    Calls Try.prog 12 #[.int .i64 a, .int .i64 b, .int .i64 now, .agg #[.int .i64 p, .int .i64 d, .int .i64 nu, .int .i64 de]] w fun e w' => e = .returned (.bool true) ∧ Below w.heap.size w w' := by
  have HT1 := Lib.hid (fun W => time_t a A hA W)
  have HT2 := Lib.hid (fun W => time_t b B hB W)
  have HT3 := Lib.hid (fun W => time_t now NOW hNOW W)
  have HF := Lib.hid (fun W => fine_t p d nu de P D NU DE hP hD hNU hDE W)
  have HW := Lib.hid (fun W => Window_t A B P D NU DE 0 0 16 h1 h2 h3 W)
  have HI := Lib.hid (fun W => inside_t A B NOW P D NU DE false h4 W)
  clear hA hB hNOW hP hD hNU hDE h1 h2 h3 h4
  go_enter Try.func12, Try.ntmps12
  go_wp2_with (first | (go_at_call 10; (with_reducible refine (Known_any _).mono ?_); rintro e w1 ⟨rfl, hb1⟩; have hz1 := hb1.size; have B0 : w1.heap[w.heap.size]? = some _ := kb_below hb1 (by (repeat (with_reducible (first | assumption | (apply kb_new; (focus (simp; done))) | apply kb_alloc | apply kb_drew | apply kb_drewN | apply kb_set | (apply kb_far; (focus (first | (simp; done) | (simp; omega)))))))); have c0 := kb_cell B0; have z0 := kb_frozen B0) | (go_at_call 49; (with_reducible refine (HF.out _).mono ?_); rintro e w1 ⟨rfl, hb1⟩; have hz1 := hb1.size; have B0 : w1.heap[w.heap.size]? = some _ := kb_below hb1 (by (repeat (with_reducible (first | assumption | (apply kb_new; (focus (simp; done))) | apply kb_alloc | apply kb_drew | apply kb_drewN | apply kb_set | (apply kb_far; (focus (first | (simp; done) | (simp; omega)))))))); have c0 := kb_cell B0; have z0 := kb_frozen B0) | (go_at_call 50; (with_reducible refine (HT1.out _).mono ?_); rintro e w1 ⟨rfl, rfl⟩) | (go_at_call 50; (with_reducible refine (HT2.out _).mono ?_); rintro e w1 ⟨rfl, rfl⟩) | (go_at_call 50; (with_reducible refine (HT3.out _).mono ?_); rintro e w1 ⟨rfl, rfl⟩) | (go_at_call 22; (with_reducible refine (HW.out _).mono ?_); rintro e w1 ⟨rfl, hb1⟩; have hz1 := hb1.size; have B0 : w1.heap[w.heap.size]? = some _ := kb_below hb1 (by (repeat (with_reducible (first | assumption | (apply kb_new; (focus (simp; done))) | apply kb_alloc | apply kb_drew | apply kb_drewN | apply kb_set | (apply kb_far; (focus (first | (simp; done) | (simp; omega)))))))); have c0 := kb_cell B0; have z0 := kb_frozen B0) | (go_at_call 51; (with_reducible refine (HI.out _).mono ?_); rintro e w1 ⟨rfl, hb1⟩; have hz1 := hb1.size; have B0 : w1.heap[w.heap.size]? = some _ := kb_below hb1 (by (repeat (with_reducible (first | assumption | (apply kb_new; (focus (simp; done))) | apply kb_alloc | apply kb_drew | apply kb_drewN | apply kb_set | (apply kb_far; (focus (first | (simp; done) | (simp; omega)))))))); have c0 := kb_cell B0; have z0 := kb_frozen B0))
  go_ret
  refine ⟨?_, by (repeat (with_reducible (first | exact Below.refl _ _ | assumption | refine bl_alloc ?_ _ | refine bl_drew ?_ | refine bl_drewN ?_ _ | (refine bl_set ?_ ?_ _; (focus (first | (simp; done) | (simp; omega) | omega))) | refine bl_then ?_ (by assumption))))⟩
  first | rfl | exact ret_bool (by simp; omega)

set_option maxRecDepth 100000 in
set_option maxHeartbeats 1000000 in
theorem win_a (a b now p d nu de A B NOW P D NU DE : Int) (w : World) (hA : timN a = A) (hB : timN b = B) (hNOW : timN now = NOW) (hP : finP p = P) (hD : finD d = D) (hNU : finN nu de = NU) (hDE : finM de = DE)
    (h1 : winF A B P D NU DE = 0) (h2 : winL A B P D NU DE = 1099511627776) (h3 : winE A B P D NU DE = 0) (i1 : insB A B 0 P D NU DE = true) (i2 : insB A B 1099511627776 P D NU DE = true) (i3 : insB A B NOW P D NU DE = true) (n1 : 0 ≤ NOW) (n2 : NOW ≤ 1099511627776) :
    Calls Try.prog 12 #[.int .i64 a, .int .i64 b, .int .i64 now, .agg #[.int .i64 p, .int .i64 d, .int .i64 nu, .int .i64 de]] w fun e w' => e = .returned (.bool true) ∧ Below w.heap.size w w' := by
  have HT1 := Lib.hid (fun W => time_t a A hA W)
  have HT2 := Lib.hid (fun W => time_t b B hB W)
  have HT3 := Lib.hid (fun W => time_t now NOW hNOW W)
  have HF := Lib.hid (fun W => fine_t p d nu de P D NU DE hP hD hNU hDE W)
  have HW := Lib.hid (fun W => Window_t A B P D NU DE 0 1099511627776 0 h1 h2 h3 W)
  have HI1 := Lib.hid (fun W => inside_t A B 0 P D NU DE true i1 W)
  have HI2 := Lib.hid (fun W => inside_t A B 1099511627776 P D NU DE true i2 W)
  have HI3 := Lib.hid (fun W => inside_t A B NOW P D NU DE true i3 W)
  clear hA hB hNOW hP hD hNU hDE h1 h2 h3 i1 i2 i3
  go_enter Try.func12, Try.ntmps12
  go_wp2_with (first | (go_at_call 10; (with_reducible refine (Known_any _).mono ?_); rintro e w1 ⟨rfl, hb1⟩; have hz1 := hb1.size; have B0 : w1.heap[w.heap.size]? = some _ := kb_below hb1 (by (repeat (with_reducible (first | assumption | (apply kb_new; (focus (simp; done))) | apply kb_alloc | apply kb_drew | apply kb_drewN | apply kb_set | (apply kb_far; (focus (first | (simp; done) | (simp; omega)))))))); have c0 := kb_cell B0; have z0 := kb_frozen B0) | (go_at_call 49; (with_reducible refine (HF.out _).mono ?_); rintro e w1 ⟨rfl, hb1⟩; have hz1 := hb1.size; have B0 : w1.heap[w.heap.size]? = some _ := kb_below hb1 (by (repeat (with_reducible (first | assumption | (apply kb_new; (focus (simp; done))) | apply kb_alloc | apply kb_drew | apply kb_drewN | apply kb_set | (apply kb_far; (focus (first | (simp; done) | (simp; omega)))))))); have c0 := kb_cell B0; have z0 := kb_frozen B0) | (go_at_call 50; (with_reducible refine (HT1.out _).mono ?_); rintro e w1 ⟨rfl, rfl⟩) | (go_at_call 50; (with_reducible refine (HT2.out _).mono ?_); rintro e w1 ⟨rfl, rfl⟩) | (go_at_call 50; (with_reducible refine (HT3.out _).mono ?_); rintro e w1 ⟨rfl, rfl⟩) | (go_at_call 22; (with_reducible refine (HW.out _).mono ?_); rintro e w1 ⟨rfl, hb1⟩; have hz1 := hb1.size; have B0 : w1.heap[w.heap.size]? = some _ := kb_below hb1 (by (repeat (with_reducible (first | assumption | (apply kb_new; (focus (simp; done))) | apply kb_alloc | apply kb_drew | apply kb_drewN | apply kb_set | (apply kb_far; (focus (first | (simp; done) | (simp; omega)))))))); have c0 := kb_cell B0; have z0 := kb_frozen B0) | (go_at_call 51; (with_reducible refine (HI1.out _).mono ?_); rintro e w1 ⟨rfl, hb1⟩; have hz1 := hb1.size; have B0 : w1.heap[w.heap.size]? = some _ := kb_below hb1 (by (repeat (with_reducible (first | assumption | (apply kb_new; (focus (simp; done))) | apply kb_alloc | apply kb_drew | apply kb_drewN | apply kb_set | (apply kb_far; (focus (first | (simp; done) | (simp; omega)))))))); have c0 := kb_cell B0; have z0 := kb_frozen B0) | (go_at_call 51; (with_reducible refine (HI2.out _).mono ?_); rintro e w1 ⟨rfl, hb1⟩; have hz1 := hb1.size; have B0 : w1.heap[w.heap.size]? = some _ := kb_below hb1 (by (repeat (with_reducible (first | assumption | (apply kb_new; (focus (simp; done))) | apply kb_alloc | apply kb_drew | apply kb_drewN | apply kb_set | (apply kb_far; (focus (first | (simp; done) | (simp; omega)))))))); have c0 := kb_cell B0; have z0 := kb_frozen B0) | (go_at_call 51; (with_reducible refine (HI3.out _).mono ?_); rintro e w1 ⟨rfl, hb1⟩; have hz1 := hb1.size; have B0 : w1.heap[w.heap.size]? = some _ := kb_below hb1 (by (repeat (with_reducible (first | assumption | (apply kb_new; (focus (simp; done))) | apply kb_alloc | apply kb_drew | apply kb_drewN | apply kb_set | (apply kb_far; (focus (first | (simp; done) | (simp; omega)))))))); have c0 := kb_cell B0; have z0 := kb_frozen B0))
  go_ret
  refine ⟨?_, by (repeat (with_reducible (first | exact Below.refl _ _ | assumption | refine bl_alloc ?_ _ | refine bl_drew ?_ | refine bl_drewN ?_ _ | (refine bl_set ?_ ?_ _; (focus (first | (simp; done) | (simp; omega) | omega))) | refine bl_then ?_ (by assumption))))⟩
  first | rfl | exact ret_bool (by simp; omega)

set_option maxRecDepth 100000 in
set_option maxHeartbeats 1000000 in
theorem win_b (a b now p d nu de A B NOW P D NU DE : Int) (w : World) (hA : timN a = A) (hB : timN b = B) (hNOW : timN now = NOW) (hP : finP p = P) (hD : finD d = D) (hNU : finN nu de = NU) (hDE : finM de = DE)
    (L : Int) (h1 : winF A B P D NU DE = 0) (h2 : winL A B P D NU DE = L) (h3 : winE A B P D NU DE = 0) (i1 : insB A B 0 P D NU DE = true) (i2 : insB A B L P D NU DE = true) (i3 : insB A B NOW P D NU DE = true) (i5 : insB A B (L + 1) P D NU DE = false) (l0 : L < 1099511627776) (fl : 0 ≤ L) (n1 : 0 ≤ NOW) (n2 : NOW ≤ L) :
    Calls Try.prog 12 #[.int .i64 a, .int .i64 b, .int .i64 now, .agg #[.int .i64 p, .int .i64 d, .int .i64 nu, .int .i64 de]] w fun e w' => e = .returned (.bool true) ∧ Below w.heap.size w w' := by
  have HT1 := Lib.hid (fun W => time_t a A hA W)
  have HT2 := Lib.hid (fun W => time_t b B hB W)
  have HT3 := Lib.hid (fun W => time_t now NOW hNOW W)
  have HF := Lib.hid (fun W => fine_t p d nu de P D NU DE hP hD hNU hDE W)
  have HW := Lib.hid (fun W => Window_t A B P D NU DE 0 L 0 h1 h2 h3 W)
  have HI1 := Lib.hid (fun W => inside_t A B 0 P D NU DE true i1 W)
  have HI2 := Lib.hid (fun W => inside_t A B L P D NU DE true i2 W)
  have HI3 := Lib.hid (fun W => inside_t A B NOW P D NU DE true i3 W)
  have HI5 := Lib.hid (fun W => inside_t A B (L + 1) P D NU DE false i5 W)
  clear hA hB hNOW hP hD hNU hDE h1 h2 h3 i1 i2 i3 i5
  go_enter Try.func12, Try.ntmps12
  go_wp2_with (first | (go_at_call 10; (with_reducible refine (Known_any _).mono ?_); rintro e w1 ⟨rfl, hb1⟩; have hz1 := hb1.size; have B0 : w1.heap[w.heap.size]? = some _ := kb_below hb1 (by (repeat (with_reducible (first | assumption | (apply kb_new; (focus (simp; done))) | apply kb_alloc | apply kb_drew | apply kb_drewN | apply kb_set | (apply kb_far; (focus (first | (simp; done) | (simp; omega)))))))); have c0 := kb_cell B0; have z0 := kb_frozen B0) | (go_at_call 49; (with_reducible refine (HF.out _).mono ?_); rintro e w1 ⟨rfl, hb1⟩; have hz1 := hb1.size; have B0 : w1.heap[w.heap.size]? = some _ := kb_below hb1 (by (repeat (with_reducible (first | assumption | (apply kb_new; (focus (simp; done))) | apply kb_alloc | apply kb_drew | apply kb_drewN | apply kb_set | (apply kb_far; (focus (first | (simp; done) | (simp; omega)))))))); have c0 := kb_cell B0; have z0 := kb_frozen B0) | (go_at_call 50; (with_reducible refine (HT1.out _).mono ?_); rintro e w1 ⟨rfl, rfl⟩) | (go_at_call 50; (with_reducible refine (HT2.out _).mono ?_); rintro e w1 ⟨rfl, rfl⟩) | (go_at_call 50; (with_reducible refine (HT3.out _).mono ?_); rintro e w1 ⟨rfl, rfl⟩) | (go_at_call 22; (with_reducible refine (HW.out _).mono ?_); rintro e w1 ⟨rfl, hb1⟩; have hz1 := hb1.size; have B0 : w1.heap[w.heap.size]? = some _ := kb_below hb1 (by (repeat (with_reducible (first | assumption | (apply kb_new; (focus (simp; done))) | apply kb_alloc | apply kb_drew | apply kb_drewN | apply kb_set | (apply kb_far; (focus (first | (simp; done) | (simp; omega)))))))); have c0 := kb_cell B0; have z0 := kb_frozen B0) | (go_at_call 51; (with_reducible refine (HI1.out _).mono ?_); rintro e w1 ⟨rfl, hb1⟩; have hz1 := hb1.size; have B0 : w1.heap[w.heap.size]? = some _ := kb_below hb1 (by (repeat (with_reducible (first | assumption | (apply kb_new; (focus (simp; done))) | apply kb_alloc | apply kb_drew | apply kb_drewN | apply kb_set | (apply kb_far; (focus (first | (simp; done) | (simp; omega)))))))); have c0 := kb_cell B0; have z0 := kb_frozen B0) | (go_at_call 51; (with_reducible refine (HI2.out _).mono ?_); rintro e w1 ⟨rfl, hb1⟩; have hz1 := hb1.size; have B0 : w1.heap[w.heap.size]? = some _ := kb_below hb1 (by (repeat (with_reducible (first | assumption | (apply kb_new; (focus (simp; done))) | apply kb_alloc | apply kb_drew | apply kb_drewN | apply kb_set | (apply kb_far; (focus (first | (simp; done) | (simp; omega)))))))); have c0 := kb_cell B0; have z0 := kb_frozen B0) | (go_at_call 51; (with_reducible refine (HI3.out _).mono ?_); rintro e w1 ⟨rfl, hb1⟩; have hz1 := hb1.size; have B0 : w1.heap[w.heap.size]? = some _ := kb_below hb1 (by (repeat (with_reducible (first | assumption | (apply kb_new; (focus (simp; done))) | apply kb_alloc | apply kb_drew | apply kb_drewN | apply kb_set | (apply kb_far; (focus (first | (simp; done) | (simp; omega)))))))); have c0 := kb_cell B0; have z0 := kb_frozen B0) | (go_at_call 51; (with_reducible refine (HI5.out _).mono ?_); rintro e w1 ⟨rfl, hb1⟩; have hz1 := hb1.size; have B0 : w1.heap[w.heap.size]? = some _ := kb_below hb1 (by (repeat (with_reducible (first | assumption | (apply kb_new; (focus (simp; done))) | apply kb_alloc | apply kb_drew | apply kb_drewN | apply kb_set | (apply kb_far; (focus (first | (simp; done) | (simp; omega)))))))); have c0 := kb_cell B0; have z0 := kb_frozen B0))
  go_ret
  refine ⟨?_, by (repeat (with_reducible (first | exact Below.refl _ _ | assumption | refine bl_alloc ?_ _ | refine bl_drew ?_ | refine bl_drewN ?_ _ | (refine bl_set ?_ ?_ _; (focus (first | (simp; done) | (simp; omega) | omega))) | refine bl_then ?_ (by assumption))))⟩
  first | rfl | exact ret_bool (by simp; omega)

set_option maxRecDepth 100000 in
set_option maxHeartbeats 1000000 in
theorem win_c (a b now p d nu de A B NOW P D NU DE : Int) (w : World) (hA : timN a = A) (hB : timN b = B) (hNOW : timN now = NOW) (hP : finP p = P) (hD : finD d = D) (hNU : finN nu de = NU) (hDE : finM de = DE)
    (L : Int) (h1 : winF A B P D NU DE = 0) (h2 : winL A B P D NU DE = L) (h3 : winE A B P D NU DE = 0) (i1 : insB A B 0 P D NU DE = true) (i2 : insB A B L P D NU DE = true) (i3 : insB A B NOW P D NU DE = false) (i5 : insB A B (L + 1) P D NU DE = false) (l0 : L < 1099511627776) (fl : 0 ≤ L) (n1 : L < NOW) (n2 : 0 ≤ NOW) :
    Calls Try.prog 12 #[.int .i64 a, .int .i64 b, .int .i64 now, .agg #[.int .i64 p, .int .i64 d, .int .i64 nu, .int .i64 de]] w fun e w' => e = .returned (.bool true) ∧ Below w.heap.size w w' := by
  have HT1 := Lib.hid (fun W => time_t a A hA W)
  have HT2 := Lib.hid (fun W => time_t b B hB W)
  have HT3 := Lib.hid (fun W => time_t now NOW hNOW W)
  have HF := Lib.hid (fun W => fine_t p d nu de P D NU DE hP hD hNU hDE W)
  have HW := Lib.hid (fun W => Window_t A B P D NU DE 0 L 0 h1 h2 h3 W)
  have HI1 := Lib.hid (fun W => inside_t A B 0 P D NU DE true i1 W)
  have HI2 := Lib.hid (fun W => inside_t A B L P D NU DE true i2 W)
  have HI3 := Lib.hid (fun W => inside_t A B NOW P D NU DE false i3 W)
  have HI5 := Lib.hid (fun W => inside_t A B (L + 1) P D NU DE false i5 W)
  clear hA hB hNOW hP hD hNU hDE h1 h2 h3 i1 i2 i3 i5
  go_enter Try.func12, Try.ntmps12
  go_wp2_with (first | (go_at_call 10; (with_reducible refine (Known_any _).mono ?_); rintro e w1 ⟨rfl, hb1⟩; have hz1 := hb1.size; have B0 : w1.heap[w.heap.size]? = some _ := kb_below hb1 (by (repeat (with_reducible (first | assumption | (apply kb_new; (focus (simp; done))) | apply kb_alloc | apply kb_drew | apply kb_drewN | apply kb_set | (apply kb_far; (focus (first | (simp; done) | (simp; omega)))))))); have c0 := kb_cell B0; have z0 := kb_frozen B0) | (go_at_call 49; (with_reducible refine (HF.out _).mono ?_); rintro e w1 ⟨rfl, hb1⟩; have hz1 := hb1.size; have B0 : w1.heap[w.heap.size]? = some _ := kb_below hb1 (by (repeat (with_reducible (first | assumption | (apply kb_new; (focus (simp; done))) | apply kb_alloc | apply kb_drew | apply kb_drewN | apply kb_set | (apply kb_far; (focus (first | (simp; done) | (simp; omega)))))))); have c0 := kb_cell B0; have z0 := kb_frozen B0) | (go_at_call 50; (with_reducible refine (HT1.out _).mono ?_); rintro e w1 ⟨rfl, rfl⟩) | (go_at_call 50; (with_reducible refine (HT2.out _).mono ?_); rintro e w1 ⟨rfl, rfl⟩) | (go_at_call 50; (with_reducible refine (HT3.out _).mono ?_); rintro e w1 ⟨rfl, rfl⟩) | (go_at_call 22; (with_reducible refine (HW.out _).mono ?_); rintro e w1 ⟨rfl, hb1⟩; have hz1 := hb1.size; have B0 : w1.heap[w.heap.size]? = some _ := kb_below hb1 (by (repeat (with_reducible (first | assumption | (apply kb_new; (focus (simp; done))) | apply kb_alloc | apply kb_drew | apply kb_drewN | apply kb_set | (apply kb_far; (focus (first | (simp; done) | (simp; omega)))))))); have c0 := kb_cell B0; have z0 := kb_frozen B0) | (go_at_call 51; (with_reducible refine (HI1.out _).mono ?_); rintro e w1 ⟨rfl, hb1⟩; have hz1 := hb1.size; have B0 : w1.heap[w.heap.size]? = some _ := kb_below hb1 (by (repeat (with_reducible (first | assumption | (apply kb_new; (focus (simp; done))) | apply kb_alloc | apply kb_drew | apply kb_drewN | apply kb_set | (apply kb_far; (focus (first | (simp; done) | (simp; omega)))))))); have c0 := kb_cell B0; have z0 := kb_frozen B0) | (go_at_call 51; (with_reducible refine (HI2.out _).mono ?_); rintro e w1 ⟨rfl, hb1⟩; have hz1 := hb1.size; have B0 : w1.heap[w.heap.size]? = some _ := kb_below hb1 (by (repeat (with_reducible (first | assumption | (apply kb_new; (focus (simp; done))) | apply kb_alloc | apply kb_drew | apply kb_drewN | apply kb_set | (apply kb_far; (focus (first | (simp; done) | (simp; omega)))))))); have c0 := kb_cell B0; have z0 := kb_frozen B0) | (go_at_call 51; (with_reducible refine (HI3.out _).mono ?_); rintro e w1 ⟨rfl, hb1⟩; have hz1 := hb1.size; have B0 : w1.heap[w.heap.size]? = some _ := kb_below hb1 (by (repeat (with_reducible (first | assumption | (apply kb_new; (focus (simp; done))) | apply kb_alloc | apply kb_drew | apply kb_drewN | apply kb_set | (apply kb_far; (focus (first | (simp; done) | (simp; omega)))))))); have c0 := kb_cell B0; have z0 := kb_frozen B0) | (go_at_call 51; (with_reducible refine (HI5.out _).mono ?_); rintro e w1 ⟨rfl, hb1⟩; have hz1 := hb1.size; have B0 : w1.heap[w.heap.size]? = some _ := kb_below hb1 (by (repeat (with_reducible (first | assumption | (apply kb_new; (focus (simp; done))) | apply kb_alloc | apply kb_drew | apply kb_drewN | apply kb_set | (apply kb_far; (focus (first | (simp; done) | (simp; omega)))))))); have c0 := kb_cell B0; have z0 := kb_frozen B0))
  go_ret
  refine ⟨?_, by (repeat (with_reducible (first | exact Below.refl _ _ | assumption | refine bl_alloc ?_ _ | refine bl_drew ?_ | refine bl_drewN ?_ _ | (refine bl_set ?_ ?_ _; (focus (first | (simp; done) | (simp; omega) | omega))) | refine bl_then ?_ (by assumption))))⟩
  first | rfl | exact ret_bool (by simp; omega)

end Go.Proofs.Ytocibljkmgffeaa
