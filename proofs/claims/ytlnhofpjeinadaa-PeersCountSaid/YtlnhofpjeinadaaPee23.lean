/- The chapter's peers: four, later, awake. -/
import Derived.Test.YtlnhofpjeinadaaPee22
namespace Go.Proofs.Ytlnhofpjeinadaa
open Go.RowKit Go.Proofs.Ytlnhofpjeinadaa.Pc BigFrame
attribute [local go_sem] run_store_float
set_option linter.unusedSimpArgs false
set_option linter.unusedVariables false

def M4 : List Mr := [⟨0, 4617315517961601024⟩, ⟨1, 4621256167635550208⟩, ⟨1, 4620693217682128896⟩, ⟨0, 9221120237041090561⟩]
def X4 : List Pr := [⟨1, 0, 0, 4617315517961601024⟩, ⟨2, 0, 1, 4621256167635550208⟩, ⟨3, 0, 1, 4620693217682128896⟩, ⟨1, 0, 0, 9221120237041090561⟩]
def X5 : List Pr := [⟨1, 0, 0, 4617315517961601024⟩, ⟨2, 0, 1, 4621256167635550208⟩, ⟨6, 0, 1, 4620693217682128896⟩, ⟨1, 0, 0, 9221120237041090561⟩]
def X6 : List Pr := [⟨1, 0, 0, 4617315517961601024⟩, ⟨3, 0, 1, 4621256167635550208⟩, ⟨6, 0, 1, 4620693217682128896⟩, ⟨1, 0, 0, 9221120237041090561⟩]
def X7 : List Pr := [⟨2, 0, 0, 4617315517961601024⟩, ⟨3, 0, 1, 4621256167635550208⟩, ⟨6, 0, 1, 4620693217682128896⟩, ⟨2, 0, 0, 9221120237041090561⟩]
theorem x4_fill : fills 1 (fillL 1 (nextL (newL M4)) 1) = false := by decide +kernel
theorem x4_is : fillL 1 (nextL (newL M4)) 1 = X4 := by kernel_rfl
theorem x4_ok : okN M4 1 = true := by decide +kernel
theorem M4_fit : Go.Proofs.Ytlnhofpjeinadaa.Fit M4 := by
  intro m hm
  simp [M4] at hm
  rcases hm with rfl | rfl | rfl | rfl <;> decide
theorem x4_roles : rolesI X4 = [1, 2, 3, 1] := by kernel_rfl
theorem x4_best : bestI X4 3 = 2 := by decide +kernel
theorem x4_next : nextI X4 = -1 := by decide +kernel
theorem x4_nextL : nextL X4 = X4 := by kernel_rfl
theorem x4_move : moveE X4 2 6 = 0 := by decide +kernel
theorem x4_moveL : moveL X4 2 6 = X5 := by kernel_rfl
theorem x5_best : bestI X5 3 = -1 := by decide +kernel
theorem x5_next : nextI X5 = 1 := by decide +kernel
theorem x5_nextL : nextL X5 = X6 := by kernel_rfl
theorem x6_roles : rolesI X6 = [1, 3, 6, 1] := by kernel_rfl
theorem x6_fill : fills 2 (fillL 2 X6 2) = false := by decide +kernel
theorem x6_fillI : fillI 2 X6 2 = [0, 3] := by kernel_rfl
theorem x6_fillL : fillL 2 X6 2 = X7 := by kernel_rfl
theorem x7_roles : rolesI X7 = [2, 3, 6, 2] := by kernel_rfl
theorem x7_move1 : moveE X7 2 5 = 9 := by decide +kernel
theorem x7_moveL1 : moveL X7 2 5 = X7 := by kernel_rfl
theorem x7_move2 : moveE X7 0 3 = 11 := by decide +kernel
theorem x7_moveL2 : moveL X7 0 3 = X7 := by kernel_rfl

theorem MRow.lit {w : World} {b cap : Nat} {cs : Array Value} {t : TypeId} {fr : Nat × Nat} {ms : List Mr} (h : w.heap[b]? = some (.cells cs t fr)) (hc : cs.toList = mcs ms) : MRow w (.slice (some ⟨b, 0, none⟩) ms.length cap) ms :=
  ⟨_, _, rfl, fun _ => ⟨b, 0, rfl, kb_lt h, fun i m hm => by
    obtain ⟨h1, h2⟩ := mcs_at ms i m hm
    rw [Nat.zero_add, kb_cell h, kb_cell h, ← Array.getElem?_toList, ← Array.getElem?_toList, hc]
    exact ⟨h1, h2⟩⟩⟩
theorem step_bl {w w1 w2 : World} {g : Nat} (b : Below w.heap.size w w1) (hg : w.heap.size ≤ g) (k : Keep (fun b => b = g) w1 w2) : Below w.heap.size w w2 := b.trans (k.below b.size (fun b e => by omega))
/-- Peers are made. -/
def Made (X : List Pr) (w : World) (e : Ending) (w' : World) : Prop := ∃ q g, e = .returned (.pointer (some ⟨q, 0, none⟩)) ∧ PQ w' q g X ∧ w.heap.size ≤ q ∧ w.heap.size ≤ g ∧ Below w.heap.size w w'

set_option maxRecDepth 100000 in
set_option maxHeartbeats 2000000 in
theorem four_any (w : World) : Calls Try.prog 6 #[] w (Made X4 w) := by
  have b0 : Below w.heap.size w (w.alloc (.cells #[.int .i64 0, .float .f64 4617315517961601024, .int .i64 1, .float .f64 4621256167635550208, .int .i64 1, .float .f64 4620693217682128896, .int .i64 0, .float .f64 9221120237041090561] 33)) := bl_alloc (Below.refl _ _) _
  have hM := Lib.hid (MRow.lit (cap := 4) (ms := M4) (kb_new (w := w) rfl (.cells #[.int .i64 0, .float .f64 4617315517961601024, .int .i64 1, .float .f64 4621256167635550208, .int .i64 1, .float .f64 4620693217682128896, .int .i64 0, .float .f64 9221120237041090561] 33)) rfl)
  go_enter Try.func6, Try.ntmps6
  go_wp2_with (go_at_call 27; (with_reducible refine (NaN_any _).mono ?_); rintro e w1 ⟨rfl, rfl⟩)
  refine (New_any hM.out M4_fit (by decide) 1).mono ?_
  intro e w1 h
  unfold NewPost at h
  rw [if_pos x4_ok] at h
  obtain ⟨q, g, k, rfl, hf, F, hq, hg, b1⟩ := h
  have F1 : PQ w1 q g X4 := by
    have := (fill_one hf x4_fill).1
    rw [this, x4_is] at F
    exact QX.of F
  have b01 := bl_then b0 b1
  have hq' : w.heap.size ≤ q := by have := b0.size; omega
  have hg' : w.heap.size ≤ g := by have := b0.size; omega
  have HP := Lib.hid F1
  clear F F1 hf b0 b1 hM hq hg
  go_wp2_with fail
  refine (qRoles_q (HP.out.below (by (repeat (with_reducible (first | exact Below.refl _ _ | assumption | refine bl_alloc ?_ _ | refine bl_drew ?_ | refine bl_drewN ?_ _ | (refine bl_set ?_ ?_ _; (focus (first | (simp; done) | (simp; omega) | omega))) | refine bl_then ?_ (by assumption))))))).mono ?_
  rintro e w2 ⟨v2, rfl, o2, b2⟩
  rw [x4_roles] at o2
  have HP := Lib.hid (HP.out.below (by (repeat (with_reducible (first | exact Below.refl _ _ | assumption | refine bl_alloc ?_ _ | refine bl_drew ?_ | refine bl_drewN ?_ _ | (refine bl_set ?_ ?_ _; (focus (first | (simp; done) | (simp; omega) | omega))) | refine bl_then ?_ (by assumption))))) : PQ w2 q g X4)
  have O2 := Lib.hid o2
  have b02 : Below w.heap.size w w2 := by (repeat (with_reducible (first | exact Below.refl _ _ | assumption | refine bl_alloc ?_ _ | refine bl_drew ?_ | refine bl_drewN ?_ _ | (refine bl_set ?_ ?_ _; (focus (first | (simp; done) | (simp; omega) | omega))) | refine bl_then ?_ (by assumption))))
  clear o2
  go_wp2_with fail
  refine (SameInts_any (xs := [1, 2, 3, 1]) (ys := [1, 2, 3, 1]) (rowOf_own O2.out (by (repeat (with_reducible (first | exact Below.refl _ _ | assumption | refine bl_alloc ?_ _ | refine bl_drew ?_ | refine bl_drewN ?_ _ | (refine bl_set ?_ ?_ _; (focus (first | (simp; done) | (simp; omega) | omega))) | refine bl_then ?_ (by assumption)))))) (RowOf.lit (kb_new rfl _) rfl) (by decide) (by decide)).mono ?_
  rintro e w3 ⟨rfl, b3⟩
  rw [show (([1, 2, 3, 1] : List Int) == [1, 2, 3, 1]) = true by decide]
  have HP := Lib.hid (HP.out.below (bl_then (bl_alloc (Below.refl _ _) _) b3) : PQ w3 q g X4)
  have b03 : Below w.heap.size w w3 := by (repeat (with_reducible (first | exact Below.refl _ _ | assumption | refine bl_alloc ?_ _ | refine bl_drew ?_ | refine bl_drewN ?_ _ | (refine bl_set ?_ ?_ _; (focus (first | (simp; done) | (simp; omega) | omega))) | refine bl_then ?_ (by assumption))))
  go_wp2_with fail
  refine (qPrimary_q HP.out).mono ?_
  rintro e w4 ⟨rfl, b4⟩
  rw [x4_best]
  have HP := Lib.hid (HP.out.below b4 : PQ w4 q g X4)
  have b04 : Below w.heap.size w w4 := by (repeat (with_reducible (first | exact Below.refl _ _ | assumption | refine bl_alloc ?_ _ | refine bl_drew ?_ | refine bl_drewN ?_ _ | (refine bl_set ?_ ?_ _; (focus (first | (simp; done) | (simp; omega) | omega))) | refine bl_then ?_ (by assumption))))
  go_wp2
  go_ret
  exact ⟨q, g, rfl, HP.out.below (Below.refl _ _), hq', hg', by assumption⟩

set_option maxRecDepth 100000 in
set_option maxHeartbeats 4000000 in
theorem later_any (w : World) : Calls Try.prog 7 #[] w (Made X7 w) := by
  go_enter Try.func7, Try.ntmps7
  go_wp2_with fail
  refine (four_any w).mono ?_
  rintro e w1 ⟨q, g, rfl, P1, hq', hg', b01⟩
  have HP := Lib.hid P1
  clear P1
  go_wp2_with fail
  refine (qNext_q HP.out).mono ?_
  rintro e w2 ⟨rfl, P2, k2⟩
  rw [x4_next]
  rw [x4_nextL] at P2
  have HP := Lib.hid P2
  have b02 := step_bl b01 hg' k2
  clear P2 k2
  go_wp2_with fail
  refine (qMove_q HP.out 2 6).mono ?_
  rintro e w3 ⟨rfl, P3, k3⟩
  rw [x4_move]
  rw [x4_moveL] at P3
  have HP := Lib.hid P3
  have b03 := step_bl b02 hg' k3
  clear P3 k3
  go_wp2_with fail
  refine (qPrimary_q HP.out).mono ?_
  rintro e w4 ⟨rfl, b4⟩
  rw [x5_best]
  have HP := Lib.hid (HP.out.below b4 : PQ w4 q g X5)
  have b04 : Below w.heap.size w w4 := by (repeat (with_reducible (first | exact Below.refl _ _ | assumption | refine bl_alloc ?_ _ | refine bl_drew ?_ | refine bl_drewN ?_ _ | (refine bl_set ?_ ?_ _; (focus (first | (simp; done) | (simp; omega) | omega))) | refine bl_then ?_ (by assumption))))
  go_wp2_with fail
  refine (qNext_q HP.out).mono ?_
  rintro e w5 ⟨rfl, P5, k5⟩
  rw [x5_next]
  rw [x5_nextL] at P5
  have HP := Lib.hid P5
  have b05 := step_bl b04 hg' k5
  clear P5 k5
  go_wp2_with fail
  refine (qRoles_q (HP.out.below (by (repeat (with_reducible (first | exact Below.refl _ _ | assumption | refine bl_alloc ?_ _ | refine bl_drew ?_ | refine bl_drewN ?_ _ | (refine bl_set ?_ ?_ _; (focus (first | (simp; done) | (simp; omega) | omega))) | refine bl_then ?_ (by assumption))))))).mono ?_
  rintro e w6 ⟨v6, rfl, o6, b6⟩
  rw [x6_roles] at o6
  have HP := Lib.hid (HP.out.below (by (repeat (with_reducible (first | exact Below.refl _ _ | assumption | refine bl_alloc ?_ _ | refine bl_drew ?_ | refine bl_drewN ?_ _ | (refine bl_set ?_ ?_ _; (focus (first | (simp; done) | (simp; omega) | omega))) | refine bl_then ?_ (by assumption))))) : PQ w6 q g X6)
  have O6 := Lib.hid o6
  have b06 : Below w.heap.size w w6 := by (repeat (with_reducible (first | exact Below.refl _ _ | assumption | refine bl_alloc ?_ _ | refine bl_drew ?_ | refine bl_drewN ?_ _ | (refine bl_set ?_ ?_ _; (focus (first | (simp; done) | (simp; omega) | omega))) | refine bl_then ?_ (by assumption))))
  clear o6
  go_wp2_with fail
  refine (SameInts_any (xs := [1, 3, 6, 1]) (ys := [1, 3, 6, 1]) (rowOf_own O6.out (by (repeat (with_reducible (first | exact Below.refl _ _ | assumption | refine bl_alloc ?_ _ | refine bl_drew ?_ | refine bl_drewN ?_ _ | (refine bl_set ?_ ?_ _; (focus (first | (simp; done) | (simp; omega) | omega))) | refine bl_then ?_ (by assumption)))))) (RowOf.lit (kb_new rfl _) rfl) (by decide) (by decide)).mono ?_
  rintro e w7 ⟨rfl, b7⟩
  rw [show (([1, 3, 6, 1] : List Int) == [1, 3, 6, 1]) = true by decide]
  have HP := Lib.hid (HP.out.below (bl_then (bl_alloc (Below.refl _ _) _) b7) : PQ w7 q g X6)
  have b07 : Below w.heap.size w w7 := by (repeat (with_reducible (first | exact Below.refl _ _ | assumption | refine bl_alloc ?_ _ | refine bl_drew ?_ | refine bl_drewN ?_ _ | (refine bl_set ?_ ?_ _; (focus (first | (simp; done) | (simp; omega) | omega))) | refine bl_then ?_ (by assumption))))
  go_wp2_with fail
  refine (qFill_q HP.out 2 2 x6_fill).mono ?_
  rintro e w8 ⟨v8, rfl, o8, P8, k8⟩
  rw [x6_fillI] at o8
  rw [x6_fillL] at P8
  have HP := Lib.hid P8
  have O8 := Lib.hid o8
  have b08 := step_bl b07 hg' k8
  clear P8 k8 o8
  go_wp2_with fail
  refine (SameInts_any (xs := [0, 3]) (ys := [0, 3]) (rowOf_own O8.out (by (repeat (with_reducible (first | exact Below.refl _ _ | assumption | refine bl_alloc ?_ _ | refine bl_drew ?_ | refine bl_drewN ?_ _ | (refine bl_set ?_ ?_ _; (focus (first | (simp; done) | (simp; omega) | omega))) | refine bl_then ?_ (by assumption)))))) (RowOf.lit (kb_new rfl _) rfl) (by decide) (by decide)).mono ?_
  rintro e w9 ⟨rfl, b9⟩
  rw [show (([0, 3] : List Int) == [0, 3]) = true by decide]
  have HP := Lib.hid (HP.out.below (bl_then (bl_alloc (Below.refl _ _) _) b9) : PQ w9 q g X7)
  have b09 : Below w.heap.size w w9 := by (repeat (with_reducible (first | exact Below.refl _ _ | assumption | refine bl_alloc ?_ _ | refine bl_drew ?_ | refine bl_drewN ?_ _ | (refine bl_set ?_ ?_ _; (focus (first | (simp; done) | (simp; omega) | omega))) | refine bl_then ?_ (by assumption))))
  go_wp2_with fail
  refine (qRoles_q (HP.out.below (by (repeat (with_reducible (first | exact Below.refl _ _ | assumption | refine bl_alloc ?_ _ | refine bl_drew ?_ | refine bl_drewN ?_ _ | (refine bl_set ?_ ?_ _; (focus (first | (simp; done) | (simp; omega) | omega))) | refine bl_then ?_ (by assumption))))))).mono ?_
  rintro e w10 ⟨v10, rfl, o10, b10⟩
  rw [x7_roles] at o10
  have HP := Lib.hid (HP.out.below (by (repeat (with_reducible (first | exact Below.refl _ _ | assumption | refine bl_alloc ?_ _ | refine bl_drew ?_ | refine bl_drewN ?_ _ | (refine bl_set ?_ ?_ _; (focus (first | (simp; done) | (simp; omega) | omega))) | refine bl_then ?_ (by assumption))))) : PQ w10 q g X7)
  have O10 := Lib.hid o10
  have b010 : Below w.heap.size w w10 := by (repeat (with_reducible (first | exact Below.refl _ _ | assumption | refine bl_alloc ?_ _ | refine bl_drew ?_ | refine bl_drewN ?_ _ | (refine bl_set ?_ ?_ _; (focus (first | (simp; done) | (simp; omega) | omega))) | refine bl_then ?_ (by assumption))))
  clear o10
  go_wp2_with fail
  refine (SameInts_any (xs := [2, 3, 6, 2]) (ys := [2, 3, 6, 2]) (rowOf_own O10.out (by (repeat (with_reducible (first | exact Below.refl _ _ | assumption | refine bl_alloc ?_ _ | refine bl_drew ?_ | refine bl_drewN ?_ _ | (refine bl_set ?_ ?_ _; (focus (first | (simp; done) | (simp; omega) | omega))) | refine bl_then ?_ (by assumption)))))) (RowOf.lit (kb_new rfl _) rfl) (by decide) (by decide)).mono ?_
  rintro e w11 ⟨rfl, b11⟩
  rw [show (([2, 3, 6, 2] : List Int) == [2, 3, 6, 2]) = true by decide]
  have HP := Lib.hid (HP.out.below (bl_then (bl_alloc (Below.refl _ _) _) b11) : PQ w11 q g X7)
  have b011 : Below w.heap.size w w11 := by (repeat (with_reducible (first | exact Below.refl _ _ | assumption | refine bl_alloc ?_ _ | refine bl_drew ?_ | refine bl_drewN ?_ _ | (refine bl_set ?_ ?_ _; (focus (first | (simp; done) | (simp; omega) | omega))) | refine bl_then ?_ (by assumption))))
  go_wp2
  go_ret
  exact ⟨q, g, rfl, HP.out.below (Below.refl _ _), hq', hg', by assumption⟩

set_option maxRecDepth 100000 in
set_option maxHeartbeats 4000000 in
theorem awake_any (w : World) : Calls Try.prog 19 #[] w fun e w' => e = .returned (.bool true) ∧ Below w.heap.size w w' := by
  go_enter Try.func19, Try.ntmps19
  go_wp2_with fail
  refine (later_any w).mono ?_
  rintro e w1 ⟨q, g, rfl, P1, hq', hg', b01⟩
  have HP := Lib.hid P1
  clear P1
  go_wp2_with fail
  refine (qMove_q HP.out 2 5).mono ?_
  rintro e w2 ⟨rfl, P2, k2⟩
  rw [x7_move1]
  rw [x7_moveL1] at P2
  have HP := Lib.hid P2
  have b02 := step_bl b01 hg' k2
  clear P2 k2
  go_wp2_with fail
  refine (qMove_q HP.out 0 3).mono ?_
  rintro e w3 ⟨rfl, P3, k3⟩
  rw [x7_move2]
  rw [x7_moveL2] at P3
  have HP := Lib.hid P3
  have b03 := step_bl b02 hg' k3
  clear P3 k3
  go_wp2
  go_ret
  exact ⟨rfl, by (repeat (with_reducible (first | exact Below.refl _ _ | assumption | refine bl_alloc ?_ _ | refine bl_drew ?_ | refine bl_drewN ?_ _ | (refine bl_set ?_ ?_ _; (focus (first | (simp; done) | (simp; omega) | omega))) | refine bl_then ?_ (by assumption))))⟩
end Go.Proofs.Ytlnhofpjeinadaa
