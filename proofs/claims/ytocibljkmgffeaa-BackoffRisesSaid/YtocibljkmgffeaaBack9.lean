/- The law package of backoff: BackoffSums, BackoffKnown. -/
import Derived.Test.YtocibljkmgffeaaBack8
namespace Go.Proofs.Ytocibljkmgffeaa
open Go.RowKit Go.Proofs.Ytocibljkmgffeaa.Bk

set_option maxHeartbeats 400000 in
theorem Passed_any (d now : Int) (w : World) :
    Calls Try.prog 29 #[.int .i64 d, .int .i64 now] w fun e w' => e = .returned (.bool (decide (d ≤ now))) ∧ w = w' := by
  go_enter Try.func29, Try.ntmps29
  go_wp2
  go_ret
  first | exact ⟨rfl, rfl⟩ | exact ⟨by simp, rfl⟩

set_option maxHeartbeats 400000 in
theorem rPassed_any (d now : Int) (w : World) :
    Calls Try.prog 30 #[.int .i64 d, .int .i64 now] w fun e w' => e = .returned (.bool (decide (d ≤ now))) ∧ w = w' := by
  go_enter Try.func30, Try.ntmps30
  go_wp2
  go_ret
  first | exact ⟨rfl, rfl⟩ | exact ⟨by simp, rfl⟩

set_option maxRecDepth 100000 in
set_option maxHeartbeats 1000000 in
theorem BackoffSums_walk (s b c now : Int) (w : World) :
    Calls Try.prog 5 #[.int .i64 s, .int .i64 b, .int .i64 c, .int .i64 now] w fun e w' => e = .returned (.bool true) ∧ Below w.heap.size w w' := by
  obtain ⟨x, er, f1, f2⟩ := bFull_any b c
  go_enter Try.func5, Try.ntmps5
  go_wp2_with (first | (go_at_call 25; (with_reducible refine (bAll_any _ _ _ _).mono ?_); rintro e w1 ⟨rfl, hb1⟩; have hz1 := hb1.size) | (go_at_call 26; (with_reducible refine (rbAll_any _ _ _ _).mono ?_); rintro e w1 ⟨rfl, rfl⟩) | (go_at_call 27; (with_reducible refine (f1 _).mono ?_); rintro e w1 ⟨rfl, hb1⟩; have hz1 := hb1.size) | (go_at_call 28; (with_reducible refine (f2 _).mono ?_); rintro e w1 ⟨rfl, rfl⟩) | (go_at_call 29; (with_reducible refine (Passed_any _ _ _).mono ?_); rintro e w1 ⟨rfl, rfl⟩) | (go_at_call 30; (with_reducible refine (rPassed_any _ _ _).mono ?_); rintro e w1 ⟨rfl, rfl⟩) | (go_at_call 19; (with_reducible refine (bawake_any _).mono ?_); rintro e w1 ⟨rfl, hb1⟩; have hz1 := hb1.size))
  go_ret
  exact ⟨rfl, by (repeat (with_reducible (first | exact Below.refl _ _ | assumption | refine bl_alloc ?_ _ | refine bl_drew ?_ | refine bl_drewN ?_ _ | (refine bl_set ?_ ?_ _; (focus (first | (simp; done) | (simp; omega) | omega))) | refine bl_then ?_ (by assumption))))⟩

theorem full1 (w : World) : Calls Try.prog 27 #[.int .i64 3, .int .i64 20] w fun e w' => e = .returned (.tuple #[.int .i64 3, .int .i64 0]) ∧ Below w.heap.size w w' :=
  bFull_yes 3 3 20 w ⟨by decide, by decide +kernel, by decide +kernel⟩ (by decide +kernel)
theorem full2 (w : World) : Calls Try.prog 27 #[.int .i64 5, .int .i64 5] w fun e w' => e = .returned (.tuple #[.int .i64 0, .int .i64 0]) ∧ Below w.heap.size w w' :=
  bFull_yes 0 5 5 w ⟨by decide, by decide +kernel, by decide +kernel⟩ (by decide +kernel)

set_option maxRecDepth 100000 in
set_option maxHeartbeats 1000000 in
theorem BackoffKnown_walk (w : World) :
    Calls Try.prog 6 #[] w fun e w' => e = .returned (.bool true) ∧ Below w.heap.size w w' := by
  go_enter Try.func6, Try.ntmps6
  go_wp2_with (first | (go_at_call 31; (with_reducible refine (kb_w3 _).mono ?_); rintro e w1 ⟨rfl, hb1⟩; have hz1 := hb1.size) | (go_at_call 31; (with_reducible refine (kb_w4 _).mono ?_); rintro e w1 ⟨rfl, hb1⟩; have hz1 := hb1.size) | (go_at_call 31; (with_reducible refine (kb_w5 _).mono ?_); rintro e w1 ⟨rfl, hb1⟩; have hz1 := hb1.size) | (go_at_call 31; (with_reducible refine (kb_w6 _).mono ?_); rintro e w1 ⟨rfl, hb1⟩; have hz1 := hb1.size) | (go_at_call 31; (with_reducible refine (kb_w7 _).mono ?_); rintro e w1 ⟨rfl, hb1⟩; have hz1 := hb1.size) | (go_at_call 31; (with_reducible refine (kb_w8 _).mono ?_); rintro e w1 ⟨rfl, hb1⟩; have hz1 := hb1.size) | (go_at_call 31; (with_reducible refine (kb_w9 _).mono ?_); rintro e w1 ⟨rfl, hb1⟩; have hz1 := hb1.size) | (go_at_call 32; (with_reducible refine (kb_d1 _).mono ?_); rintro e w1 ⟨rfl, hb1⟩; have hz1 := hb1.size) | (go_at_call 32; (with_reducible refine (kb_d2 _).mono ?_); rintro e w1 ⟨rfl, hb1⟩; have hz1 := hb1.size) | (go_at_call 33; (with_reducible refine (kb_a1 _).mono ?_); rintro e w1 ⟨rfl, hb1⟩; have hz1 := hb1.size) | (go_at_call 33; (with_reducible refine (kb_a2 _).mono ?_); rintro e w1 ⟨rfl, hb1⟩; have hz1 := hb1.size) | (go_at_call 27; (with_reducible refine (full1 _).mono ?_); rintro e w1 ⟨rfl, hb1⟩; have hz1 := hb1.size) | (go_at_call 27; (with_reducible refine (full2 _).mono ?_); rintro e w1 ⟨rfl, hb1⟩; have hz1 := hb1.size) | (go_at_call 29; (with_reducible refine (Passed_any _ _ _).mono ?_); rintro e w1 ⟨rfl, rfl⟩) | (go_at_call 19; (with_reducible refine (bawake_any _).mono ?_); rintro e w1 ⟨rfl, hb1⟩; have hz1 := hb1.size))
  go_ret
  exact ⟨rfl, by (repeat (with_reducible (first | exact Below.refl _ _ | assumption | refine bl_alloc ?_ _ | refine bl_drew ?_ | refine bl_drewN ?_ _ | (refine bl_set ?_ ?_ _; (focus (first | (simp; done) | (simp; omega) | omega))) | refine bl_then ?_ (by assumption))))⟩
end Go.Proofs.Ytocibljkmgffeaa
