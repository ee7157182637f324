/- The law package of backoff: BackoffSumsUp, BackoffRises. -/
import Derived.Test.YtocibljkmgffeaaBack9
import Derived.Test.YtocibljkmgffeaaKit
namespace Go.Proofs.Ytocibljkmgffeaa
open Go.RowKit Go.Proofs.Ytocibljkmgffeaa.Bk Go.Proofs.Ytocibljkmgffeaa.Ck

theorem sN_lo {base cap : Int} (h1 : 1 ≤ base) (h2 : base ≤ cap) (k : Nat) : (k : Int) * base ≤ sN base cap k := by
  induction k with
  | zero => simp [sN]
  | succ k ih =>
    have := wN_bd h1 h2 k
    simp only [sN, Int.natCast_add, Int.add_mul]
    omega

set_option maxRecDepth 100000 in
set_option maxHeartbeats 2000000 in
theorem BackoffSumsUp_walk (s b c : Int) (w : World) :
    Calls Try.prog 8 #[.int .i64 s, .int .i64 b, .int .i64 c] w fun e w' => e = .returned (.bool true) ∧ Below w.heap.size w w' := by
  have ⟨p1, p2⟩ := @pick_bd s 1000 (by omega)
  have ⟨p3, p4⟩ := @pick_bd b 1048576 (by omega)
  have ⟨p5, p6⟩ := @pick_bd c (1048576 - (1 + pickN b 1048576) + 1) (by omega)
  go_enter Try.func8, Try.ntmps8
  go_wp2_with (first | (go_at_call 34; (with_reducible refine (Pick_any _ _ _ (by omega)).mono ?_); rintro e w1 ⟨rfl, rfl⟩) | (go_at_call 6; (with_reducible refine (BackoffKnown_walk _).mono ?_); rintro e w1 ⟨rfl, hb1⟩; have hz1 := hb1.size))
  generalize pickN c (1048576 - (1 + pickN b 1048576) + 1) = C0 at *
  generalize pickN b 1048576 = B0 at *
  generalize pickN s 1000 = S0 at *
  obtain ⟨S, rfl⟩ := Int.eq_ofNat_of_zero_le p1
  have q1 : 1 ≤ 1 + B0 := by omega
  have q2 : 1 + B0 ≤ 1 + B0 + C0 := by omega
  have q3 : 1 + B0 + C0 ≤ 1048576 := by omega
  generalize 1 + B0 + C0 = C at *
  generalize 1 + B0 = B at *
  have hc : chkW B C = 0 := by rw [chkW, if_pos ⟨q1, q2, q3⟩]
  have a1 := fun W => bAll_yes S B C W (by omega) hc
  have a2 := fun W => bAll_yes (S + 1) B C W (by omega) hc
  rw [show ((S + 1 : Nat) : Int) = (S : Int) + 1 by omega, show sN B C (S + 1) = sN B C S + wN B C S from rfl] at a2
  have a3 : ∀ W, Calls Try.prog 25 #[.int .i64 0, .int .i64 B, .int .i64 C] W fun e w' => e = .returned (.tuple #[.int .i64 0, .int .i64 0]) ∧ Below W.heap.size W w' := fun W => bAll_yes 0 B C W (by omega) hc
  have a4 := fun W => bWait_yes S B C W (by omega) hc
  obtain ⟨y1, y2⟩ := sN_bd q1 q2 S
  have y3 := sN_lo q1 q2 S
  obtain ⟨x1, x2⟩ := wN_bd q1 q2 S
  have m1 : (S : Int) * C ≤ 1000 * 1048576 := Int.mul_le_mul (by omega) q3 (by omega) (by omega)
  have m2 : 0 ≤ (S : Int) * B := Int.mul_nonneg (by omega) (by omega)
  have e1 : IntKind.i64.wrap ((S : Int) * C) = (S : Int) * C := IntWalk.i64_in _ (by omega)
  have e2 : IntKind.i64.wrap ((S : Int) * B) = (S : Int) * B := IntWalk.i64_in _ (by omega)
  have A1 := Lib.hid a1
  have A2 := Lib.hid a2
  have A3 := Lib.hid a3
  have A4 := Lib.hid a4
  clear a1 a2 a3 a4 hc
  go_wp2_with (first | (go_at_call 25; (with_reducible refine (A1.out _).mono ?_); rintro e w1 ⟨rfl, hb1⟩; have hz1 := hb1.size) | (go_at_call 25; (with_reducible refine (A2.out _).mono ?_); rintro e w1 ⟨rfl, hb1⟩; have hz1 := hb1.size) | (go_at_call 25; (with_reducible refine (A3.out _).mono ?_); rintro e w1 ⟨rfl, hb1⟩; have hz1 := hb1.size) | (go_at_call 13; (with_reducible refine (A4.out _).mono ?_); rintro e w1 ⟨rfl, hb1⟩; have hz1 := hb1.size))
  go_ret
  exact ⟨rfl, by (repeat (with_reducible (first | exact Below.refl _ _ | assumption | refine bl_alloc ?_ _ | refine bl_drew ?_ | refine bl_drewN ?_ _ | (refine bl_set ?_ ?_ _; (focus (first | (simp; done) | (simp; omega) | omega))) | refine bl_then ?_ (by assumption))))⟩
end Go.Proofs.Ytocibljkmgffeaa
