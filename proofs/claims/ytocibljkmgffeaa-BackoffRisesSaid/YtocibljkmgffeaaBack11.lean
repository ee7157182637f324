/- The law package of backoff: BackoffRises. -/
import Derived.Test.YtocibljkmgffeaaBack10
namespace Go.Proofs.Ytocibljkmgffeaa
open Go.RowKit Go.Proofs.Ytocibljkmgffeaa.Bk Go.Proofs.Ytocibljkmgffeaa.Ck

theorem wN_up {b c : Int} (h1 : 1 ≤ b) (h2 : b ≤ c) (k : Nat) : wN b c k ≤ wN b c (k + 1) ∧ wN b c (k + 1) ≤ 2 * wN b c k := by
  have := wN_bd h1 h2 k
  rw [wN_succ]; omega

theorem deadN_fine {now b c : Int} {S : Nat} (hc : chkW b c = 0) (hs : S ≤ 1000) (h0 : 0 ≤ now) (h1 : now ≤ 1099510579200) : deadN now S b c = now + wN b c S ∧ deadE now S b c = 0 := by
  obtain ⟨q1, q2, q3⟩ := chkW_ok hc
  obtain ⟨x1, x2⟩ := wN_bd q1 q2 S
  have hE : waitE S b c = 0 := waitE_yes ⟨hc, by omega, by omega⟩
  have hN : waitN S b c = wN b c S := by rw [waitN, if_pos ⟨hc, by omega, by omega⟩]; rfl
  have ht : timeB now = true := by simp [timeB, fineB]; omega
  refine ⟨?_, ?_⟩
  · rw [deadN, if_pos hE, hN, laterN, ht]
    rw [if_pos (by simp; omega)]
    omega
  · rw [deadE, if_pos hE, hN, laterE, ht]
    rw [if_pos (by simp; omega)]

set_option maxRecDepth 100000 in
set_option maxHeartbeats 2000000 in
theorem BackoffRises_walk (s b c now : Int) (w : World) :
    Calls Try.prog 7 #[.int .i64 s, .int .i64 b, .int .i64 c, .int .i64 now] w fun e w' => e = .returned (.bool true) ∧ Below w.heap.size w w' := by
  have ⟨p1, p2⟩ := @pick_bd s 1000 (by omega)
  have ⟨p3, p4⟩ := @pick_bd b 1048576 (by omega)
  have ⟨p5, p6⟩ := @pick_bd c (1048576 - (1 + pickN b 1048576) + 1) (by omega)
  have ⟨p7, p8⟩ := @pick_bd now 1099510579200 (by omega)
  go_enter Try.func7, Try.ntmps7
  go_wp2_with (first | (go_at_call 34; (with_reducible refine (Pick_any _ _ _ (by omega)).mono ?_); rintro e w1 ⟨rfl, rfl⟩) | (go_at_call 6; (with_reducible refine (BackoffKnown_walk _).mono ?_); rintro e w1 ⟨rfl, hb1⟩; have hz1 := hb1.size))
  generalize pickN c (1048576 - (1 + pickN b 1048576) + 1) = C0 at *
  generalize pickN b 1048576 = B0 at *
  generalize pickN s 1000 = S0 at *
  generalize pickN now 1099510579200 = N at *
  obtain ⟨S, rfl⟩ := Int.eq_ofNat_of_zero_le p1
  have q1 : 1 ≤ 1 + B0 := by omega
  have q2 : 1 + B0 ≤ 1 + B0 + C0 := by omega
  have q3 : 1 + B0 + C0 ≤ 1048576 := by omega
  generalize 1 + B0 + C0 = C at *
  generalize 1 + B0 = B at *
  have hc : chkW B C = 0 := by rw [chkW, if_pos ⟨q1, q2, q3⟩]
  obtain ⟨K, hK⟩ := fullAt q1 q2 q3
  obtain ⟨d1, d2⟩ := deadN_fine (S := S) hc (by omega) p7 (by omega)
  have a1 := fun W => bWait_yes S B C W (by omega) hc
  have a2 := fun W => bWait_yes (S + 1) B C W (by omega) hc
  rw [show ((S + 1 : Nat) : Int) = (S : Int) + 1 by omega] at a2
  have a3 := fun W => bFull_yes K B C W hK hc
  have a4 := fun W => Deadline_any N S B C W
  rw [d1, d2] at a4
  have A1 := Lib.hid a1
  have A2 := Lib.hid a2
  have A3 := Lib.hid a3
  have A4 := Lib.hid a4
  clear a1 a2 a3 a4 hc d1 d2
  obtain ⟨x1, x2⟩ := wN_bd q1 q2 S
  obtain ⟨x3, x4⟩ := wN_bd q1 q2 (S + 1)
  obtain ⟨x5, x6⟩ := wN_up q1 q2 S
  obtain ⟨t1, t2, t3⟩ := hK
  by_cases hk : K ≤ S
  · have hv : wN B C S = C := by have := wN_stay (by omega) t2 (S - K); rwa [show K + (S - K) = S by omega] at this
    clear t2 t3
    generalize wN B C (S + 1) = u at *
    generalize wN B C S = v at *
    subst hv
    go_wp2_with (first | (go_at_call 13; (with_reducible refine (A1.out _).mono ?_); rintro e w1 ⟨rfl, hb1⟩; have hz1 := hb1.size) | (go_at_call 13; (with_reducible refine (A2.out _).mono ?_); rintro e w1 ⟨rfl, hb1⟩; have hz1 := hb1.size) | (go_at_call 27; (with_reducible refine (A3.out _).mono ?_); rintro e w1 ⟨rfl, hb1⟩; have hz1 := hb1.size) | (go_at_call 15; (with_reducible refine (A4.out _).mono ?_); rintro e w1 ⟨rfl, hb1⟩; have hz1 := hb1.size) | (go_at_call 29; (with_reducible refine (Passed_any _ _ _).mono ?_); rintro e w1 ⟨rfl, rfl⟩))
    go_ret
    refine ⟨?_, by (repeat (with_reducible (first | exact Below.refl _ _ | assumption | refine bl_alloc ?_ _ | refine bl_drew ?_ | refine bl_drewN ?_ _ | (refine bl_set ?_ ?_ _; (focus (first | (simp; done) | (simp; omega) | omega))) | refine bl_then ?_ (by assumption))))⟩
    show Ending.returned (.bool (!decide (N + v ≤ N + v - 1))) = _
    rw [decide_eq_false (show ¬ (N + v ≤ N + v - 1) by omega)]
    rfl
  · have hv : wN B C S ≠ C := t3 S (by omega)
    clear t2 t3
    generalize wN B C (S + 1) = u at *
    generalize wN B C S = v at *
    have hne : (v == C) = false := by simpa using hv
    clear hv
    go_wp2_with (first | (go_at_call 13; (with_reducible refine (A1.out _).mono ?_); rintro e w1 ⟨rfl, hb1⟩; have hz1 := hb1.size) | (go_at_call 13; (with_reducible refine (A2.out _).mono ?_); rintro e w1 ⟨rfl, hb1⟩; have hz1 := hb1.size) | (go_at_call 27; (with_reducible refine (A3.out _).mono ?_); rintro e w1 ⟨rfl, hb1⟩; have hz1 := hb1.size) | (go_at_call 15; (with_reducible refine (A4.out _).mono ?_); rintro e w1 ⟨rfl, hb1⟩; have hz1 := hb1.size) | (go_at_call 29; (with_reducible refine (Passed_any _ _ _).mono ?_); rintro e w1 ⟨rfl, rfl⟩))
    go_ret
    refine ⟨?_, by (repeat (with_reducible (first | exact Below.refl _ _ | assumption | refine bl_alloc ?_ _ | refine bl_drew ?_ | refine bl_drewN ?_ _ | (refine bl_set ?_ ?_ _; (focus (first | (simp; done) | (simp; omega) | omega))) | refine bl_then ?_ (by assumption))))⟩
    show Ending.returned (.bool (!decide (N + v ≤ N + v - 1))) = _
    rw [decide_eq_false (show ¬ (N + v ≤ N + v - 1) by omega)]
    rfl
end Go.Proofs.Ytocibljkmgffeaa
