/- The walks of package backoff: All at every input, the reference's All. -/
import Derived.Test.YtocibljkmgffeaaBack5
namespace Go.Proofs.Ytocibljkmgffeaa
open Go.RowKit Go.Shelf Go.Proofs.Ytocibljkmgffeaa.Bk
attribute [local go_sem] cell_alloc_some frozen_alloc_some

def allN (s b c : Int) : Int := if chkW b c = 0 ∧ 0 ≤ s ∧ s ≤ 1000 then sN b c s.toNat else 0

theorem waitE_03 (s b c : Int) : waitE s b c = 0 ∨ waitE s b c = 3 := by unfold waitE; split <;> simp
theorem waitE_yes {s b c : Int} (h : chkW b c = 0 ∧ 0 ≤ s ∧ s ≤ 1000) : waitE s b c = 0 := by rw [waitE, if_pos h]
theorem waitE_no {s b c : Int} (h : ¬ (chkW b c = 0 ∧ 0 ≤ s ∧ s ≤ 1000)) : waitE s b c = 3 := by rw [waitE, if_neg h]

set_option maxHeartbeats 400000 in
theorem bAll_no (s b c : Int) (w : World) (h : ¬ (chkW b c = 0 ∧ 0 ≤ s ∧ s ≤ 1000)) :
    Calls Try.prog 25 #[.int .i64 s, .int .i64 b, .int .i64 c] w fun e w' => e = .returned (.tuple #[.int .i64 0, .int .i64 3]) ∧ Below w.heap.size w w' := by
  have h3 := waitE_no h
  clear h
  go_enter Try.func25, Try.ntmps25
  go_wp2
  go_step3
  go_wp2_with (go_at_call 13; (with_reducible refine (bWait_any _ _ _ _).mono ?_); rintro e w1 ⟨rfl, hb1⟩; have hz1 := hb1.size; have B0 : w1.heap[w.heap.size]? = some _ := kb_below hb1 (by (repeat (with_reducible (first | assumption | (apply kb_new; (focus (simp; done))) | apply kb_alloc | apply kb_drew | apply kb_drewN | apply kb_set | (apply kb_far; (focus (first | (simp; done) | (simp; omega)))))))); have c0 := kb_cell B0; have z0 := kb_frozen B0; have B1 : w1.heap[w.heap.size + 1]? = some _ := kb_below hb1 (by (repeat (with_reducible (first | assumption | (apply kb_new; (focus (simp; done))) | apply kb_alloc | apply kb_drew | apply kb_drewN | apply kb_set | (apply kb_far; (focus (first | (simp; done) | (simp; omega)))))))); have c1 := kb_cell B1; have z1 := kb_frozen B1)
  try rw [Exit.noGoto_ret]
  exact bodyPost_ret (v := .tuple #[.int .i64 0, .int .i64 3]) (by simp [results, Try.results25, go_sem, *]) rfl ⟨rfl, by (repeat (with_reducible (first | exact Below.refl _ _ | assumption | refine bl_alloc ?_ _ | refine bl_drew ?_ | refine bl_drewN ?_ _ | (refine bl_set ?_ ?_ _; (focus (first | (simp; done) | (simp; omega) | omega))) | refine bl_then ?_ (by assumption))))⟩

theorem bAll_any (s b c : Int) (w : World) :
    Calls Try.prog 25 #[.int .i64 s, .int .i64 b, .int .i64 c] w fun e w' => e = .returned (.tuple #[.int .i64 (allN s b c), .int .i64 (waitE s b c)]) ∧ Below w.heap.size w w' := by
  by_cases h : chkW b c = 0 ∧ 0 ≤ s ∧ s ≤ 1000
  · rw [allN, if_pos h, waitE_yes h]
    have := bAll_yes s.toNat b c w (by omega) h.1
    rwa [Int.toNat_of_nonneg h.2.1] at this
  · rw [allN, if_neg h, waitE_no h]
    exact bAll_no s b c w h

set_option maxHeartbeats 400000 in
theorem rbAll_no (s b c : Int) (w : World) (h : ¬ (chkW b c = 0 ∧ 0 ≤ s ∧ s ≤ 1000)) :
    Calls Try.prog 26 #[.int .i64 s, .int .i64 b, .int .i64 c] w fun e w' => e = .returned (.tuple #[.int .i64 0, .int .i64 3]) ∧ w = w' := by
  have h3 := waitE_no h
  clear h
  go_enter Try.func26, Try.ntmps26
  go_wp2_with (go_at_call 14; (with_reducible refine (rbWait_any _ _ _ _).mono ?_); rintro e w1 ⟨rfl, rfl⟩)
  go_ret2
  exact ⟨rfl, rfl⟩

set_option maxHeartbeats 400000 in
theorem rbAll_yes (S : Nat) (b c : Int) (w : World) (hs : S ≤ 1000) (hc : chkW b c = 0) :
    Calls Try.prog 26 #[.int .i64 S, .int .i64 b, .int .i64 c] w fun e w' => e = .returned (.tuple #[.int .i64 (sN b c S), .int .i64 0]) ∧ w = w' := by
  obtain ⟨q1, q2, q3⟩ := chkW_ok hc
  go_enter Try.func26, Try.ntmps26
  go_wp2_with (go_at_call 14; (with_reducible refine (rbWait_yes S b c _ hs hc).mono ?_); rintro e w1 ⟨rfl, rfl⟩)
  go_loop [10, 11, 12, 13, 24, 25, 26, 27, 28, 29, 30, 31, 32, 33, 34, 35, 36, 37, 38] (fun s10 s11 _ _ _ _ _ _ _ _ _ _ _ _ _ _ _ _ _ => ∃ k : Nat, k ≤ S ∧ s10 = .int .i64 (sN b c k) ∧ s11 = .int .i64 k) (fun _ s11 _ _ _ _ _ _ _ _ _ _ _ _ _ _ _ _ _ => S - (intOf s11).toNat)
  case atStart => exact ⟨0, by omega, rfl, rfl⟩
  case round =>
    obtain ⟨k, hk, rfl, rfl⟩ := hrel
    obtain ⟨y1, y2⟩ := sN_bd q1 q2 k
    obtain ⟨x1, x2⟩ := wN_bd q1 q2 k
    have y3 : sN b c k ≤ 1048576000 := by
      have : (k : Int) * c ≤ 1000 * 1048576 := Int.mul_le_mul (by omega) q3 (by omega) (by omega)
      omega
    clear y2
    by_cases hlt : k < S
    · have hk10 : k ≤ 1000 := by omega
      go_wp2_with (go_at_call 14; (with_reducible refine (rbWait_yes k b c _ hk10 hc).mono ?_); rintro e w1 ⟨rfl, rfl⟩)
      go_round
      case rel => exact ⟨k + 1, by omega, by rw [sN], by go_num⟩
      case measure => simp [intOf]; omega
    · obtain rfl : k = S := by omega
      go_wp2
      go_ret2
      exact ⟨rfl, rfl⟩

theorem rbAll_any (s b c : Int) (w : World) :
    Calls Try.prog 26 #[.int .i64 s, .int .i64 b, .int .i64 c] w fun e w' => e = .returned (.tuple #[.int .i64 (allN s b c), .int .i64 (waitE s b c)]) ∧ w = w' := by
  by_cases h : chkW b c = 0 ∧ 0 ≤ s ∧ s ≤ 1000
  · rw [allN, if_pos h, waitE_yes h]
    have := rbAll_yes s.toNat b c w (by omega) h.1
    rwa [Int.toNat_of_nonneg h.2.1] at this
  · rw [allN, if_neg h, waitE_no h]
    exact rbAll_no s b c w h
end Go.Proofs.Ytocibljkmgffeaa
