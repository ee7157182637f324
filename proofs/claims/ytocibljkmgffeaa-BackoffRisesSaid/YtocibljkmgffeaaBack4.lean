/- The walks of package backoff and of its reference: Wait at every input, Deadline. -/
import Derived.Test.YtocibljkmgffeaaBack3
import Derived.Test.YtocibljkmgffeaaClock2
namespace Go.Proofs.Ytocibljkmgffeaa
open Go.RowKit Go.Proofs.Ytocibljkmgffeaa.Bk Go.Proofs.Ytocibljkmgffeaa.Ck

def waitE (s b c : Int) : Int := if chkW b c = 0 ∧ 0 ≤ s ∧ s ≤ 1000 then 0 else 3
def waitN (s b c : Int) : Int := if chkW b c = 0 ∧ 0 ≤ s ∧ s ≤ 1000 then wN b c s.toNat else 0

attribute [local go_sem] cell_alloc_some frozen_alloc_some

set_option maxHeartbeats 400000 in
theorem bWait_no1 (s b c : Int) (w : World) (h : ¬ chkW b c = 0) :
    Calls Try.prog 13 #[.int .i64 s, .int .i64 b, .int .i64 c] w fun e w' => e = .returned (.tuple #[.int .i64 0, .int .i64 3]) ∧ Below w.heap.size w w' := by
  have h3 : chkW b c = 3 := by unfold chkW at h ⊢; split at h <;> simp_all
  go_enter Try.func13, Try.ntmps13
  go_wp2_with (go_at_call 17; (with_reducible refine (bCheck_any _ _ _).mono ?_); rintro e w1 ⟨rfl, hb1⟩; have hz1 := hb1.size; have B0 : w1.heap[w.heap.size]? = some _ := kb_below hb1 (by (repeat (with_reducible (first | assumption | (apply kb_new; (focus (simp; done))) | apply kb_alloc | apply kb_drew | apply kb_drewN | apply kb_set | (apply kb_far; (focus (first | (simp; done) | (simp; omega)))))))); have c0 := kb_cell B0; have z0 := kb_frozen B0; have B1 : w1.heap[w.heap.size + 1]? = some _ := kb_below hb1 (by (repeat (with_reducible (first | assumption | (apply kb_new; (focus (simp; done))) | apply kb_alloc | apply kb_drew | apply kb_drewN | apply kb_set | (apply kb_far; (focus (first | (simp; done) | (simp; omega)))))))); have c1 := kb_cell B1; have z1 := kb_frozen B1; have B2 : w1.heap[w.heap.size + 2]? = some _ := kb_below hb1 (by (repeat (with_reducible (first | assumption | (apply kb_new; (focus (simp; done))) | apply kb_alloc | apply kb_drew | apply kb_drewN | apply kb_set | (apply kb_far; (focus (first | (simp; done) | (simp; omega)))))))); have c2 := kb_cell B2; have z2 := kb_frozen B2)
  exact bodyPost_ret (v := .tuple #[.int .i64 0, .int .i64 3]) (by simp [results, Try.results13, go_sem, *]) rfl ⟨rfl, by (repeat (with_reducible (first | exact Below.refl _ _ | assumption | refine bl_alloc ?_ _ | refine bl_drew ?_ | refine bl_drewN ?_ _ | (refine bl_set ?_ ?_ _; (focus (first | (simp; done) | (simp; omega) | omega))) | refine bl_then ?_ (by assumption))))⟩

set_option maxHeartbeats 400000 in
theorem bWait_no2 (s b c : Int) (w : World) (h : chkW b c = 0) (hs : ¬ (0 ≤ s ∧ s ≤ 1000)) :
    Calls Try.prog 13 #[.int .i64 s, .int .i64 b, .int .i64 c] w fun e w' => e = .returned (.tuple #[.int .i64 0, .int .i64 3]) ∧ Below w.heap.size w w' := by
  have ha : allB [decide (0 ≤ s), decide (s ≤ 1000)] = false := by simp [allB]; omega
  go_enter Try.func13, Try.ntmps13
  go_wp2_with (go_at_call 17; (with_reducible refine (bCheck_any _ _ _).mono ?_); rintro e w1 ⟨rfl, hb1⟩; have hz1 := hb1.size; have B0 : w1.heap[w.heap.size]? = some _ := kb_below hb1 (by (repeat (with_reducible (first | assumption | (apply kb_new; (focus (simp; done))) | apply kb_alloc | apply kb_drew | apply kb_drewN | apply kb_set | (apply kb_far; (focus (first | (simp; done) | (simp; omega)))))))); have c0 := kb_cell B0; have z0 := kb_frozen B0; have B1 : w1.heap[w.heap.size + 1]? = some _ := kb_below hb1 (by (repeat (with_reducible (first | assumption | (apply kb_new; (focus (simp; done))) | apply kb_alloc | apply kb_drew | apply kb_drewN | apply kb_set | (apply kb_far; (focus (first | (simp; done) | (simp; omega)))))))); have c1 := kb_cell B1; have z1 := kb_frozen B1; have B2 : w1.heap[w.heap.size + 2]? = some _ := kb_below hb1 (by (repeat (with_reducible (first | assumption | (apply kb_new; (focus (simp; done))) | apply kb_alloc | apply kb_drew | apply kb_drewN | apply kb_set | (apply kb_far; (focus (first | (simp; done) | (simp; omega)))))))); have c2 := kb_cell B2; have z2 := kb_frozen B2)
  refine (all_any _ _ _ [decide (0 ≤ s), decide (s ≤ 1000)] _ (by simp) (fun k hk => cells_bools (kb_new rfl _) k hk)).mono ?_
  rintro e w2 ⟨rfl, rfl⟩
  rw [ha]
  clear ha
  go_wp2
  exact bodyPost_ret (v := .tuple #[.int .i64 0, .int .i64 3]) (by simp [results, Try.results13, go_sem, *]) rfl ⟨rfl, by (repeat (with_reducible (first | exact Below.refl _ _ | assumption | refine bl_alloc ?_ _ | refine bl_drew ?_ | refine bl_drewN ?_ _ | (refine bl_set ?_ ?_ _; (focus (first | (simp; done) | (simp; omega) | omega))) | refine bl_then ?_ (by assumption))))⟩

theorem bWait_any (s b c : Int) (w : World) :
    Calls Try.prog 13 #[.int .i64 s, .int .i64 b, .int .i64 c] w fun e w' => e = .returned (.tuple #[.int .i64 (waitN s b c), .int .i64 (waitE s b c)]) ∧ Below w.heap.size w w' := by
  unfold waitN waitE
  by_cases h : chkW b c = 0
  · by_cases hs : 0 ≤ s ∧ s ≤ 1000
    · rw [if_pos ⟨h, hs⟩, if_pos ⟨h, hs⟩]
      have := bWait_yes s.toNat b c w (by omega) h
      rwa [Int.toNat_of_nonneg hs.1] at this
    · rw [if_neg (fun g => hs g.2), if_neg (fun g => hs g.2)]
      exact bWait_no2 s b c w h hs
  · rw [if_neg (fun g => h g.1), if_neg (fun g => h g.1)]
    exact bWait_no1 s b c w h

set_option maxHeartbeats 400000 in
theorem rbWait_no (s b c : Int) (w : World) (h : ¬ (chkW b c = 0 ∧ 0 ≤ s ∧ s ≤ 1000)) :
    Calls Try.prog 14 #[.int .i64 s, .int .i64 b, .int .i64 c] w fun e w' => e = .returned (.tuple #[.int .i64 0, .int .i64 3]) ∧ w = w' := by
  by_cases h1 : chkW b c = 0
  · by_cases h2 : 0 ≤ s
    · have h3 : 1000 < s := by omega
      clear h
      go_enter Try.func14, Try.ntmps14
      go_wp2_with (go_at_call 18; (with_reducible refine (rbCheck_any _ _ _).mono ?_); rintro e w1 ⟨rfl, rfl⟩)
      go_ret2
      exact ⟨rfl, rfl⟩
    · clear h
      go_enter Try.func14, Try.ntmps14
      go_wp2_with (go_at_call 18; (with_reducible refine (rbCheck_any _ _ _).mono ?_); rintro e w1 ⟨rfl, rfl⟩)
      go_ret2
      exact ⟨rfl, rfl⟩
  · have h3 : chkW b c = 3 := by unfold chkW at h1 ⊢; split at h1 <;> simp_all
    clear h h1
    go_enter Try.func14, Try.ntmps14
    go_wp2_with (go_at_call 18; (with_reducible refine (rbCheck_any _ _ _).mono ?_); rintro e w1 ⟨rfl, rfl⟩)
    go_ret2
    exact ⟨rfl, rfl⟩

set_option maxHeartbeats 400000 in
theorem rbWait_yes (S : Nat) (b c : Int) (w : World) (hs : S ≤ 1000) (hc : chkW b c = 0) :
    Calls Try.prog 14 #[.int .i64 S, .int .i64 b, .int .i64 c] w fun e w' => e = .returned (.tuple #[.int .i64 (wN b c S), .int .i64 0]) ∧ w = w' := by
  obtain ⟨q1, q2, q3⟩ := chkW_ok hc
  go_enter Try.func14, Try.ntmps14
  go_wp2_with (go_at_call 18; (with_reducible refine (rbCheck_any _ _ _).mono ?_); rintro e w1 ⟨rfl, rfl⟩)
  go_loop [8, 9, 23, 24, 25, 26, 27, 28, 29, 30, 31] (fun s8 s9 _ _ _ _ _ _ _ _ _ => ∃ k : Nat, k ≤ S ∧ s8 = .int .i64 (wN b c k) ∧ s9 = .int .i64 k) (fun _ s9 _ _ _ _ _ _ _ _ _ => S - (intOf s9).toNat)
  case atStart => exact ⟨0, by omega, rfl, rfl⟩
  case round =>
    obtain ⟨k, hk, rfl, rfl⟩ := hrel
    obtain ⟨w1, w2⟩ := wN_bd q1 q2 k
    by_cases hlt : k < S
    · go_wp2
      go_round
      case rel => exact ⟨k + 1, by omega, by rw [wN_succ]; congr 1; omega, by go_num⟩
      case measure => simp [intOf]; omega
    · obtain rfl : k = S := by omega
      go_wp2
      go_ret2
      exact ⟨rfl, rfl⟩

theorem rbWait_any (s b c : Int) (w : World) :
    Calls Try.prog 14 #[.int .i64 s, .int .i64 b, .int .i64 c] w fun e w' => e = .returned (.tuple #[.int .i64 (waitN s b c), .int .i64 (waitE s b c)]) ∧ w = w' := by
  unfold waitN waitE
  by_cases h : chkW b c = 0 ∧ 0 ≤ s ∧ s ≤ 1000
  · rw [if_pos h, if_pos h]
    have := rbWait_yes s.toNat b c w (by omega) h.1
    rwa [Int.toNat_of_nonneg h.2.1] at this
  · rw [if_neg h, if_neg h]
    exact rbWait_no s b c w h

def deadN (now s b c : Int) : Int := if waitE s b c = 0 then laterN now (waitN s b c) else 0
def deadE (now s b c : Int) : Int := if waitE s b c = 0 then laterE now (waitN s b c) else waitE s b c

set_option maxHeartbeats 400000 in
theorem Deadline_any (now s b c : Int) (w : World) :
    Calls Try.prog 15 #[.int .i64 now, .int .i64 s, .int .i64 b, .int .i64 c] w fun e w' => e = .returned (.tuple #[.int .i64 (deadN now s b c), .int .i64 (deadE now s b c)]) ∧ Below w.heap.size w w' := by
  unfold deadN deadE
  by_cases h : waitE s b c = 0
  · rw [if_pos h, if_pos h]
    go_enter Try.func15, Try.ntmps15
    go_wp2_with (first | (go_at_call 13; (with_reducible refine (bWait_any _ _ _ _).mono ?_); rintro e w1 ⟨rfl, hb1⟩; have hz1 := hb1.size) | (go_at_call 20; (with_reducible refine (Later_any _ _ _).mono ?_); rintro e w1 ⟨rfl, hb1⟩; have hz1 := hb1.size))
    go_ret2
    exact ⟨rfl, by (repeat (with_reducible (first | exact Below.refl _ _ | assumption | refine bl_alloc ?_ _ | refine bl_drew ?_ | refine bl_drewN ?_ _ | (refine bl_set ?_ ?_ _; (focus (first | (simp; done) | (simp; omega) | omega))) | refine bl_then ?_ (by assumption))))⟩
  · rw [if_neg h, if_neg h]
    have hb := ne_bne h
    clear h
    go_enter Try.func15, Try.ntmps15
    go_wp2_with (first | (go_at_call 13; (with_reducible refine (bWait_any _ _ _ _).mono ?_); rintro e w1 ⟨rfl, hb1⟩; have hz1 := hb1.size) | (go_at_call 20; (with_reducible refine (Later_any _ _ _).mono ?_); rintro e w1 ⟨rfl, hb1⟩; have hz1 := hb1.size))
    go_ret2
    exact ⟨rfl, by (repeat (with_reducible (first | exact Below.refl _ _ | assumption | refine bl_alloc ?_ _ | refine bl_drew ?_ | refine bl_drewN ?_ _ | (refine bl_set ?_ ?_ _; (focus (first | (simp; done) | (simp; omega) | omega))) | refine bl_then ?_ (by assumption))))⟩

set_option maxHeartbeats 400000 in
theorem rDeadline_any (now s b c : Int) (w : World) :
    Calls Try.prog 16 #[.int .i64 now, .int .i64 s, .int .i64 b, .int .i64 c] w fun e w' => e = .returned (.tuple #[.int .i64 (deadN now s b c), .int .i64 (deadE now s b c)]) ∧ Below w.heap.size w w' := by
  unfold deadN deadE
  by_cases h : waitE s b c = 0
  · rw [if_pos h, if_pos h]
    go_enter Try.func16, Try.ntmps16
    go_wp2_with (first | (go_at_call 14; (with_reducible refine (rbWait_any _ _ _ _).mono ?_); rintro e w1 ⟨rfl, rfl⟩) | (go_at_call 21; (with_reducible refine (rLater_any _ _ _).mono ?_); rintro e w1 ⟨rfl, hb1⟩; have hz1 := hb1.size))
    go_ret2
    exact ⟨rfl, by (repeat (with_reducible (first | exact Below.refl _ _ | assumption | refine bl_alloc ?_ _ | refine bl_drew ?_ | refine bl_drewN ?_ _ | (refine bl_set ?_ ?_ _; (focus (first | (simp; done) | (simp; omega) | omega))) | refine bl_then ?_ (by assumption))))⟩
  · rw [if_neg h, if_neg h]
    have hb := ne_bne h
    clear h
    go_enter Try.func16, Try.ntmps16
    go_wp2_with (first | (go_at_call 14; (with_reducible refine (rbWait_any _ _ _ _).mono ?_); rintro e w1 ⟨rfl, rfl⟩) | (go_at_call 21; (with_reducible refine (rLater_any _ _ _).mono ?_); rintro e w1 ⟨rfl, hb1⟩; have hz1 := hb1.size))
    go_ret2
    exact ⟨rfl, by (repeat (with_reducible (first | exact Below.refl _ _ | assumption | refine bl_alloc ?_ _ | refine bl_drew ?_ | refine bl_drewN ?_ _ | (refine bl_set ?_ ?_ _; (focus (first | (simp; done) | (simp; omega) | omega))) | refine bl_then ?_ (by assumption))))⟩
end Go.Proofs.Ytocibljkmgffeaa
