/- PaceMeans, third part: where the least one stands. -/
import Derived.Test.YtgjampkdnpdblaaPace5
namespace Go.Proofs.Ytgjampkdnpdblaa
open Go.RowKit Go.Proofs.Ytgjampkdnpdblaa.Pc BigFrame

/-- Where the least one of the first k stands. -/
def lst (xs : List Nat) : Nat → Int
  | 0 => -1
  | k + 1 => if lst xs k < 0 then k else if cmpF (xs.getD k 0) (xs.getD (lst xs k).toNat 0) < 0 then k else lst xs k
theorem lst_bd (xs : List Nat) (k : Nat) : -1 ≤ lst xs k ∧ lst xs k < k := by
  induction k with
  | zero => simp [lst]
  | succ k ih =>
    simp only [lst]
    split
    · omega
    · split <;> omega

set_option maxHeartbeats 1000000 in
theorem Least_some (b off cap : Nat) (xs : List Nat) (w : World) (hl : xs.length ≤ 60) (hb : b < w.heap.size) (hx : ∀ x ∈ xs, x < 18446744073709551616)
    (hc : ∀ k, k < xs.length → w.cell? ⟨b, off + k, none⟩ = some (.float .f64 (xs.getD k 0))) :
    Calls Try.prog 15 #[.slice (some ⟨b, off, none⟩) xs.length cap] w fun e w' => e = .returned (.int .i64 (lst xs xs.length)) ∧ Below w.heap.size w w' := by
  go_enter Try.func15, Try.ntmps15
  go_wp2
  go_loopw [3, 4, 5, 8, 9, 10, 11, 12, 13, 14, 15, 16, 17, 18, 19, 20, 21, 22, 23, 24, 25] (fun v _ _ i _ _ _ _ _ _ _ _ _ _ _ _ _ _ _ _ _ wr => ∃ k : Nat, k ≤ xs.length ∧ i = .int .i64 k ∧ v = .int .i64 (lst xs k) ∧ Below w.heap.size w wr)
    (fun _ _ _ i _ _ _ _ _ _ _ _ _ _ _ _ _ _ _ _ _ _ => xs.length - (intOf i).toNat)
  case atStart => exact ⟨0, Nat.zero_le _, rfl, rfl, Below.refl _ _⟩
  case round =>
    obtain ⟨k, hk, rfl, rfl, hnx⟩ := hrel
    have hcx : ∀ k, k < xs.length → wr.cell? ⟨b, off + k, none⟩ = some (.float .f64 (xs.getD k 0)) := fun k h => (hnx.cell (by exact hb)).trans (hc k h)
    clear hc
    have hxk := small_getD hx k
    obtain ⟨l1, l2⟩ := lst_bd xs k
    by_cases hlt : k < xs.length
    · have hcell := hcx k hlt
      have hn : lst xs (k + 1) = if lst xs k < 0 then (k : Int) else if cmpF (xs.getD k 0) (xs.getD (lst xs k).toNat 0) < 0 then (k : Int) else lst xs k := rfl
      by_cases hneg : lst xs k < 0
      · rw [if_pos hneg] at hn
        have hn' := Lib.hid hn
        generalize xs.getD k 0 = x at hcell hxk
        clear hcx hn
        generalize lst xs k = a at *
        go_wp2
        go_roundw
        case rel => exact ⟨k + 1, by omega, by go_num, by rw [hn'.out], hnx⟩
        case measure => simp [intOf]; omega
      · rw [if_neg hneg] at hn
        have hj := hcx (lst xs k).toNat (by omega)
        have hxj := small_getD hx (lst xs k).toNat
        obtain ⟨j, hj2⟩ := Int.eq_ofNat_of_zero_le (show 0 ≤ lst xs k by omega)
        rw [hj2] at hn hj hxj hneg l1 l2 ⊢
        rw [show ((j : Int)).toNat = j from rfl] at hn hj hxj
        generalize xs.getD k 0 = x at hcell hxk hn
        generalize xs.getD j 0 = y at hj hxj hn
        clear hcx
        by_cases hcmp : cmpF x y < 0
        · rw [if_pos hcmp] at hn
          have hn' := Lib.hid hn
          clear hn hj2
          go_wp2_with (go_at_call 6; (with_reducible refine (Compare_any _ _ _ hxk hxj).mono ?_); rintro e w1 ⟨rfl, hb1⟩; have hz1 := hb1.size)
          go_roundw
          case rel => exact ⟨k + 1, by omega, by go_num, by rw [hn'.out], by (repeat (with_reducible (first | exact Below.refl _ _ | assumption | refine bl_alloc ?_ _ | refine bl_drew ?_ | refine bl_drewN ?_ _ | (refine bl_set ?_ ?_ _; (focus (first | (simp; done) | (simp; omega) | omega))) | refine bl_then ?_ (by assumption))))⟩
          case measure => simp [intOf]; omega
        · rw [if_neg hcmp] at hn
          have hn' := Lib.hid hn
          clear hn hj2
          go_wp2_with (go_at_call 6; (with_reducible refine (Compare_any _ _ _ hxk hxj).mono ?_); rintro e w1 ⟨rfl, hb1⟩; have hz1 := hb1.size)
          go_roundw
          case rel => exact ⟨k + 1, by omega, by go_num, by rw [hn'.out], by (repeat (with_reducible (first | exact Below.refl _ _ | assumption | refine bl_alloc ?_ _ | refine bl_drew ?_ | refine bl_drewN ?_ _ | (refine bl_set ?_ ?_ _; (focus (first | (simp; done) | (simp; omega) | omega))) | refine bl_then ?_ (by assumption))))⟩
          case measure => simp [intOf]; omega
    · obtain rfl : k = xs.length := by omega
      clear hcx
      go_wp2
      go_ret
      exact ⟨rfl, hnx⟩

set_option maxHeartbeats 1000000 in
theorem rLeast_some (b off cap : Nat) (xs : List Nat) (w : World) (hl : xs.length ≤ 60) (hb : b < w.heap.size) (hx : ∀ x ∈ xs, x < 18446744073709551616)
    (hc : ∀ k, k < xs.length → w.cell? ⟨b, off + k, none⟩ = some (.float .f64 (xs.getD k 0))) :
    Calls Try.prog 16 #[.slice (some ⟨b, off, none⟩) xs.length cap] w fun e w' => e = .returned (.int .i64 (lst xs xs.length)) ∧ Below w.heap.size w w' := by
  go_enter Try.func16, Try.ntmps16
  go_wp2
  go_loopw [3, 4, 5, 6, 7, 8, 9, 10, 11, 12, 13, 14, 15, 16, 17, 18, 19, 20, 21, 22, 23, 24, 25] (fun v i _ _ _ _ _ _ _ _ _ _ _ _ _ _ _ _ _ _ _ _ _ wr => ∃ k : Nat, k ≤ xs.length ∧ i = .int .i64 k ∧ v = .int .i64 (lst xs k) ∧ Below w.heap.size w wr)
    (fun _ i _ _ _ _ _ _ _ _ _ _ _ _ _ _ _ _ _ _ _ _ _ _ => xs.length - (intOf i).toNat)
  case atStart => exact ⟨0, Nat.zero_le _, rfl, rfl, Below.refl _ _⟩
  case round =>
    obtain ⟨k, hk, rfl, rfl, hnx⟩ := hrel
    have hcx : ∀ k, k < xs.length → wr.cell? ⟨b, off + k, none⟩ = some (.float .f64 (xs.getD k 0)) := fun k h => (hnx.cell (by exact hb)).trans (hc k h)
    clear hc
    have hxk := small_getD hx k
    obtain ⟨l1, l2⟩ := lst_bd xs k
    by_cases hlt : k < xs.length
    · have hcell := hcx k hlt
      have hn : lst xs (k + 1) = if lst xs k < 0 then (k : Int) else if cmpF (xs.getD k 0) (xs.getD (lst xs k).toNat 0) < 0 then (k : Int) else lst xs k := rfl
      by_cases hneg : lst xs k < 0
      · rw [if_pos hneg] at hn
        have hn' := Lib.hid hn
        generalize xs.getD k 0 = x at hcell hxk
        clear hcx hn
        generalize lst xs k = a at *
        go_wp2_with fail
        (refine wp_region_below (by kernel_rfl) (by kernel_rfl) ?_; (repeat (first | go_big_quiet_skip | (go_big_quiet_want; first | (go_big_quiet_op; go_big_quiet_on) | (apply Exists.intro; refine ⟨fun W hW => ?_, ?_⟩; (focus (unfold Oper.quietAt; go_simp; first | exact rfl | exact ⟨rfl, rfl⟩)); go_big_quiet_on; simp only [Act.put, List.setIfInBounds_toArray, List.set_cons_succ, List.set_cons_zero])))); refine wpQuiet_nil ?_; intro w1 hb1; have hz1 := hb1.size)
        go_wp2
        go_roundw
        case rel => exact ⟨k + 1, by omega, by go_num, by rw [hn'.out], by (repeat (with_reducible (first | exact Below.refl _ _ | assumption | refine bl_alloc ?_ _ | refine bl_drew ?_ | refine bl_drewN ?_ _ | (refine bl_set ?_ ?_ _; (focus (first | (simp; done) | (simp; omega) | omega))) | refine bl_then ?_ (by assumption))))⟩
        case measure => simp [intOf]; omega
      · rw [if_neg hneg] at hn
        have hj := hcx (lst xs k).toNat (by omega)
        have hxj := small_getD hx (lst xs k).toNat
        obtain ⟨j, hj2⟩ := Int.eq_ofNat_of_zero_le (show 0 ≤ lst xs k by omega)
        rw [hj2] at hn hj hxj hneg l1 l2 ⊢
        rw [show ((j : Int)).toNat = j from rfl] at hn hj hxj
        generalize xs.getD k 0 = x at hcell hxk hn
        generalize xs.getD j 0 = y at hj hxj hn
        clear hcx
        have hd : decide ((j : Int) < 0) = false := by simp
        have hjl : j < xs.length := by omega
        have hbr : b < wr.heap.size := Nat.lt_of_lt_of_le hb hnx.size
        by_cases hcmp : cmpF x y < 0
        · rw [if_pos hcmp] at hn
          have hn' := Lib.hid hn
          clear hn hj2
          go_wp2_with fail
          (refine wp_region_below (by kernel_rfl) (by kernel_rfl) ?_; (repeat (first | go_big_quiet_skip | (go_big_quiet_want; first | (go_big_quiet_op; go_big_quiet_on) | (apply Exists.intro; refine ⟨fun W hW => ?_, ?_⟩; (focus (have hcell_r := (hW.cell (by exact hbr)).trans hcell; have hj_r := (hW.cell (by exact hbr)).trans hj; unfold Oper.quietAt; go_simp; first | exact rfl | exact ⟨rfl, rfl⟩ | (go_at_call 7; exact q_same hW (rCompare_any _ _ _ hxk hxj)))); go_big_quiet_on; simp only [Act.put, List.setIfInBounds_toArray, List.set_cons_succ, List.set_cons_zero])))); refine wpQuiet_nil ?_; intro w1 hb1; have hz1 := hb1.size)
          go_wp2
          go_roundw
          case rel => exact ⟨k + 1, by omega, by go_num, by rw [hn'.out], by (repeat (with_reducible (first | exact Below.refl _ _ | assumption | refine bl_alloc ?_ _ | refine bl_drew ?_ | refine bl_drewN ?_ _ | (refine bl_set ?_ ?_ _; (focus (first | (simp; done) | (simp; omega) | omega))) | refine bl_then ?_ (by assumption))))⟩
          case measure => simp [intOf]; omega
        · rw [if_neg hcmp] at hn
          have hn' := Lib.hid hn
          clear hn hj2
          go_wp2_with fail
          (refine wp_region_below (by kernel_rfl) (by kernel_rfl) ?_; (repeat (first | go_big_quiet_skip | (go_big_quiet_want; first | (go_big_quiet_op; go_big_quiet_on) | (apply Exists.intro; refine ⟨fun W hW => ?_, ?_⟩; (focus (have hcell_r := (hW.cell (by exact hbr)).trans hcell; have hj_r := (hW.cell (by exact hbr)).trans hj; unfold Oper.quietAt; go_simp; first | exact rfl | exact ⟨rfl, rfl⟩ | (go_at_call 7; exact q_same hW (rCompare_any _ _ _ hxk hxj)))); go_big_quiet_on; simp only [Act.put, List.setIfInBounds_toArray, List.set_cons_succ, List.set_cons_zero])))); refine wpQuiet_nil ?_; intro w1 hb1; have hz1 := hb1.size)
          go_wp2
          go_roundw
          case rel => exact ⟨k + 1, by omega, by go_num, by rw [hn'.out], by (repeat (with_reducible (first | exact Below.refl _ _ | assumption | refine bl_alloc ?_ _ | refine bl_drew ?_ | refine bl_drewN ?_ _ | (refine bl_set ?_ ?_ _; (focus (first | (simp; done) | (simp; omega) | omega))) | refine bl_then ?_ (by assumption))))⟩
          case measure => simp [intOf]; omega
    · obtain rfl : k = xs.length := by omega
      clear hcx
      go_wp2
      go_ret
      exact ⟨rfl, hnx⟩
end Go.Proofs.Ytgjampkdnpdblaa
