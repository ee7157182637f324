/- The reference's Best; rows of merits side by side. -/
import Derived.Test.YtockdfhejbbbeaaSco7
import Derived.Test.YtockdfhejbbbeaaSco6
namespace Go.Proofs.Ytockdfhejbbbeaa
open Go.RowKit Go.Proofs.Ytockdfhejbbbeaa.Pc Go.Proofs.Ytockdfhejbbbeaa.Sy BigFrame
attribute [local go_sem] run_store_float
set_option linter.unusedSimpArgs false
set_option linter.unusedVariables false

/-- Where the best one of the first k stands. -/
def bst (ms : List Mr) : Nat → Int
  | 0 => -1
  | k + 1 => if bst ms k < 0 then k else if cfM ms k (bst ms k).toNat < 0 then k else bst ms k
theorem bst_bd (ms : List Mr) (k : Nat) : -1 ≤ bst ms k ∧ bst ms k < k := by
  induction k with
  | zero => simp [bst]
  | succ k ih =>
    simp only [bst]
    split
    · omega
    · split <;> omega
theorem bst_best {ms : List Mr} (hF : Fit ms) (k : Nat) : (k = 0 ∧ bst ms k = -1) ∨ ∃ i, i < k ∧ bst ms k = (i : Int) ∧ ∀ j, j < k → j ≠ i → ltM ms i j = true := by
  have O := ltM_strict hF
  induction k with
  | zero => exact .inl ⟨rfl, rfl⟩
  | succ k ih =>
    right
    rcases ih with ⟨rfl, h⟩ | ⟨i, h1, h2, h3⟩
    · exact ⟨0, by omega, by simp only [bst]; rfl, fun j hj hne => by omega⟩
    · have e : bst ms (k + 1) = if cfM ms k i < 0 then (k : Int) else (i : Int) := by
        simp only [bst]
        rw [h2, if_neg (by omega), Int.toNat_natCast]
      have hu := ltM_up (ms := ms) (x := k) (y := i) h1
      by_cases hc : cfM ms k i < 0
      · rw [if_pos hc] at e
        rw [decide_eq_true hc] at hu
        refine ⟨k, by omega, e, fun j hj hne => ?_⟩
        by_cases hji : j = i
        · rw [hji]; exact hu.symm
        · exact O.tr _ _ _ hu.symm (h3 j (by omega) hji)
      · rw [if_neg hc] at e
        rw [decide_eq_false hc] at hu
        refine ⟨i, by omega, e, fun j hj hne => ?_⟩
        by_cases hjk : j = k
        · rw [hjk]; exact O.of_not (by omega) hu.symm
        · exact h3 j (by omega) hne
theorem bst_out {ms : List Mr} (hF : Fit ms) : bestR ms (bst ms ms.length) := by
  rcases bst_best hF ms.length with ⟨h1, h2⟩ | h
  · exact .inl ⟨List.eq_nil_of_length_eq_zero h1, h2⟩
  · exact .inr h

set_option maxRecDepth 100000 in
set_option maxHeartbeats 4000000 in
theorem rBest_any (v : Value) (ms : List Mr) (w : World) (hM : MRow w v ms) (hF : Fit ms) (hl : ms.length ≤ 1000) :
    Calls Try.prog 20 #[v] w fun e w' => e = .returned (.int .i64 (bst ms ms.length)) ∧ Below w.heap.size w w' := by
  obtain ⟨A, cap, rfl, hc⟩ := hM
  have HC := Lib.hid hc
  have HF := Lib.hid hF
  obtain ⟨n, hn⟩ : ∃ n, ms.length = n := ⟨_, rfl⟩
  have HN := Lib.hid hn
  rw [hn] at hl ⊢
  clear hc hF hn
  go_enter Try.func20, Try.ntmps20
  go_wp2
  go_loopw [3, 4, 5, 6, 7, 8, 9, 10, 11, 12, 13, 14, 15, 16, 17, 18, 19, 20, 21, 22, 23, 24] (fun s3 s4 _ _ _ _ _ _ _ _ _ _ _ _ _ _ _ _ _ _ _ _ wr => ∃ k : Nat, k ≤ n ∧ s4 = .int .i64 k ∧ s3 = .int .i64 (bst ms k) ∧ Below w.heap.size w wr) (fun _ s4 _ _ _ _ _ _ _ _ _ _ _ _ _ _ _ _ _ _ _ _ _ => n - (intOf s4).toNat)
  case atStart => exact ⟨0, by omega, rfl, rfl, Below.refl _ _⟩
  case round =>
    obtain ⟨k, hk, rfl, rfl, hnx⟩ := hrel
    obtain ⟨l1, l2⟩ := bst_bd ms k
    by_cases hlt : k < n
    · obtain ⟨b, off, rfl, hb, hcc⟩ := HC.out (by have := HN.out; omega)
      obtain ⟨c1, c2⟩ := hcc k _ (mrAt_some (by have := HN.out; omega))
      have a1 := (hnx.cell (by exact hb)).trans c1
      have a2 := (hnx.cell (by exact hb)).trans c2
      have hbr : b < wr.heap.size := Nat.lt_of_lt_of_le hb hnx.size
      have hn0 : bst ms (k + 1) = if bst ms k < 0 then (k : Int) else if cfM ms k (bst ms k).toNat < 0 then (k : Int) else bst ms k := rfl
      by_cases hneg : bst ms k < 0
      · rw [if_pos hneg] at hn0
        have hn' := Lib.hid hn0
        have HCC := Lib.hid hcc
        clear hn0 c1 c2 hcc HC
        generalize bst ms k = a at *
        go_wp2_with fail
        (refine wp_region_below (by kernel_rfl) (by kernel_rfl) ?_; (repeat (first | go_big_quiet_skip | (go_big_quiet_want; first | (go_big_quiet_op; go_big_quiet_on) | (apply Exists.intro; refine ⟨fun W hW => ?_, ?_⟩; (focus (unfold Oper.quietAt; go_simp; first | exact rfl | exact ⟨rfl, rfl⟩)); go_big_quiet_on; simp only [Act.put, List.setIfInBounds_toArray, List.set_cons_succ, List.set_cons_zero])))); refine wpQuiet_nil ?_; intro w1 hb1; have hz1 := hb1.size)
        go_wp2
        go_roundw
        case rel => exact ⟨k + 1, by omega, by go_num, by rw [hn'.out], by (repeat (with_reducible (first | exact Below.refl _ _ | assumption | refine bl_alloc ?_ _ | refine bl_drew ?_ | refine bl_drewN ?_ _ | (refine bl_set ?_ ?_ _; (focus (first | (simp; done) | (simp; omega) | omega))) | refine bl_then ?_ (by assumption))))⟩
        case measure => simp [intOf]; omega
      · rw [if_neg hneg] at hn0
        obtain ⟨j, hj2⟩ := Int.eq_ofNat_of_zero_le (show 0 ≤ bst ms k by omega)
        rw [hj2] at hn0 hneg l1 l2 ⊢
        rw [show ((j : Int)).toNat = j from rfl] at hn0
        obtain ⟨c3, c4⟩ := hcc j _ (mrAt_some (by have := HN.out; omega))
        have a3 := (hnx.cell (by exact hb)).trans c3
        have a4 := (hnx.cell (by exact hb)).trans c4
        have p1 := HF.out.at k
        have p2 := HF.out.at j
        have hcf : betM (mrAt ms k).s (mrAt ms k).p (mrAt ms j).s (mrAt ms j).p = decide (cfM ms k j < 0) := rfl
        have HBT := Lib.hid (fun W => rBetter_any (mrAt ms k).s (mrAt ms k).p (mrAt ms j).s (mrAt ms j).p W p1 p2)
        rw [hcf] at HBT
        generalize mrAt ms k = x at *
        generalize mrAt ms j = y at *
        have hjl : j < n := by omega
        have hd : decide ((j : Int) < 0) = false := by simp
        have HCC := Lib.hid hcc
        clear c1 c2 c3 c4 hcc HC hcf p1 p2
        by_cases hcmp : cfM ms k j < 0
        · rw [if_pos hcmp] at hn0
          have hn' := Lib.hid hn0
          rw [decide_eq_true hcmp] at HBT
          clear hn0 hj2 hcmp
          go_wp2_with fail
          (refine wp_region_below (by kernel_rfl) (by kernel_rfl) ?_; (repeat (first | go_big_quiet_skip | (go_big_quiet_want; first | (go_big_quiet_op; go_big_quiet_on) | (apply Exists.intro; refine ⟨fun W hW => ?_, ?_⟩; (focus (have a1_r := (hW.cell (by exact hbr)).trans a1; have a2_r := (hW.cell (by exact hbr)).trans a2; have a3_r := (hW.cell (by exact hbr)).trans a3; have a4_r := (hW.cell (by exact hbr)).trans a4; unfold Oper.quietAt; go_simp; first | exact rfl | exact ⟨rfl, rfl⟩ | (go_at_call 26; exact q_call hW (HBT.out _)))); go_big_quiet_on; simp only [Act.put, List.setIfInBounds_toArray, List.set_cons_succ, List.set_cons_zero])))); refine wpQuiet_nil ?_; intro w1 hb1; have hz1 := hb1.size)
          go_wp2
          go_roundw
          case rel => exact ⟨k + 1, by omega, by go_num, by rw [hn'.out], by (repeat (with_reducible (first | exact Below.refl _ _ | assumption | refine bl_alloc ?_ _ | refine bl_drew ?_ | refine bl_drewN ?_ _ | (refine bl_set ?_ ?_ _; (focus (first | (simp; done) | (simp; omega) | omega))) | refine bl_then ?_ (by assumption))))⟩
          case measure => simp [intOf]; omega
        · rw [if_neg hcmp] at hn0
          have hn' := Lib.hid hn0
          rw [decide_eq_false hcmp] at HBT
          clear hn0 hj2 hcmp
          go_wp2_with fail
          (refine wp_region_below (by kernel_rfl) (by kernel_rfl) ?_; (repeat (first | go_big_quiet_skip | (go_big_quiet_want; first | (go_big_quiet_op; go_big_quiet_on) | (apply Exists.intro; refine ⟨fun W hW => ?_, ?_⟩; (focus (have a1_r := (hW.cell (by exact hbr)).trans a1; have a2_r := (hW.cell (by exact hbr)).trans a2; have a3_r := (hW.cell (by exact hbr)).trans a3; have a4_r := (hW.cell (by exact hbr)).trans a4; unfold Oper.quietAt; go_simp; first | exact rfl | exact ⟨rfl, rfl⟩ | (go_at_call 26; exact q_call hW (HBT.out _)))); go_big_quiet_on; simp only [Act.put, List.setIfInBounds_toArray, List.set_cons_succ, List.set_cons_zero])))); refine wpQuiet_nil ?_; intro w1 hb1; have hz1 := hb1.size)
          go_wp2
          go_roundw
          case rel => exact ⟨k + 1, by omega, by go_num, by rw [hn'.out], by (repeat (with_reducible (first | exact Below.refl _ _ | assumption | refine bl_alloc ?_ _ | refine bl_drew ?_ | refine bl_drewN ?_ _ | (refine bl_set ?_ ?_ _; (focus (first | (simp; done) | (simp; omega) | omega))) | refine bl_then ?_ (by assumption))))⟩
          case measure => simp [intOf]; omega
    · obtain rfl : k = n := by omega
      go_wp2
      go_ret
      exact ⟨rfl, hnx⟩

set_option maxRecDepth 100000 in
set_option maxHeartbeats 4000000 in
theorem SameMerits_any (v u : Value) (ms : List Mr) (w : World) (hM : MRow w v ms) (hM2 : MRow w u ms) (hl : ms.length ≤ 1000) :
    Calls Try.prog 24 #[v, u] w fun e w' => e = .returned (.bool true) ∧ Below w.heap.size w w' := by
  obtain ⟨A, cap, rfl, hc⟩ := hM
  obtain ⟨A2, cap2, rfl, hc2⟩ := hM2
  have HC := Lib.hid hc
  have HC2 := Lib.hid hc2
  obtain ⟨n, hn⟩ : ∃ n, ms.length = n := ⟨_, rfl⟩
  have HN := Lib.hid hn
  rw [hn] at hl ⊢
  clear hc hc2 hn
  have he : ((n : Int) == (n : Int)) = true := by simp
  go_enter Try.func24, Try.ntmps24
  go_wp2
  go_loopw [5, 6, 12, 13, 14, 15, 16, 17, 18, 19, 20, 21, 22, 23, 24, 25, 26, 27, 28, 29] (fun s5 s6 _ _ _ _ _ _ _ _ _ _ _ _ _ _ _ _ _ _ wr => ∃ k : Nat, k ≤ n ∧ s6 = .int .i64 k ∧ s5 = .bool true ∧ Below w.heap.size w wr) (fun _ s6 _ _ _ _ _ _ _ _ _ _ _ _ _ _ _ _ _ _ _ => n - (intOf s6).toNat)
  case atStart => exact ⟨0, by omega, rfl, rfl, Below.refl _ _⟩
  case round =>
    obtain ⟨k, hk, rfl, rfl, hnx⟩ := hrel
    by_cases hlt : k < n
    · obtain ⟨b, off, rfl, hb, hcc⟩ := HC.out (by have := HN.out; omega)
      obtain ⟨b2, off2, rfl, hb2, hcc2⟩ := HC2.out (by have := HN.out; omega)
      obtain ⟨c1, c2⟩ := hcc k _ (mrAt_some (by have := HN.out; omega))
      obtain ⟨c3, c4⟩ := hcc2 k _ (mrAt_some (by have := HN.out; omega))
      have a1 := (hnx.cell (by exact hb)).trans c1
      have a2 := (hnx.cell (by exact hb)).trans c2
      have a3 := (hnx.cell (by exact hb2)).trans c3
      have a4 := (hnx.cell (by exact hb2)).trans c4
      have hbr : b < wr.heap.size := Nat.lt_of_lt_of_le hb hnx.size
      have hbr2 : b2 < wr.heap.size := Nat.lt_of_lt_of_le hb2 hnx.size
      generalize mrAt ms k = x at *
      have HS := Lib.hid (fun W => SameMerit_t x.s x.p x.p W rfl)
      have HCC := Lib.hid hcc
      have HCC2 := Lib.hid hcc2
      clear c1 c2 c3 c4 hcc hcc2 HC HC2
      go_wp2_with fail
      (refine wp_region_below (by kernel_rfl) (by kernel_rfl) ?_; (repeat (first | go_big_quiet_skip | (go_big_quiet_want; first | (go_big_quiet_op; go_big_quiet_on) | (apply Exists.intro; refine ⟨fun W hW => ?_, ?_⟩; (focus (have a1_r := (hW.cell (by exact hbr)).trans a1; have a2_r := (hW.cell (by exact hbr)).trans a2; have a3_r := (hW.cell (by exact hbr2)).trans a3; have a4_r := (hW.cell (by exact hbr2)).trans a4; unfold Oper.quietAt; go_simp; first | exact rfl | exact ⟨rfl, rfl⟩ | (go_at_call 14; exact q_call hW (HS.out _)))); go_big_quiet_on; simp only [Act.put, List.setIfInBounds_toArray, List.set_cons_succ, List.set_cons_zero])))); refine wpQuiet_nil ?_; intro w1 hb1; have hz1 := hb1.size)
      go_wp2
      go_roundw
      case rel => exact ⟨k + 1, by omega, by go_num, rfl, by (repeat (with_reducible (first | exact Below.refl _ _ | assumption | refine bl_alloc ?_ _ | refine bl_drew ?_ | refine bl_drewN ?_ _ | (refine bl_set ?_ ?_ _; (focus (first | (simp; done) | (simp; omega) | omega))) | refine bl_then ?_ (by assumption))))⟩
      case measure => simp [intOf]; omega
    · obtain rfl : k = n := by omega
      have hd : decide ((k : Int) < (k : Int)) = false := by simp
      go_wp2
      go_ret
      exact ⟨rfl, hnx⟩
end Go.Proofs.Ytockdfhejbbbeaa
