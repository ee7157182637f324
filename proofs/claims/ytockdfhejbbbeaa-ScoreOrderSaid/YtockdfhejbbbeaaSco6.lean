/- Merits side by side; the law package's small functions. -/
import Derived.Test.YtockdfhejbbbeaaSco3
import Derived.Test.YtockdfhejbbbeaaKit
namespace Go.Proofs.Ytockdfhejbbbeaa
open Go.RowKit Go.Proofs.Ytockdfhejbbbeaa.Pc BigFrame
attribute [local go_sem] run_store_float

set_option maxHeartbeats 1000000 in
theorem SameMerit_t (s : Int) (p q : Nat) (w : World) (h : canon p = canon q) :
    Calls Try.prog 14 #[.agg #[.int .i64 s, .float .f64 p], .agg #[.int .i64 s, .float .f64 q]] w fun e w' => e = .returned (.bool true) ∧ Below w.heap.size w w' := by
  have hr := run_bits
  have hd0 : (s == s) = true := by simp
  have E0 : (w.alloc (.cells #[.int .i64 s, .float .f64 p] 25)).heap[w.heap.size]? = some _ := kb_new rfl _
  have E1 := kb_alloc E0 (.cells #[.int .i64 s, .float .f64 q] 25)
  have E2 := kb_new (w := w.alloc (.cells #[.int .i64 s, .float .f64 p] 25)) (b := w.heap.size + 1) (by simp) (.cells #[.int .i64 s, .float .f64 q] 25)
  have a0 := kb_cell E1 0
  have a1 := kb_cell E1 1
  have b0 := kb_cell E2 0
  have b1 := kb_cell E2 1
  have l1 := kb_lt E1
  have l2 := kb_lt E2
  clear E0 E1 E2
  rcases canon_eq h with ⟨h1, h2⟩ | ⟨_, _, rfl⟩
  · by_cases hpq : p = q
    · subst hpq
      have hd : ((p : Int) == (p : Int)) = true := by simp
      clear h h1 h2
      go_enter Try.func14, Try.ntmps14
      go_wp2_with fail
      (refine wp_region_below (by kernel_rfl) (by kernel_rfl) ?_; (repeat (first | go_big_quiet_skip | (go_big_quiet_want; first | (go_big_quiet_op; go_big_quiet_on) | (apply Exists.intro; refine ⟨fun W hW => ?_, ?_⟩; (focus (have a0_r := (hW.cell (by exact l1)).trans a0; have a1_r := (hW.cell (by exact l1)).trans a1; have b0_r := (hW.cell (by exact l2)).trans b0; have b1_r := (hW.cell (by exact l2)).trans b1; unfold Oper.quietAt; go_simp; first | exact rfl | exact ⟨rfl, rfl⟩)); go_big_quiet_on; simp only [Act.put, List.setIfInBounds_toArray, List.set_cons_succ, List.set_cons_zero])))); refine wpQuiet_nil ?_; intro w1 hb1; have hz1 := hb1.size)
      go_wp2
      go_ret
      exact ⟨rfl, by (repeat (with_reducible (first | exact Below.refl _ _ | assumption | refine bl_alloc ?_ _ | refine bl_drew ?_ | refine bl_drewN ?_ _ | (refine bl_set ?_ ?_ _; (focus (first | (simp; done) | (simp; omega) | omega))) | refine bl_then ?_ (by assumption))))⟩
    · have hd : ((p : Int) == (q : Int)) = false := by simp; omega
      have h1' : (FloatKind.f64.format.order p p != some .eq) = true := h1
      have h2' : (FloatKind.f64.format.order q q != some .eq) = true := h2
      clear h h1 h2
      go_enter Try.func14, Try.ntmps14
      go_wp2_with fail
      (refine wp_region_below (by kernel_rfl) (by kernel_rfl) ?_; (repeat (first | go_big_quiet_skip | (go_big_quiet_want; first | (go_big_quiet_op; go_big_quiet_on) | (apply Exists.intro; refine ⟨fun W hW => ?_, ?_⟩; (focus (have a0_r := (hW.cell (by exact l1)).trans a0; have a1_r := (hW.cell (by exact l1)).trans a1; have b0_r := (hW.cell (by exact l2)).trans b0; have b1_r := (hW.cell (by exact l2)).trans b1; unfold Oper.quietAt; go_simp; first | exact rfl | exact ⟨rfl, rfl⟩)); go_big_quiet_on; simp only [Act.put, List.setIfInBounds_toArray, List.set_cons_succ, List.set_cons_zero])))); refine wpQuiet_nil ?_; intro w1 hb1; have hz1 := hb1.size)
      go_wp2
      go_ret
      exact ⟨rfl, by (repeat (with_reducible (first | exact Below.refl _ _ | assumption | refine bl_alloc ?_ _ | refine bl_drew ?_ | refine bl_drewN ?_ _ | (refine bl_set ?_ ?_ _; (focus (first | (simp; done) | (simp; omega) | omega))) | refine bl_then ?_ (by assumption))))⟩
  · have hd : ((p : Int) == (p : Int)) = true := by simp
    clear h
    go_enter Try.func14, Try.ntmps14
    go_wp2_with fail
    (refine wp_region_below (by kernel_rfl) (by kernel_rfl) ?_; (repeat (first | go_big_quiet_skip | (go_big_quiet_want; first | (go_big_quiet_op; go_big_quiet_on) | (apply Exists.intro; refine ⟨fun W hW => ?_, ?_⟩; (focus (have a0_r := (hW.cell (by exact l1)).trans a0; have a1_r := (hW.cell (by exact l1)).trans a1; have b0_r := (hW.cell (by exact l2)).trans b0; have b1_r := (hW.cell (by exact l2)).trans b1; unfold Oper.quietAt; go_simp; first | exact rfl | exact ⟨rfl, rfl⟩)); go_big_quiet_on; simp only [Act.put, List.setIfInBounds_toArray, List.set_cons_succ, List.set_cons_zero])))); refine wpQuiet_nil ?_; intro w1 hb1; have hz1 := hb1.size)
    go_wp2
    go_ret
    exact ⟨rfl, by (repeat (with_reducible (first | exact Below.refl _ _ | assumption | refine bl_alloc ?_ _ | refine bl_drew ?_ | refine bl_drewN ?_ _ | (refine bl_set ?_ ?_ _; (focus (first | (simp; done) | (simp; omega) | omega))) | refine bl_then ?_ (by assumption))))⟩

set_option maxHeartbeats 1000000 in
theorem is_t (s : Int) (p q : Nat) (w : World) (h : canon p = canon q) :
    Calls Try.prog 29 #[.agg #[.int .i64 s, .float .f64 p], .int .i64 0, .int .i64 s, .float .f64 q] w fun e w' => e = .returned (.bool true) ∧ Below w.heap.size w w' := by
  have H := Lib.hid (fun W => SameMerit_t s p q W h)
  clear h
  go_enter Try.func29, Try.ntmps29
  go_wp2_with (go_at_call 14; (with_reducible refine (H.out _).mono ?_); rintro e w1 ⟨rfl, hb1⟩; have hz1 := hb1.size)
  go_ret
  exact ⟨rfl, by (repeat (with_reducible (first | exact Below.refl _ _ | assumption | refine bl_alloc ?_ _ | refine bl_drew ?_ | refine bl_drewN ?_ _ | (refine bl_set ?_ ?_ _; (focus (first | (simp; done) | (simp; omega) | omega))) | refine bl_then ?_ (by assumption))))⟩

set_option maxHeartbeats 400000 in
theorem of_any (n b : Int) (w : World) :
    Calls Try.prog 9 #[.int .i64 n, .int .u64 b] w fun e w' => e = .returned (.agg #[.int .i64 n, .float .f64 b.toNat]) ∧ Below w.heap.size w w' := by
  have hr := run_from b
  go_enter Try.func9, Try.ntmps9
  go_wp2
  exact bodyPost_ret (v := .agg #[.int .i64 n, .float .f64 b.toNat]) (by simp [results, Try.results9, go_sem]) rfl ⟨rfl, by (repeat (with_reducible (first | exact Below.refl _ _ | assumption | refine bl_alloc ?_ _ | refine bl_drew ?_ | refine bl_drewN ?_ _ | (refine bl_set ?_ ?_ _; (focus (first | (simp; done) | (simp; omega) | omega))) | refine bl_then ?_ (by assumption))))⟩

set_option maxHeartbeats 400000 in
theorem NaN_any (w : World) : Calls Try.prog 27 #[] w fun e w' => e = .returned (.float .f64 9221120237041090561) ∧ w = w' := by
  have hr := run_from 9221120237041090561
  go_enter Try.func27, Try.ntmps27
  go_wp2
  go_ret
  exact ⟨rfl, rfl⟩

set_option maxHeartbeats 400000 in
theorem Minus_any (w : World) : Calls Try.prog 30 #[.float .f64 0, .float .f64 13830554455654793216] w fun e w' => e = .returned (.float .f64 9223372036854775808) ∧ w = w' := by
  have hr := run_bits
  have hf := run_from
  have b1 : bits BinOp.andNot IntKind.u64 0 9223372036854775808 = 0 := by decide +kernel
  have b2 : bits BinOp.and IntKind.u64 13830554455654793216 9223372036854775808 = 9223372036854775808 := by decide +kernel
  have b3 : bits BinOp.or IntKind.u64 0 9223372036854775808 = 9223372036854775808 := by decide +kernel
  go_enter Try.func30, Try.ntmps30
  go_wp2
  go_ret
  exact ⟨rfl, rfl⟩
end Go.Proofs.Ytockdfhejbbbeaa
