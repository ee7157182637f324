/- Merits side by side; ints overwritten. -/
import Derived.Test.YtlnhofpjeinadaaPee19
namespace Go.Proofs.Ytlnhofpjeinadaa
open Go.RowKit Go.Proofs.Ytlnhofpjeinadaa.Pc BigFrame
attribute [local go_sem] run_store_float
set_option linter.unusedSimpArgs false
set_option linter.unusedVariables false

set_option maxHeartbeats 1000000 in
theorem SameMerit_t (s : Int) (p q : Nat) (w : World) (h : canon p = canon q) :
    Calls Try.prog 15 #[.agg #[.int .i64 s, .float .f64 p], .agg #[.int .i64 s, .float .f64 q]] w fun e w' => e = .returned (.bool true) ∧ Below w.heap.size w w' := by
  have hr := run_bits
  have hd0 : (s == s) = true := by simp
  have E0 : (w.alloc (.cells #[.int .i64 s, .float .f64 p] 33)).heap[w.heap.size]? = some _ := kb_new rfl _
  have E1 := kb_alloc E0 (.cells #[.int .i64 s, .float .f64 q] 33)
  have E2 := kb_new (w := w.alloc (.cells #[.int .i64 s, .float .f64 p] 33)) (b := w.heap.size + 1) (by simp) (.cells #[.int .i64 s, .float .f64 q] 33)
  have a0 := kb_cell E1 0
  have a1 := kb_cell E1 1
  have b0 := kb_cell E2 0
  have b1 := kb_cell E2 1
  have l1 := kb_lt E1
  have l2 := kb_lt E2
  clear E0 E1 E2
  rcases canon_eq h with ⟨h1, h2⟩ | ⟨_, _, rfl⟩
  · by_cases hpq : p = q
    · subst hpq
      have hd : ((p : Int) == (p : Int)) = true := by simp
      clear h h1 h2
      go_enter Try.func15, Try.ntmps15
      go_wp2_with fail
      (refine wp_region_below (by kernel_rfl) (by kernel_rfl) ?_; (repeat (first | go_big_quiet_skip | (go_big_quiet_want; first | (go_big_quiet_op; go_big_quiet_on) | (apply Exists.intro; refine ⟨fun W hW => ?_, ?_⟩; (focus (have a0_r := (hW.cell (by exact l1)).trans a0; have a1_r := (hW.cell (by exact l1)).trans a1; have b0_r := (hW.cell (by exact l2)).trans b0; have b1_r := (hW.cell (by exact l2)).trans b1; unfold Oper.quietAt; go_simp; first | exact rfl | exact ⟨rfl, rfl⟩)); go_big_quiet_on; simp only [Act.put, List.setIfInBounds_toArray, List.set_cons_succ, List.set_cons_zero])))); refine wpQuiet_nil ?_; intro w1 hb1; have hz1 := hb1.size)
      go_wp2
      go_ret
      exact ⟨rfl, by (repeat (with_reducible (first | exact Below.refl _ _ | assumption | refine bl_alloc ?_ _ | refine bl_drew ?_ | refine bl_drewN ?_ _ | (refine bl_set ?_ ?_ _; (focus (first | (simp; done) | (simp; omega) | omega))) | refine bl_then ?_ (by assumption))))⟩
    · have hd : ((p : Int) == (q : Int)) = false := by simp; omega
      have h1' : (FloatKind.f64.format.order p p != some .eq) = true := h1
      have h2' : (FloatKind.f64.format.order q q != some .eq) = true := h2
      clear h h1 h2
      go_enter Try.func15, Try.ntmps15
      go_wp2_with fail
      (refine wp_region_below (by kernel_rfl) (by kernel_rfl) ?_; (repeat (first | go_big_quiet_skip | (go_big_quiet_want; first | (go_big_quiet_op; go_big_quiet_on) | (apply Exists.intro; refine ⟨fun W hW => ?_, ?_⟩; (focus (have a0_r := (hW.cell (by exact l1)).trans a0; have a1_r := (hW.cell (by exact l1)).trans a1; have b0_r := (hW.cell (by exact l2)).trans b0; have b1_r := (hW.cell (by exact l2)).trans b1; unfold Oper.quietAt; go_simp; first | exact rfl | exact ⟨rfl, rfl⟩)); go_big_quiet_on; simp only [Act.put, List.setIfInBounds_toArray, List.set_cons_succ, List.set_cons_zero])))); refine wpQuiet_nil ?_; intro w1 hb1; have hz1 := hb1.size)
      go_wp2
      go_ret
      exact ⟨rfl, by (repeat (with_reducible (first | exact Below.refl _ _ | assumption | refine bl_alloc ?_ _ | refine bl_drew ?_ | refine bl_drewN ?_ _ | (refine bl_set ?_ ?_ _; (focus (first | (simp; done) | (simp; omega) | omega))) | refine bl_then ?_ (by assumption))))⟩
  · have hd : ((p : Int) == (p : Int)) = true := by simp
    clear h
    go_enter Try.func15, Try.ntmps15
    go_wp2_with fail
    (refine wp_region_below (by kernel_rfl) (by kernel_rfl) ?_; (repeat (first | go_big_quiet_skip | (go_big_quiet_want; first | (go_big_quiet_op; go_big_quiet_on) | (apply Exists.intro; refine ⟨fun W hW => ?_, ?_⟩; (focus (have a0_r := (hW.cell (by exact l1)).trans a0; have a1_r := (hW.cell (by exact l1)).trans a1; have b0_r := (hW.cell (by exact l2)).trans b0; have b1_r := (hW.cell (by exact l2)).trans b1; unfold Oper.quietAt; go_simp; first | exact rfl | exact ⟨rfl, rfl⟩)); go_big_quiet_on; simp only [Act.put, List.setIfInBounds_toArray, List.set_cons_succ, List.set_cons_zero])))); refine wpQuiet_nil ?_; intro w1 hb1; have hz1 := hb1.size)
    go_wp2
    go_ret
    exact ⟨rfl, by (repeat (with_reducible (first | exact Below.refl _ _ | assumption | refine bl_alloc ?_ _ | refine bl_drew ?_ | refine bl_drewN ?_ _ | (refine bl_set ?_ ?_ _; (focus (first | (simp; done) | (simp; omega) | omega))) | refine bl_then ?_ (by assumption))))⟩
theorem NaN_any (w : World) : Calls Try.prog 27 #[] w fun e w' => e = .returned (.float .f64 9221120237041090561) ∧ w = w' := by
  have hr := run_from 9221120237041090561
  go_enter Try.func27, Try.ntmps27
  go_wp2
  go_ret
  exact ⟨rfl, rfl⟩

set_option maxHeartbeats 1000000 in
theorem OverInts_any {w : World} {B n : Nat} {v : Value} {xs : List Value} (h : w.ownsRow B 3 1 v n xs) (hn : n ≤ 1000) : Calls Try.prog 51 #[v] w fun e w' => e = .returned (.tuple #[]) ∧ Keep (fun b => v.ownBlock = some b) w w' := by
  rcases h.2 with ⟨rfl, rfl⟩ | ⟨g, cap, cur, rfl, hg, hh, hlen, hcap, hfr, ht⟩
  · go_enter Try.func51, Try.ntmps51
    go_wp2
    go_loopw [2, 3, 4, 5, 6, 7, 8, 9, 10, 11] (fun s2 _ _ _ _ _ _ _ _ _ wr => s2 = .int .i64 0 ∧ wr = w) (fun s2 _ _ _ _ _ _ _ _ _ _ => (intOf s2).toNat)
    case atStart => exact ⟨rfl, rfl⟩
    case round =>
      obtain ⟨rfl, rfl⟩ := hrel
      go_wp2
      go_end0
      exact ⟨rfl, Keep.refl _ _⟩
  · have HH := Lib.hid hh
    clear hh
    have hxl : xs.length = n := by have := h.1; omega
    have hcn : n ≤ cur.size := by
      have := congrArg List.length ht
      simp at this
      omega
    clear hxl
    clear h ht
    go_enter Try.func51, Try.ntmps51
    go_wp2
    go_loopw [2, 3, 4, 5, 6, 7, 8, 9, 10, 11] (fun s2 _ _ _ _ _ _ _ _ _ wr => ∃ k : Nat, k ≤ n ∧ s2 = .int .i64 k ∧ (∃ cur', cur'.size = cur.size ∧ wr.heap[g]? = some (.cells cur' 3)) ∧ Keep (fun b => (Value.slice (some ⟨g, 0, none⟩) n cap).ownBlock = some b) w wr) (fun s2 _ _ _ _ _ _ _ _ _ _ => n - (intOf s2).toNat)
    case atStart => exact ⟨0, by omega, rfl, ⟨_, rfl, HH.out⟩, Keep.refl _ _⟩
    case round =>
      obtain ⟨k, hk, rfl, ⟨cur', hs', hg'⟩, hK⟩ := hrel
      by_cases hlt : k < n
      · obtain ⟨u, hu⟩ : ∃ u, cur'[k]? = some u := ⟨_, Array.getElem?_eq_getElem (by omega)⟩
        have c := (kb_cell hg' k).trans hu
        have z := kb_frozen hg'
        have HK := Lib.hid hK
        have HG := Lib.hid (kb_set (i := k) hg' (.int .i64 (-77)))
        have HS := Lib.hid hs'
        clear hu hg' hK hs'
        go_wp2
        go_roundw
        case rel => exact ⟨k + 1, by omega, by go_num, ⟨_, by simp [HS.out], HG.out⟩, HK.out.set (p := ⟨g, k, none⟩) (fun _ => rfl) _⟩
        case measure => simp [intOf]; omega
      · obtain rfl : k = n := by omega
        go_wp2
        go_end0
        exact ⟨rfl, hK⟩
end Go.Proofs.Ytlnhofpjeinadaa
