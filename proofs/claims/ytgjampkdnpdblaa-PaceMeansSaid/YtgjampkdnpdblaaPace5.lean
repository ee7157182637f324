/- PaceMeans, second part: the mean of many. -/
import Derived.Test.YtgjampkdnpdblaaPace4
namespace Go.Proofs.Ytgjampkdnpdblaa
open Go.RowKit Go.Proofs.Ytgjampkdnpdblaa.Pc

def foldS (m : Nat) (xs : List Nat) : Nat := xs.foldl smoothF m
theorem foldS_canon (xs : List Nat) : ∀ {m m' : Nat}, canon m = canon m' → canon (foldS m xs) = canon (foldS m' xs) := by
  induction xs with
  | nil => exact fun h => h
  | cons x xs ih => exact fun h => ih (smoothF_canon h rfl)
theorem foldS_next (m : Nat) (xs : List Nat) (k : Nat) (hk : k < xs.length) : foldS m (xs.take (k + 1)) = smoothF (foldS m (xs.take k)) (xs.getD k 0) := by
  have h : xs.take (k + 1) = xs.take k ++ [xs.getD k 0] := by
    rw [List.take_add_one, List.getElem?_eq_getElem hk, List.getD, List.getElem?_eq_getElem hk]; rfl
  rw [h, foldS, List.foldl_append]
  rfl
theorem small_getD {xs : List Nat} (h : ∀ x ∈ xs, x < 18446744073709551616) (k : Nat) : xs.getD k 0 < 18446744073709551616 := by
  by_cases hk : k < xs.length
  · rw [List.getD, List.getElem?_eq_getElem hk]; exact h _ (List.getElem_mem hk)
  · rw [List.getD, List.getElem?_eq_none (by omega)]; decide

set_option maxHeartbeats 400000 in
theorem rMean_some (b off cap : Nat) (xs : List Nat) (w : World) (hl : xs.length ≤ 60) (hb : b < w.heap.size) (hx : ∀ x ∈ xs, x < 18446744073709551616)
    (hc : ∀ k, k < xs.length → w.cell? ⟨b, off + k, none⟩ = some (.float .f64 (xs.getD k 0))) :
    Calls Try.prog 14 #[.slice (some ⟨b, off, none⟩) xs.length cap] w (PacePost (foldS theNaN xs) w) := by
  have hr : ∀ W : World, (callFunc 18 #[.int .u64 9221120237041090560]).run Try.prog W = .ok (.value (.float .f64 theNaN)) W := run_from 9221120237041090560
  go_enter Try.func14, Try.ntmps14
  go_wp2
  clear hr
  go_loopw [3, 4, 6, 7, 8, 9, 10, 11, 12, 13, 14, 15, 16, 17] (fun v i _ _ _ _ _ _ _ _ _ _ _ _ wr => ∃ k r : Nat, k ≤ xs.length ∧ i = .int .i64 k ∧ v = .float .f64 r ∧ r < 18446744073709551616 ∧ Hid (canon r = canon (foldS theNaN (xs.take k))) ∧ Below w.heap.size w wr)
    (fun _ i _ _ _ _ _ _ _ _ _ _ _ _ _ => xs.length - (intOf i).toNat)
  case atStart => exact ⟨0, theNaN, Nat.zero_le _, rfl, rfl, by decide, rfl, Below.refl _ _⟩
  case round =>
    obtain ⟨k, r, hk, rfl, rfl, hr, hcr, hnx⟩ := hrel
    have hcx : k < xs.length → wr.cell? ⟨b, off + k, none⟩ = some (.float .f64 (xs.getD k 0)) := fun h => (hnx.cell (by exact hb)).trans (hc k h)
    have hc' := Lib.hid hc
    clear hc
    have hxk := small_getD hx k
    by_cases hlt : k < xs.length
    · have hcell := hcx hlt
      have hn := foldS_next theNaN xs k hlt
      generalize xs.getD k 0 = x at hcell hn hxk
      have hn' := Lib.hid hn
      clear hcx hn
      go_wp2_with fail
      refine (rSmooth_any r x _ hxk).mono ?_
      rintro e w2 ⟨r2, rfl, h1, h2, h3⟩
      have H1 := Lib.hid h1
      clear h1
      go_wp2
      go_roundw
      case rel => exact ⟨k + 1, r2, by omega, by go_num, rfl, h2, by rw [hn'.out]; exact H1.out.trans (smoothF_canon hcr.out rfl), by (repeat (with_reducible (first | exact Below.refl _ _ | assumption | refine bl_alloc ?_ _ | refine bl_drew ?_ | refine bl_drewN ?_ _ | (refine bl_set ?_ ?_ _; (focus (first | (simp; done) | (simp; omega) | omega))) | refine bl_then ?_ (by assumption))))⟩
      case measure => simp [intOf]; omega
    · obtain rfl : k = xs.length := by omega
      clear hcx
      go_wp2
      go_ret
      exact ⟨r, rfl, by have := hcr.out; simpa using this, hr, hnx⟩

set_option maxHeartbeats 400000 in
theorem fold_some (b off cap m : Nat) (xs : List Nat) (w : World) (hl : xs.length ≤ 60) (hb : b < w.heap.size) (hx : ∀ x ∈ xs, x < 18446744073709551616) (hm : m < 18446744073709551616)
    (hc : ∀ k, k < xs.length → w.cell? ⟨b, off + k, none⟩ = some (.float .f64 (xs.getD k 0))) :
    Calls Try.prog 28 #[.slice (some ⟨b, off, none⟩) xs.length cap, .float .f64 m, .func (.func 9) #[] #[]] w (PacePost (foldS m xs) w) := by
  go_enter Try.func28, Try.ntmps28
  go_wp2
  go_loopw [1, 8, 11, 12, 13, 14, 15, 16, 17, 18, 19] (fun v _ i _ _ _ _ _ _ _ _ wr => ∃ k r : Nat, k ≤ xs.length ∧ i = .int .i64 k ∧ v = .float .f64 r ∧ r < 18446744073709551616 ∧ Hid (canon r = canon (foldS m (xs.take k))) ∧ Below w.heap.size w wr)
    (fun _ _ i _ _ _ _ _ _ _ _ _ => xs.length - (intOf i).toNat)
  case atStart => exact ⟨0, m, Nat.zero_le _, rfl, rfl, hm, rfl, Below.refl _ _⟩
  case round =>
    obtain ⟨k, r, hk, rfl, rfl, hr, hcr, hnx⟩ := hrel
    have hcx : k < xs.length → wr.cell? ⟨b, off + k, none⟩ = some (.float .f64 (xs.getD k 0)) := fun h => (hnx.cell (by exact hb)).trans (hc k h)
    have hc' := Lib.hid hc
    clear hc
    have hxk := small_getD hx k
    by_cases hlt : k < xs.length
    · have hcell := hcx hlt
      have hn := foldS_next m xs k hlt
      generalize xs.getD k 0 = x at hcell hn hxk
      have hn' := Lib.hid hn
      clear hcx hn
      go_wp2_with fail
      refine (Smooth_any r x _ hxk).mono ?_
      rintro e w2 ⟨r2, rfl, h1, h2, h3⟩
      have H1 := Lib.hid h1
      clear h1
      go_wp2
      go_roundw
      case rel => exact ⟨k + 1, r2, by omega, by go_num, rfl, h2, by rw [hn'.out]; exact H1.out.trans (smoothF_canon hcr.out rfl), by (repeat (with_reducible (first | exact Below.refl _ _ | assumption | refine bl_alloc ?_ _ | refine bl_drew ?_ | refine bl_drewN ?_ _ | (refine bl_set ?_ ?_ _; (focus (first | (simp; done) | (simp; omega) | omega))) | refine bl_then ?_ (by assumption))))⟩
      case measure => simp [intOf]; omega
    · obtain rfl : k = xs.length := by omega
      clear hcx
      go_wp2
      go_ret
      exact ⟨r, rfl, by have := hcr.out; simpa using this, hr, hnx⟩

set_option maxHeartbeats 400000 in
theorem Mean_some (b off cap : Nat) (xs : List Nat) (w : World) (hl : xs.length ≤ 60) (hb : b < w.heap.size) (hx : ∀ x ∈ xs, x < 18446744073709551616)
    (hc : ∀ k, k < xs.length → w.cell? ⟨b, off + k, none⟩ = some (.float .f64 (xs.getD k 0))) :
    Calls Try.prog 13 #[.slice (some ⟨b, off, none⟩) xs.length cap] w (PacePost (foldS theNaN xs) w) := by
  have hc' := Lib.hid hc
  clear hc
  go_enter Try.func13, Try.ntmps13
  go_wp2_with (go_at_call 25; (with_reducible refine (NaN_any _).mono ?_); rintro e w1 ⟨rfl, rfl⟩)
  refine (fold_some b off cap 9221120237041090561 xs _ hl hb hx (by decide) hc'.out).mono ?_
  rintro e w2 ⟨r2, rfl, h1, h2, h3⟩
  have H1 := Lib.hid h1
  clear h1
  go_wp2
  go_ret
  exact ⟨r2, rfl, H1.out.trans (foldS_canon xs (by decide +kernel)), h2, h3⟩
end Go.Proofs.Ytgjampkdnpdblaa
