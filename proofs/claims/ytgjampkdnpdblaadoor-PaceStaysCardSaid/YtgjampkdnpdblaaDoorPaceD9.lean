/- PaceMeans, second part: the mean of many. -/
import Derived.Test.YtgjampkdnpdblaaDoorPaceD8
import Derived.WalkKit
namespace Go.Proofs.YtgjampkdnpdblaaDoor
open Go.RowKit Go.Proofs.YtgjampkdnpdblaaDoor.Pc BigFrame

def foldS (m : Nat) (xs : List Nat) : Nat := xs.foldl smoothF m
theorem foldS_canon (xs : List Nat) : ∀ {m m' : Nat}, canon m = canon m' → canon (foldS m xs) = canon (foldS m' xs) := by
  induction xs with
  | nil => exact fun h => h
  | cons x xs ih => exact fun h => ih (smoothF_canon h rfl)
theorem foldS_next (m : Nat) (xs : List Nat) (k : Nat) (hk : k < xs.length) : foldS m (xs.take (k + 1)) = smoothF (foldS m (xs.take k)) (xs.getD k 0) := by
  have h : xs.take (k + 1) = xs.take k ++ [xs.getD k 0] := by
    rw [List.take_add_one, List.getElem?_eq_getElem hk, List.getD, List.getElem?_eq_getElem hk]; rfl
  rw [h, foldS, List.foldl_append]
  rfl
theorem small_getD {xs : List Nat} (h : ∀ x ∈ xs, x < 18446744073709551616) (k : Nat) : xs.getD k 0 < 18446744073709551616 := by
  by_cases hk : k < xs.length
  · rw [List.getD, List.getElem?_eq_getElem hk]; exact h _ (List.getElem_mem hk)
  · rw [List.getD, List.getElem?_eq_none (by omega)]; decide

set_option maxHeartbeats 400000 in
theorem fold_some (b off cap m : Nat) (xs : List Nat) (w : World) (hl : xs.length ≤ 60) (hb : b < w.heap.size) (hx : ∀ x ∈ xs, x < 18446744073709551616) (hm : m < 18446744073709551616)
    (hc : ∀ k, k < xs.length → w.cell? ⟨b, off + k, none⟩ = some (.float .f64 (xs.getD k 0))) :
    Calls Tryd.prog 36 #[.slice (some ⟨b, off, none⟩) xs.length cap, .float .f64 m, .func (.func 25) #[] #[]] w (PacePost (foldS m xs) w) := by
  go_enter Tryd.func36, Tryd.ntmps36
  go_wp2
  go_loopw [1, 8, 11, 12, 13, 14, 15, 16, 17, 18, 19] (fun v _ i _ _ _ _ _ _ _ _ wr => ∃ k r : Nat, k ≤ xs.length ∧ i = .int .i64 k ∧ v = .float .f64 r ∧ r < 18446744073709551616 ∧ Hid (canon r = canon (foldS m (xs.take k))) ∧ Below w.heap.size w wr)
    (fun _ _ i _ _ _ _ _ _ _ _ _ => xs.length - (intOf i).toNat)
  case atStart => exact ⟨0, m, Nat.zero_le _, rfl, rfl, hm, rfl, Below.refl _ _⟩
  case round =>
    obtain ⟨k, r, hk, rfl, rfl, hr, hcr, hnx⟩ := hrel
    have hcx : k < xs.length → wr.cell? ⟨b, off + k, none⟩ = some (.float .f64 (xs.getD k 0)) := fun h => (hnx.cell (by exact hb)).trans (hc k h)
    have hc' := Lib.hid hc
    clear hc
    have hxk := small_getD hx k
    by_cases hlt : k < xs.length
    · have hcell := hcx hlt
      have hn := foldS_next m xs k hlt
      generalize xs.getD k 0 = x at hcell hn hxk
      have hn' := Lib.hid hn
      clear hcx hn
      go_wp2_with fail
      refine (Smooth_any r x _ hxk).mono ?_
      rintro e w2 ⟨r2, rfl, h1, h2, h3⟩
      have H1 := Lib.hid h1
      clear h1
      go_wp2
      go_roundw
      case rel => exact ⟨k + 1, r2, by omega, by go_num, rfl, h2, by rw [hn'.out]; exact H1.out.trans (smoothF_canon hcr.out rfl), by (repeat (with_reducible (first | exact Below.refl _ _ | assumption | refine bl_alloc ?_ _ | refine bl_drew ?_ | refine bl_drewN ?_ _ | (refine bl_set ?_ ?_ _; (focus (first | (simp; done) | (simp; omega) | omega))) | refine bl_then ?_ (by assumption))))⟩
      case measure => simp [intOf]; omega
    · obtain rfl : k = xs.length := by omega
      clear hcx
      go_wp2
      go_ret
      exact ⟨r, rfl, by have := hcr.out; simpa using this, hr, hnx⟩

set_option maxHeartbeats 400000 in
theorem Mean_some (b off cap : Nat) (xs : List Nat) (w : World) (hl : xs.length ≤ 60) (hb : b < w.heap.size) (hx : ∀ x ∈ xs, x < 18446744073709551616)
    (hc : ∀ k, k < xs.length → w.cell? ⟨b, off + k, none⟩ = some (.float .f64 (xs.getD k 0))) :
    Calls Tryd.prog 26 #[.slice (some ⟨b, off, none⟩) xs.length cap] w (PacePost (foldS theNaN xs) w) := by
  have hc' := Lib.hid hc
  clear hc
  go_enter Tryd.func26, Tryd.ntmps26
  go_wp2_with (go_at_call 21; (with_reducible refine (NaN_any _).mono ?_); rintro e w1 ⟨rfl, rfl⟩)
  refine (fold_some b off cap 9221120237041090561 xs _ hl hb hx (by decide) hc'.out).mono ?_
  rintro e w2 ⟨r2, rfl, h1, h2, h3⟩
  have H1 := Lib.hid h1
  clear h1
  go_wp2
  go_ret
  exact ⟨r2, rfl, H1.out.trans (foldS_canon xs (by decide +kernel)), h2, h3⟩

/-- Where the least one of the first k stands. -/
def lst (xs : List Nat) : Nat → Int
  | 0 => -1
  | k + 1 => if lst xs k < 0 then k else if cmpF (xs.getD k 0) (xs.getD (lst xs k).toNat 0) < 0 then k else lst xs k
theorem lst_bd (xs : List Nat) (k : Nat) : -1 ≤ lst xs k ∧ lst xs k < k := by
  induction k with
  | zero => simp [lst]
  | succ k ih =>
    simp only [lst]
    split
    · omega
    · split <;> omega

set_option maxHeartbeats 1000000 in
theorem Least_some (b off cap : Nat) (xs : List Nat) (w : World) (hl : xs.length ≤ 60) (hb : b < w.heap.size) (hx : ∀ x ∈ xs, x < 18446744073709551616)
    (hc : ∀ k, k < xs.length → w.cell? ⟨b, off + k, none⟩ = some (.float .f64 (xs.getD k 0))) :
    Calls Tryd.prog 27 #[.slice (some ⟨b, off, none⟩) xs.length cap] w fun e w' => e = .returned (.int .i64 (lst xs xs.length)) ∧ Below w.heap.size w w' := by
  go_enter Tryd.func27, Tryd.ntmps27
  go_wp2
  go_loopw [3, 4, 5, 8, 9, 10, 11, 12, 13, 14, 15, 16, 17, 18, 19, 20, 21, 22, 23, 24, 25] (fun v _ _ i _ _ _ _ _ _ _ _ _ _ _ _ _ _ _ _ _ wr => ∃ k : Nat, k ≤ xs.length ∧ i = .int .i64 k ∧ v = .int .i64 (lst xs k) ∧ Below w.heap.size w wr)
    (fun _ _ _ i _ _ _ _ _ _ _ _ _ _ _ _ _ _ _ _ _ _ => xs.length - (intOf i).toNat)
  case atStart => exact ⟨0, Nat.zero_le _, rfl, rfl, Below.refl _ _⟩
  case round =>
    obtain ⟨k, hk, rfl, rfl, hnx⟩ := hrel
    have hcx : ∀ k, k < xs.length → wr.cell? ⟨b, off + k, none⟩ = some (.float .f64 (xs.getD k 0)) := fun k h => (hnx.cell (by exact hb)).trans (hc k h)
    clear hc
    have hxk := small_getD hx k
    obtain ⟨l1, l2⟩ := lst_bd xs k
    by_cases hlt : k < xs.length
    · have hcell := hcx k hlt
      have hn : lst xs (k + 1) = if lst xs k < 0 then (k : Int) else if cmpF (xs.getD k 0) (xs.getD (lst xs k).toNat 0) < 0 then (k : Int) else lst xs k := rfl
      by_cases hneg : lst xs k < 0
      · rw [if_pos hneg] at hn
        have hn' := Lib.hid hn
        generalize xs.getD k 0 = x at hcell hxk
        clear hcx hn
        generalize lst xs k = a at *
        go_wp2
        go_roundw
        case rel => exact ⟨k + 1, by omega, by go_num, by rw [hn'.out], hnx⟩
        case measure => simp [intOf]; omega
      · rw [if_neg hneg] at hn
        have hj := hcx (lst xs k).toNat (by omega)
        have hxj := small_getD hx (lst xs k).toNat
        obtain ⟨j, hj2⟩ := Int.eq_ofNat_of_zero_le (show 0 ≤ lst xs k by omega)
        rw [hj2] at hn hj hxj hneg l1 l2 ⊢
        rw [show ((j : Int)).toNat = j from rfl] at hn hj hxj
        generalize xs.getD k 0 = x at hcell hxk hn
        generalize xs.getD j 0 = y at hj hxj hn
        clear hcx
        by_cases hcmp : cmpF x y < 0
        · rw [if_pos hcmp] at hn
          have hn' := Lib.hid hn
          clear hn hj2
          go_wp2_with (go_at_call 22; (with_reducible refine (Compare_any _ _ _ hxk hxj).mono ?_); rintro e w1 ⟨rfl, hb1⟩; have hz1 := hb1.size)
          go_roundw
          case rel => exact ⟨k + 1, by omega, by go_num, by rw [hn'.out], by (repeat (with_reducible (first | exact Below.refl _ _ | assumption | refine bl_alloc ?_ _ | refine bl_drew ?_ | refine bl_drewN ?_ _ | (refine bl_set ?_ ?_ _; (focus (first | (simp; done) | (simp; omega) | omega))) | refine bl_then ?_ (by assumption))))⟩
          case measure => simp [intOf]; omega
        · rw [if_neg hcmp] at hn
          have hn' := Lib.hid hn
          clear hn hj2
          go_wp2_with (go_at_call 22; (with_reducible refine (Compare_any _ _ _ hxk hxj).mono ?_); rintro e w1 ⟨rfl, hb1⟩; have hz1 := hb1.size)
          go_roundw
          case rel => exact ⟨k + 1, by omega, by go_num, by rw [hn'.out], by (repeat (with_reducible (first | exact Below.refl _ _ | assumption | refine bl_alloc ?_ _ | refine bl_drew ?_ | refine bl_drewN ?_ _ | (refine bl_set ?_ ?_ _; (focus (first | (simp; done) | (simp; omega) | omega))) | refine bl_then ?_ (by assumption))))⟩
          case measure => simp [intOf]; omega
    · obtain rfl : k = xs.length := by omega
      clear hcx
      go_wp2
      go_ret
      exact ⟨rfl, hnx⟩


set_option maxHeartbeats 400000 in
theorem fold_none (m : Nat) (w : World) (hm : m < 18446744073709551616) : Calls Tryd.prog 36 #[.slice none 0 0, .float .f64 m, .func (.func 25) #[] #[]] w (PacePost (foldS m []) w) := by
  go_enter Tryd.func36, Tryd.ntmps36
  go_wp2
  go_loopw [1, 8, 11, 12, 13, 14, 15, 16, 17, 18, 19] (fun v _ i _ _ _ _ _ _ _ _ wr => i = .int .i64 0 ∧ v = .float .f64 m ∧ Below w.heap.size w wr) (fun _ _ _ _ _ _ _ _ _ _ _ _ => 0)
  case atStart => exact ⟨rfl, rfl, Below.refl _ _⟩
  case round =>
    obtain ⟨rfl, rfl, hnx⟩ := hrel
    go_wp2
    go_ret
    exact ⟨m, rfl, rfl, hm, hnx⟩

set_option maxHeartbeats 400000 in
theorem Mean_none (w : World) : Calls Tryd.prog 26 #[.slice none 0 0] w (PacePost (foldS theNaN []) w) := by
  go_enter Tryd.func26, Tryd.ntmps26
  go_wp2_with (go_at_call 21; (with_reducible refine (NaN_any _).mono ?_); rintro e w1 ⟨rfl, rfl⟩)
  refine (fold_none 9221120237041090561 _ (by decide)).mono ?_
  rintro e w2 ⟨r2, rfl, h1, h2, h3⟩
  have H1 := Lib.hid h1
  clear h1
  go_wp2
  go_ret
  exact ⟨r2, rfl, H1.out.trans (foldS_canon [] (by decide +kernel)), h2, h3⟩

set_option maxHeartbeats 400000 in
theorem Least_none (w : World) : Calls Tryd.prog 27 #[.slice none 0 0] w fun e w' => e = .returned (.int .i64 (-1)) ∧ Below w.heap.size w w' := by
  go_enter Tryd.func27, Tryd.ntmps27
  go_wp2
  go_loopw [3, 4, 5, 8, 9, 10, 11, 12, 13, 14, 15, 16, 17, 18, 19, 20, 21, 22, 23, 24, 25] (fun v _ _ i _ _ _ _ _ _ _ _ _ _ _ _ _ _ _ _ _ wr => i = .int .i64 0 ∧ v = .int .i64 (-1) ∧ Below w.heap.size w wr) (fun _ _ _ _ _ _ _ _ _ _ _ _ _ _ _ _ _ _ _ _ _ _ => 0)
  case atStart => exact ⟨rfl, rfl, Below.refl _ _⟩
  case round =>
    obtain ⟨rfl, rfl, hnx⟩ := hrel
    go_wp2
    go_ret
    exact ⟨rfl, hnx⟩

end Go.Proofs.YtgjampkdnpdblaaDoor
