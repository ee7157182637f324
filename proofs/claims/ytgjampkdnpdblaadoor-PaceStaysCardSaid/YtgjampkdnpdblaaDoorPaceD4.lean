/- The walks of package pace and of its reference: Of; Text of the reference. -/
import Derived.Test.YtgjampkdnpdblaaDoorPaceD3
namespace Go.Proofs.YtgjampkdnpdblaaDoor
open Go.RowKit Go.Proofs.YtgjampkdnpdblaaDoor.Pc BigFrame
set_option linter.unusedSimpArgs false
set_option linter.unusedVariables false

/-- Are bits no pace's form? The pace of bits; what is wrong. -/
def badF (n : Nat) : Bool := nanB n && !(n == 9221120237041090560)
def ofV (n : Nat) : Nat := if badF n then 0 else n
def ofE (n : Nat) : Int := if badF n then 5 else 0
theorem badF_num {n : Nat} (h : nanB n = false) : badF n = false := by unfold badF; rw [h]; rfl
theorem int_nat {n : Int} (h : 0 ≤ n) : ((n.toNat : Nat) : Int) = n := Int.toNat_of_nonneg h

set_option maxHeartbeats 400000 in
theorem Of_any (n : Nat) (w : World) : Calls Tryd.prog 10 #[.int .u64 n] w fun e w' => e = .returned (.tuple #[.float .f64 (ofV n), .int .i64 (ofE n)]) ∧ w = w' := by
  have hr := run_from (n : Int)
  rw [Int.toNat_natCast] at hr
  cases h : nanB n
  · have e1 : ofV n = n ∧ ofE n = 0 := by unfold ofV ofE; rw [badF_num h]; exact ⟨rfl, rfl⟩
    rw [e1.1, e1.2]
    clear e1
    go_enter Tryd.func10, Tryd.ntmps10
    go_wp2_with (go_at_call 30; (with_reducible refine (IsNaN_any _ _).mono ?_); rintro e w1 ⟨rfl, rfl⟩)
    exact bodyPost_ret (v := .tuple #[.float .f64 n, .int .i64 0]) (by simp [results, Tryd.results10, go_sem]) rfl ⟨rfl, rfl⟩
  · by_cases hn : n = 9221120237041090560
    · have hb : (n == 9221120237041090560) = true := by simp [hn]
      have hd : ((n : Int) != 9221120237041090560) = false := by simp; omega
      have hd' : (n != 9221120237041090560) = false := by simp [hn]
      have e1 : ofV n = n ∧ ofE n = 0 := by unfold ofV ofE badF; rw [h, hb]; exact ⟨rfl, rfl⟩
      rw [e1.1, e1.2]
      clear e1 hn
      go_enter Tryd.func10, Tryd.ntmps10
      go_wp2_with (go_at_call 30; (with_reducible refine (IsNaN_any _ _).mono ?_); rintro e w1 ⟨rfl, rfl⟩)
      exact bodyPost_ret (v := .tuple #[.float .f64 n, .int .i64 0]) (by simp [results, Tryd.results10, go_sem]) rfl ⟨rfl, rfl⟩
    · have hb : (n == 9221120237041090560) = false := by simp [hn]
      have hd : ((n : Int) != 9221120237041090560) = true := by simp; omega
      have hd' : (n != 9221120237041090560) = true := by simp [hn]
      have e1 : ofV n = 0 ∧ ofE n = 5 := by unfold ofV ofE badF; rw [h, hb]; exact ⟨rfl, rfl⟩
      rw [e1.1, e1.2]
      clear e1 hn
      go_enter Tryd.func10, Tryd.ntmps10
      go_wp2_with (go_at_call 30; (with_reducible refine (IsNaN_any _ _).mono ?_); rintro e w1 ⟨rfl, rfl⟩)
      exact bodyPost_ret (v := .tuple #[.float .f64 0, .int .i64 5]) (by simp [results, Tryd.results10, go_sem]) rfl ⟨rfl, rfl⟩

set_option maxHeartbeats 400000 in
theorem rOf_any (n : Nat) (w : World) : Calls Tryd.prog 11 #[.int .u64 n] w fun e w' => e = .returned (.tuple #[.float .f64 (ofV n), .int .i64 (ofE n)]) ∧ w = w' := by
  have hr := run_from (n : Int)
  rw [Int.toNat_natCast] at hr
  cases h : nanB n
  · have e1 : ofV n = n ∧ ofE n = 0 := by unfold ofV ofE; rw [badF_num h]; exact ⟨rfl, rfl⟩
    rw [e1.1, e1.2]
    have h' : (FloatKind.f64.format.order n n != some .eq) = false := h
    clear e1 h
    go_enter Tryd.func11, Tryd.ntmps11
    go_wp2
    exact bodyPost_ret (v := .tuple #[.float .f64 n, .int .i64 0]) (by simp [results, Tryd.results11, go_sem]) rfl ⟨rfl, rfl⟩
  · by_cases hn : n = 9221120237041090560
    · have hb : (n == 9221120237041090560) = true := by simp [hn]
      have hd : ((n : Int) != 9221120237041090560) = false := by simp; omega
      have hd' : (n != 9221120237041090560) = false := by simp [hn]
      have e1 : ofV n = n ∧ ofE n = 0 := by unfold ofV ofE badF; rw [h, hb]; exact ⟨rfl, rfl⟩
      rw [e1.1, e1.2]
      have h' : (FloatKind.f64.format.order n n != some .eq) = true := h
      clear e1 h hn
      go_enter Tryd.func11, Tryd.ntmps11
      go_wp2
      exact bodyPost_ret (v := .tuple #[.float .f64 n, .int .i64 0]) (by simp [results, Tryd.results11, go_sem]) rfl ⟨rfl, rfl⟩
    · have hb : (n == 9221120237041090560) = false := by simp [hn]
      have hd : ((n : Int) != 9221120237041090560) = true := by simp; omega
      have hd' : (n != 9221120237041090560) = true := by simp [hn]
      have e1 : ofV n = 0 ∧ ofE n = 5 := by unfold ofV ofE badF; rw [h, hb]; exact ⟨rfl, rfl⟩
      rw [e1.1, e1.2]
      have h' : (FloatKind.f64.format.order n n != some .eq) = true := h
      clear e1 hn h
      go_enter Tryd.func11, Tryd.ntmps11
      go_wp2
      exact bodyPost_ret (v := .tuple #[.float .f64 0, .int .i64 5]) (by simp [results, Tryd.results11, go_sem]) rfl ⟨rfl, rfl⟩

/-- The last k digits. -/
def hexK (n k : Nat) : List UInt8 := (hexT n).drop (16 - k)
theorem hexT_len (n : Nat) : (hexT n).length = 16 := by simp [hexT]
theorem hexK_zero (n : Nat) : hexK n 0 = [] := by unfold hexK; rw [List.drop_of_length_le (by rw [hexT_len]; omega)]
theorem hexK_all (n : Nat) : hexK n 16 = hexT n := rfl
theorem hexK_next (n k : Nat) (h : k < 16) : hexK n (k + 1) = (hexD (n / 16 ^ k % 16)).toNat.toUInt8 :: hexK n k := by
  unfold hexK
  rw [List.drop_eq_getElem_cons (i := 16 - (k + 1)) (by rw [hexT_len]; omega)]
  have e : 16 - (k + 1) + 1 = 16 - k := by omega
  rw [e]
  congr 1
  simp only [hexT, List.getElem_map, List.getElem_range]
  rw [show 15 - (16 - (k + 1)) = k by omega]
end Go.Proofs.YtgjampkdnpdblaaDoor
