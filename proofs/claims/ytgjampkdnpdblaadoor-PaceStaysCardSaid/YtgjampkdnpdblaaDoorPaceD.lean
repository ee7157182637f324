/- The walks of package pace (for the door's seat: printed by paced.py): forms, means. Paces as 64 bits. -/
import Derived.Test.YtgjampkdnpdblaaDoorPace0
namespace Go.Proofs.YtgjampkdnpdblaaDoor
open Go.RowKit Go.Proofs.YtgjampkdnpdblaaDoor.Pc

theorem run_bits (b : Nat) (w : World) : (callFunc 34 #[.float .f64 b]).run Tryd.prog w = .ok (.value (.int .u64 b)) w := by
  rw [run_callFunc_extern (e := Extern.MathFloatBits.float64bits) (fn := Tryd.f34) Tryd.func34 (by kernel_rfl) (by kernel_rfl) (by kernel_rfl) (by kernel_rfl)]
  rfl
theorem run_from (n : Int) (w : World) : (callFunc 29 #[.int .u64 n]).run Tryd.prog w = .ok (.value (.float .f64 n.toNat)) w := by
  rw [run_callFunc_extern (e := Extern.MathFloatBits.float64frombits) (fn := Tryd.f29) Tryd.func29 (by kernel_rfl) (by kernel_rfl) (by kernel_rfl) (by kernel_rfl)]
  rfl

set_option maxHeartbeats 400000 in
theorem IsNaN_any (b : Nat) (w : World) : Calls Tryd.prog 30 #[.float .f64 b] w fun e w' => e = .returned (.bool (nanB b)) ∧ w = w' := by
  go_enter Tryd.func30, Tryd.ntmps30
  go_wp2
  go_ret
  exact ⟨rfl, rfl⟩

theorem wrap_minus {b : Nat} (h : b < 18446744073709551616) : decide (wrap64 (b : Int) < 0) = minusB b := by
  rw [minusB, decide_eq_decide]
  unfold wrap64
  omega

set_option maxHeartbeats 400000 in
theorem Signbit_any (b : Nat) (w : World) (h : b < 18446744073709551616) : Calls Tryd.prog 35 #[.float .f64 b] w fun e w' => e = .returned (.bool (minusB b)) ∧ w = w' := by
  have hr := run_bits b
  have hm := Lib.hid (wrap_minus h)
  go_enter Tryd.func35, Tryd.ntmps35
  go_wp2
  go_ret
  exact ⟨ret_bool hm.out, rfl⟩

set_option maxHeartbeats 400000 in
theorem of_any (n : Int) (w : World) : Calls Tryd.prog 9 #[.int .u64 n] w fun e w' => e = .returned (.float .f64 n.toNat) ∧ w = w' := by
  have hr := run_from n
  go_enter Tryd.func9, Tryd.ntmps9
  go_wp2
  go_ret
  exact ⟨rfl, rfl⟩

set_option maxHeartbeats 400000 in
theorem Bits_any (b : Nat) (w : World) : Calls Tryd.prog 14 #[.float .f64 b] w fun e w' => e = .returned (.int .u64 (canon b)) ∧ w = w' := by
  have hr := run_bits b
  cases h : nanB b
  · have hc := Lib.hid (canon_num h)
    go_enter Tryd.func14, Tryd.ntmps14
    go_wp2_with (go_at_call 30; (with_reducible refine (IsNaN_any _ _).mono ?_); rintro e w1 ⟨rfl, rfl⟩)
    go_ret
    rw [hc.out]
    exact ⟨rfl, rfl⟩
  · have hc := Lib.hid (canon_nan h)
    go_enter Tryd.func14, Tryd.ntmps14
    go_wp2_with (go_at_call 30; (with_reducible refine (IsNaN_any _ _).mono ?_); rintro e w1 ⟨rfl, rfl⟩)
    go_ret
    rw [hc.out]
    exact ⟨rfl, rfl⟩

set_option maxHeartbeats 400000 in
theorem rBits_any (b : Nat) (w : World) : Calls Tryd.prog 15 #[.float .f64 b] w fun e w' => e = .returned (.int .u64 (canon b)) ∧ w = w' := by
  have hr := run_bits b
  cases h : nanB b
  · have hc := Lib.hid (canon_num h)
    have h' : (FloatKind.f64.format.order b b != some .eq) = false := h
    clear h
    go_enter Tryd.func15, Tryd.ntmps15
    go_wp2
    go_ret
    rw [hc.out]
    exact ⟨rfl, rfl⟩
  · have hc := Lib.hid (canon_nan h)
    have h' : (FloatKind.f64.format.order b b != some .eq) = true := h
    clear h
    go_enter Tryd.func15, Tryd.ntmps15
    go_wp2
    go_ret
    rw [hc.out]
    exact ⟨rfl, rfl⟩

set_option maxHeartbeats 400000 in
theorem same_t (a b : Nat) (w : World) (h : canon a = canon b) : Calls Tryd.prog 18 #[.float .f64 a, .float .f64 b] w fun e w' => e = .returned (.bool true) ∧ w = w' := by
  go_enter Tryd.func18, Tryd.ntmps18
  go_wp2_with (go_at_call 15; (with_reducible refine (rBits_any _ _).mono ?_); rintro e w1 ⟨rfl, rfl⟩)
  go_ret
  exact ⟨rfl, rfl⟩

/-- A pace comes back, up to which NaN it is. -/
def PacePost (v : Nat) (w : World) (e : Ending) (w' : World) : Prop := ∃ r, e = .returned (.float .f64 r) ∧ canon r = canon v ∧ r < 18446744073709551616 ∧ Below w.heap.size w w'

set_option maxHeartbeats 400000 in
theorem Smooth_any (old x : Nat) (w : World) (hx : x < 18446744073709551616) : Calls Tryd.prog 25 #[.float .f64 old, .float .f64 x] w (PacePost (smoothF old x) w) := by
  cases h : nanB old
  · have hc : smoothF old x = fadd old (fdiv (fsub x old) 4620693217682128896) := by simp [smoothF, h]
    rw [hc]
    clear hc
    go_enter Tryd.func25, Tryd.ntmps25
    go_wp2_with (go_at_call 30; (with_reducible refine (IsNaN_any _ _).mono ?_); rintro e w1 ⟨rfl, rfl⟩)
    obtain ⟨r1, w1, hr1, c1, _, b1⟩ := run_fsub (P := Tryd.prog) 24 x old w
    have C1 := Lib.hid c1
    clear c1
    rw [hr1]
    clear hr1
    go_wp2
    obtain ⟨r2, w2, hr2, c2, _, b2⟩ := run_fdiv (P := Tryd.prog) 24 r1 4620693217682128896 w1
    have C2 := Lib.hid c2
    clear c2
    rw [hr2]
    clear hr2
    go_wp2
    obtain ⟨r3, w3, hr3, c3, l3, b3⟩ := run_fadd (P := Tryd.prog) 24 old r2 w2
    have C3 := Lib.hid c3
    clear c3
    rw [hr3]
    clear hr3
    go_wp2
    go_ret
    have e2 : canon r2 = canon (fdiv (fsub x old) 4620693217682128896) := by rw [C2.out, fdiv_canon C1.out rfl]
    exact ⟨r3, rfl, by rw [C3.out, fadd_canon rfl e2], l3, by (repeat (with_reducible (first | exact Below.refl _ _ | assumption | refine bl_alloc ?_ _ | refine bl_drew ?_ | refine bl_drewN ?_ _ | (refine bl_set ?_ ?_ _; (focus (first | (simp; done) | (simp; omega) | omega))) | refine bl_then ?_ (by assumption))))⟩
  · have hc : smoothF old x = x := by simp [smoothF, h]
    rw [hc]
    clear hc
    go_enter Tryd.func25, Tryd.ntmps25
    go_wp2_with (go_at_call 30; (with_reducible refine (IsNaN_any _ _).mono ?_); rintro e w1 ⟨rfl, rfl⟩)
    go_ret
    exact ⟨x, rfl, rfl, hx, by (repeat (with_reducible (first | exact Below.refl _ _ | assumption | refine bl_alloc ?_ _ | refine bl_drew ?_ | refine bl_drewN ?_ _ | (refine bl_set ?_ ?_ _; (focus (first | (simp; done) | (simp; omega) | omega))) | refine bl_then ?_ (by assumption))))⟩

theorem cmp_nn {a b : Nat} (ha : nanB a = true) (hb : nanB b = true) : cmpF a b = 0 := by simp [cmpF, ha, hb]
theorem cmp_n0 {a b : Nat} (ha : nanB a = true) (hb : nanB b = false) : cmpF a b = 1 := by simp [cmpF, ha, hb]
theorem cmp_0n {a b : Nat} (ha : nanB a = false) (hb : nanB b = true) : cmpF a b = -1 := by simp [cmpF, ha, hb]
theorem cmp_lt {a b : Nat} (ha : nanB a = false) (hb : nanB b = false) (h : (FloatKind.f64.format.order a b == some .lt) = true) : cmpF a b = -1 := by simp only [cmpF, ha, hb, h]; rfl
theorem cmp_gt {a b : Nat} (ha : nanB a = false) (hb : nanB b = false) (h : (FloatKind.f64.format.order a b == some .lt) = false) (h' : (FloatKind.f64.format.order a b == some .gt) = true) : cmpF a b = 1 := by simp only [cmpF, ha, hb, h, h']; rfl
theorem cmp_eq {a b : Nat} (ha : nanB a = false) (hb : nanB b = false) (h : (FloatKind.f64.format.order a b == some .lt) = false) (h' : (FloatKind.f64.format.order a b == some .gt) = false) :
    cmpF a b = if minusB a then (if minusB b then 0 else -1) else if minusB b then 1 else 0 := by simp only [cmpF, ha, hb, h, h']; rfl

set_option maxHeartbeats 1000000 in
theorem Compare_any (a b : Nat) (w : World) (h : a < 18446744073709551616) (h' : b < 18446744073709551616) : Calls Tryd.prog 22 #[.float .f64 a, .float .f64 b] w fun e w' => e = .returned (.int .i64 (cmpF a b)) ∧ Below w.heap.size w w' := by
  cases ha : nanB a <;> cases hb : nanB b
  · cases h1 : (FloatKind.f64.format.order a b == some .lt)
    · cases h2 : (FloatKind.f64.format.order a b == some .gt)
      · rw [cmp_eq ha hb h1 h2]
        cases m1 : minusB a <;> cases m2 : minusB b
        all_goals
          go_enter Tryd.func22, Tryd.ntmps22
          go_wp2_with (first | (go_at_call 30; (with_reducible refine (IsNaN_any _ _).mono ?_); rintro e w1 ⟨rfl, rfl⟩) | (go_at_call 35; (with_reducible refine (Signbit_any _ _ h).mono ?_); rintro e w1 ⟨rfl, rfl⟩) | (go_at_call 35; (with_reducible refine (Signbit_any _ _ h').mono ?_); rintro e w1 ⟨rfl, rfl⟩))
          go_ret
          exact ⟨rfl, by (repeat (with_reducible (first | exact Below.refl _ _ | assumption | refine bl_alloc ?_ _ | refine bl_drew ?_ | refine bl_drewN ?_ _ | (refine bl_set ?_ ?_ _; (focus (first | (simp; done) | (simp; omega) | omega))) | refine bl_then ?_ (by assumption))))⟩
      · rw [cmp_gt ha hb h1 h2]
        go_enter Tryd.func22, Tryd.ntmps22
        go_wp2_with (go_at_call 30; (with_reducible refine (IsNaN_any _ _).mono ?_); rintro e w1 ⟨rfl, rfl⟩)
        go_ret
        exact ⟨rfl, by (repeat (with_reducible (first | exact Below.refl _ _ | assumption | refine bl_alloc ?_ _ | refine bl_drew ?_ | refine bl_drewN ?_ _ | (refine bl_set ?_ ?_ _; (focus (first | (simp; done) | (simp; omega) | omega))) | refine bl_then ?_ (by assumption))))⟩
    · rw [cmp_lt ha hb h1]
      go_enter Tryd.func22, Tryd.ntmps22
      go_wp2_with (go_at_call 30; (with_reducible refine (IsNaN_any _ _).mono ?_); rintro e w1 ⟨rfl, rfl⟩)
      go_ret
      exact ⟨rfl, by (repeat (with_reducible (first | exact Below.refl _ _ | assumption | refine bl_alloc ?_ _ | refine bl_drew ?_ | refine bl_drewN ?_ _ | (refine bl_set ?_ ?_ _; (focus (first | (simp; done) | (simp; omega) | omega))) | refine bl_then ?_ (by assumption))))⟩
  · rw [cmp_0n ha hb]
    go_enter Tryd.func22, Tryd.ntmps22
    go_wp2_with (go_at_call 30; (with_reducible refine (IsNaN_any _ _).mono ?_); rintro e w1 ⟨rfl, rfl⟩)
    go_ret
    exact ⟨rfl, by (repeat (with_reducible (first | exact Below.refl _ _ | assumption | refine bl_alloc ?_ _ | refine bl_drew ?_ | refine bl_drewN ?_ _ | (refine bl_set ?_ ?_ _; (focus (first | (simp; done) | (simp; omega) | omega))) | refine bl_then ?_ (by assumption))))⟩
  · rw [cmp_n0 ha hb]
    go_enter Tryd.func22, Tryd.ntmps22
    go_wp2_with (go_at_call 30; (with_reducible refine (IsNaN_any _ _).mono ?_); rintro e w1 ⟨rfl, rfl⟩)
    go_ret
    exact ⟨rfl, by (repeat (with_reducible (first | exact Below.refl _ _ | assumption | refine bl_alloc ?_ _ | refine bl_drew ?_ | refine bl_drewN ?_ _ | (refine bl_set ?_ ?_ _; (focus (first | (simp; done) | (simp; omega) | omega))) | refine bl_then ?_ (by assumption))))⟩
  · rw [cmp_nn ha hb]
    go_enter Tryd.func22, Tryd.ntmps22
    go_wp2_with (go_at_call 30; (with_reducible refine (IsNaN_any _ _).mono ?_); rintro e w1 ⟨rfl, rfl⟩)
    go_ret
    exact ⟨rfl, by (repeat (with_reducible (first | exact Below.refl _ _ | assumption | refine bl_alloc ?_ _ | refine bl_drew ?_ | refine bl_drewN ?_ _ | (refine bl_set ?_ ?_ _; (focus (first | (simp; done) | (simp; omega) | omega))) | refine bl_then ?_ (by assumption))))⟩

end Go.Proofs.YtgjampkdnpdblaaDoor
