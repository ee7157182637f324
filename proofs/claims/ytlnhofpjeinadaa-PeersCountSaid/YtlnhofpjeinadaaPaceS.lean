/- The walks of package pace and of its reference: Smooth, Compare (by wip/paces.py out of XPace). Paces as 64 bits. -/
import Derived.Test.YtlnhofpjeinadaaPace0
namespace Go.Proofs.Ytlnhofpjeinadaa
open Go.RowKit Go.Proofs.Ytlnhofpjeinadaa.Pc

theorem run_bits (b : Nat) (w : World) : (callFunc 36 #[.float .f64 b]).run Try.prog w = .ok (.value (.int .u64 b)) w := by
  rw [run_callFunc_extern (e := Extern.MathFloatBits.float64bits) (fn := Try.f36) Try.func36 (by kernel_rfl) (by kernel_rfl) (by kernel_rfl) (by kernel_rfl)]
  rfl
theorem run_from (n : Int) (w : World) : (callFunc 37 #[.int .u64 n]).run Try.prog w = .ok (.value (.float .f64 n.toNat)) w := by
  rw [run_callFunc_extern (e := Extern.MathFloatBits.float64frombits) (fn := Try.f37) Try.func37 (by kernel_rfl) (by kernel_rfl) (by kernel_rfl) (by kernel_rfl)]
  rfl

set_option maxHeartbeats 400000 in
theorem IsNaN_any (b : Nat) (w : World) : Calls Try.prog 70 #[.float .f64 b] w fun e w' => e = .returned (.bool (nanB b)) ∧ w = w' := by
  go_enter Try.func70, Try.ntmps70
  go_wp2
  go_ret
  exact ⟨rfl, rfl⟩

theorem wrap_minus {b : Nat} (h : b < 18446744073709551616) : decide (wrap64 (b : Int) < 0) = minusB b := by
  rw [minusB, decide_eq_decide]
  unfold wrap64
  omega

set_option maxHeartbeats 400000 in
theorem Signbit_any (b : Nat) (w : World) (h : b < 18446744073709551616) : Calls Try.prog 74 #[.float .f64 b] w fun e w' => e = .returned (.bool (minusB b)) ∧ w = w' := by
  have hr := run_bits b
  have hm := Lib.hid (wrap_minus h)
  go_enter Try.func74, Try.ntmps74
  go_wp2
  go_ret
  exact ⟨ret_bool hm.out, rfl⟩

set_option maxHeartbeats 400000 in
set_option maxHeartbeats 400000 in
set_option maxHeartbeats 400000 in
set_option maxHeartbeats 400000 in
/-- A pace comes back, up to which NaN it is. -/
def PacePost (v : Nat) (w : World) (e : Ending) (w' : World) : Prop := ∃ r, e = .returned (.float .f64 r) ∧ canon r = canon v ∧ r < 18446744073709551616 ∧ Below w.heap.size w w'

set_option maxHeartbeats 400000 in
theorem Smooth_any (old x : Nat) (w : World) (hx : x < 18446744073709551616) : Calls Try.prog 60 #[.float .f64 old, .float .f64 x] w (PacePost (smoothF old x) w) := by
  cases h : nanB old
  · have hc : smoothF old x = fadd old (fdiv (fsub x old) 4620693217682128896) := by simp [smoothF, h]
    rw [hc]
    clear hc
    go_enter Try.func60, Try.ntmps60
    go_wp2_with (go_at_call 70; (with_reducible refine (IsNaN_any _ _).mono ?_); rintro e w1 ⟨rfl, rfl⟩)
    obtain ⟨r1, w1, hr1, c1, _, b1⟩ := run_fsub (P := Try.prog) 31 x old w
    have C1 := Lib.hid c1
    clear c1
    rw [hr1]
    clear hr1
    go_wp2
    obtain ⟨r2, w2, hr2, c2, _, b2⟩ := run_fdiv (P := Try.prog) 31 r1 4620693217682128896 w1
    have C2 := Lib.hid c2
    clear c2
    rw [hr2]
    clear hr2
    go_wp2
    obtain ⟨r3, w3, hr3, c3, l3, b3⟩ := run_fadd (P := Try.prog) 31 old r2 w2
    have C3 := Lib.hid c3
    clear c3
    rw [hr3]
    clear hr3
    go_wp2
    go_ret
    have e2 : canon r2 = canon (fdiv (fsub x old) 4620693217682128896) := by rw [C2.out, fdiv_canon C1.out rfl]
    exact ⟨r3, rfl, by rw [C3.out, fadd_canon rfl e2], l3, by (repeat (with_reducible (first | exact Below.refl _ _ | assumption | refine bl_alloc ?_ _ | refine bl_drew ?_ | refine bl_drewN ?_ _ | (refine bl_set ?_ ?_ _; (focus (first | (simp; done) | (simp; omega) | omega))) | refine bl_then ?_ (by assumption))))⟩
  · have hc : smoothF old x = x := by simp [smoothF, h]
    rw [hc]
    clear hc
    go_enter Try.func60, Try.ntmps60
    go_wp2_with (go_at_call 70; (with_reducible refine (IsNaN_any _ _).mono ?_); rintro e w1 ⟨rfl, rfl⟩)
    go_ret
    exact ⟨x, rfl, rfl, hx, by (repeat (with_reducible (first | exact Below.refl _ _ | assumption | refine bl_alloc ?_ _ | refine bl_drew ?_ | refine bl_drewN ?_ _ | (refine bl_set ?_ ?_ _; (focus (first | (simp; done) | (simp; omega) | omega))) | refine bl_then ?_ (by assumption))))⟩

set_option maxHeartbeats 400000 in
theorem rSmooth_any (old x : Nat) (w : World) (hx : x < 18446744073709551616) : Calls Try.prog 72 #[.float .f64 old, .float .f64 x] w (PacePost (smoothF old x) w) := by
  cases h : nanB old
  · have hc : smoothF old x = fadd old (fdiv (fsub x old) 4620693217682128896) := by simp [smoothF, h]
    rw [hc]
    have h' : (FloatKind.f64.format.order old old != some .eq) = false := h
    clear hc h
    go_enter Try.func72, Try.ntmps72
    go_wp2
    obtain ⟨r1, w1, hr1, c1, _, b1⟩ := run_fsub (P := Try.prog) 31 x old w
    have C1 := Lib.hid c1
    clear c1
    rw [hr1]
    clear hr1
    go_wp2
    obtain ⟨r2, w2, hr2, c2, _, b2⟩ := run_fdiv (P := Try.prog) 31 r1 4620693217682128896 w1
    have C2 := Lib.hid c2
    clear c2
    rw [hr2]
    clear hr2
    go_wp2
    obtain ⟨r3, w3, hr3, c3, l3, b3⟩ := run_fadd (P := Try.prog) 31 old r2 w2
    have C3 := Lib.hid c3
    clear c3
    rw [hr3]
    clear hr3
    go_wp2
    go_ret
    have e2 : canon r2 = canon (fdiv (fsub x old) 4620693217682128896) := by rw [C2.out, fdiv_canon C1.out rfl]
    exact ⟨r3, rfl, by rw [C3.out, fadd_canon rfl e2], l3, by (repeat (with_reducible (first | exact Below.refl _ _ | assumption | refine bl_alloc ?_ _ | refine bl_drew ?_ | refine bl_drewN ?_ _ | (refine bl_set ?_ ?_ _; (focus (first | (simp; done) | (simp; omega) | omega))) | refine bl_then ?_ (by assumption))))⟩
  · have hc : smoothF old x = x := by simp [smoothF, h]
    rw [hc]
    have h' : (FloatKind.f64.format.order old old != some .eq) = true := h
    clear hc h
    go_enter Try.func72, Try.ntmps72
    go_wp2
    go_ret
    exact ⟨x, rfl, rfl, hx, by (repeat (with_reducible (first | exact Below.refl _ _ | assumption | refine bl_alloc ?_ _ | refine bl_drew ?_ | refine bl_drewN ?_ _ | (refine bl_set ?_ ?_ _; (focus (first | (simp; done) | (simp; omega) | omega))) | refine bl_then ?_ (by assumption))))⟩

theorem minus_true {b : Nat} (h : b < 18446744073709551616) (k : ((b : Int) / 9223372036854775808 == 1) = true) : minusB b = true := by
  simp only [beq_iff_eq] at k
  rw [minusB, decide_eq_true_eq]
  omega
theorem minus_false {b : Nat} (k : ((b : Int) / 9223372036854775808 == 1) = false) (h : b < 18446744073709551616) : minusB b = false := by
  simp only [beq_eq_false_iff_ne] at k
  rw [minusB, decide_eq_false_iff_not]
  omega

set_option maxHeartbeats 400000 in
theorem sign_any (b : Nat) (w : World) (h : b < 18446744073709551616) : Calls Try.prog 75 #[.float .f64 b] w fun e w' => e = .returned (.int .i64 (if minusB b then 1 else 0)) ∧ w = w' := by
  have hr := run_bits b
  have m1 := Lib.hid (@minus_true b h)
  have m2 := Lib.hid (fun k => @minus_false b k h)
  generalize hv : (if minusB b then (1 : Int) else 0) = v
  have hv' := Lib.hid hv
  clear hv
  go_enter Try.func75, Try.ntmps75
  go_wp2
  · rename_i k
    go_ret
    exact ⟨ret_int (by rw [← hv'.out, m1.out k]; rfl), rfl⟩
  · rename_i k
    go_ret
    exact ⟨ret_int (by rw [← hv'.out, m2.out k]; rfl), rfl⟩

theorem cmp_nn {a b : Nat} (ha : nanB a = true) (hb : nanB b = true) : cmpF a b = 0 := by simp [cmpF, ha, hb]
theorem cmp_n0 {a b : Nat} (ha : nanB a = true) (hb : nanB b = false) : cmpF a b = 1 := by simp [cmpF, ha, hb]
theorem cmp_0n {a b : Nat} (ha : nanB a = false) (hb : nanB b = true) : cmpF a b = -1 := by simp [cmpF, ha, hb]
theorem cmp_lt {a b : Nat} (ha : nanB a = false) (hb : nanB b = false) (h : (FloatKind.f64.format.order a b == some .lt) = true) : cmpF a b = -1 := by simp only [cmpF, ha, hb, h]; rfl
theorem cmp_gt {a b : Nat} (ha : nanB a = false) (hb : nanB b = false) (h : (FloatKind.f64.format.order a b == some .lt) = false) (h' : (FloatKind.f64.format.order a b == some .gt) = true) : cmpF a b = 1 := by simp only [cmpF, ha, hb, h, h']; rfl
theorem cmp_eq {a b : Nat} (ha : nanB a = false) (hb : nanB b = false) (h : (FloatKind.f64.format.order a b == some .lt) = false) (h' : (FloatKind.f64.format.order a b == some .gt) = false) :
    cmpF a b = if minusB a then (if minusB b then 0 else -1) else if minusB b then 1 else 0 := by simp only [cmpF, ha, hb, h, h']; rfl

set_option maxHeartbeats 1000000 in
theorem Compare_any (a b : Nat) (w : World) (h : a < 18446744073709551616) (h' : b < 18446744073709551616) : Calls Try.prog 69 #[.float .f64 a, .float .f64 b] w fun e w' => e = .returned (.int .i64 (cmpF a b)) ∧ Below w.heap.size w w' := by
  cases ha : nanB a <;> cases hb : nanB b
  · cases h1 : (FloatKind.f64.format.order a b == some .lt)
    · cases h2 : (FloatKind.f64.format.order a b == some .gt)
      · rw [cmp_eq ha hb h1 h2]
        cases m1 : minusB a <;> cases m2 : minusB b
        all_goals
          go_enter Try.func69, Try.ntmps69
          go_wp2_with (first | (go_at_call 70; (with_reducible refine (IsNaN_any _ _).mono ?_); rintro e w1 ⟨rfl, rfl⟩) | (go_at_call 74; (with_reducible refine (Signbit_any _ _ h).mono ?_); rintro e w1 ⟨rfl, rfl⟩) | (go_at_call 74; (with_reducible refine (Signbit_any _ _ h').mono ?_); rintro e w1 ⟨rfl, rfl⟩))
          go_ret
          exact ⟨rfl, by (repeat (with_reducible (first | exact Below.refl _ _ | assumption | refine bl_alloc ?_ _ | refine bl_drew ?_ | refine bl_drewN ?_ _ | (refine bl_set ?_ ?_ _; (focus (first | (simp; done) | (simp; omega) | omega))) | refine bl_then ?_ (by assumption))))⟩
      · rw [cmp_gt ha hb h1 h2]
        go_enter Try.func69, Try.ntmps69
        go_wp2_with (go_at_call 70; (with_reducible refine (IsNaN_any _ _).mono ?_); rintro e w1 ⟨rfl, rfl⟩)
        go_ret
        exact ⟨rfl, by (repeat (with_reducible (first | exact Below.refl _ _ | assumption | refine bl_alloc ?_ _ | refine bl_drew ?_ | refine bl_drewN ?_ _ | (refine bl_set ?_ ?_ _; (focus (first | (simp; done) | (simp; omega) | omega))) | refine bl_then ?_ (by assumption))))⟩
    · rw [cmp_lt ha hb h1]
      go_enter Try.func69, Try.ntmps69
      go_wp2_with (go_at_call 70; (with_reducible refine (IsNaN_any _ _).mono ?_); rintro e w1 ⟨rfl, rfl⟩)
      go_ret
      exact ⟨rfl, by (repeat (with_reducible (first | exact Below.refl _ _ | assumption | refine bl_alloc ?_ _ | refine bl_drew ?_ | refine bl_drewN ?_ _ | (refine bl_set ?_ ?_ _; (focus (first | (simp; done) | (simp; omega) | omega))) | refine bl_then ?_ (by assumption))))⟩
  · rw [cmp_0n ha hb]
    go_enter Try.func69, Try.ntmps69
    go_wp2_with (go_at_call 70; (with_reducible refine (IsNaN_any _ _).mono ?_); rintro e w1 ⟨rfl, rfl⟩)
    go_ret
    exact ⟨rfl, by (repeat (with_reducible (first | exact Below.refl _ _ | assumption | refine bl_alloc ?_ _ | refine bl_drew ?_ | refine bl_drewN ?_ _ | (refine bl_set ?_ ?_ _; (focus (first | (simp; done) | (simp; omega) | omega))) | refine bl_then ?_ (by assumption))))⟩
  · rw [cmp_n0 ha hb]
    go_enter Try.func69, Try.ntmps69
    go_wp2_with (go_at_call 70; (with_reducible refine (IsNaN_any _ _).mono ?_); rintro e w1 ⟨rfl, rfl⟩)
    go_ret
    exact ⟨rfl, by (repeat (with_reducible (first | exact Below.refl _ _ | assumption | refine bl_alloc ?_ _ | refine bl_drew ?_ | refine bl_drewN ?_ _ | (refine bl_set ?_ ?_ _; (focus (first | (simp; done) | (simp; omega) | omega))) | refine bl_then ?_ (by assumption))))⟩
  · rw [cmp_nn ha hb]
    go_enter Try.func69, Try.ntmps69
    go_wp2_with (go_at_call 70; (with_reducible refine (IsNaN_any _ _).mono ?_); rintro e w1 ⟨rfl, rfl⟩)
    go_ret
    exact ⟨rfl, by (repeat (with_reducible (first | exact Below.refl _ _ | assumption | refine bl_alloc ?_ _ | refine bl_drew ?_ | refine bl_drewN ?_ _ | (refine bl_set ?_ ?_ _; (focus (first | (simp; done) | (simp; omega) | omega))) | refine bl_then ?_ (by assumption))))⟩

set_option maxHeartbeats 1000000 in
theorem rCompare_any (a b : Nat) (w : World) (h : a < 18446744073709551616) (h' : b < 18446744073709551616) : Calls Try.prog 71 #[.float .f64 a, .float .f64 b] w fun e w' => e = .returned (.int .i64 (cmpF a b)) ∧ w = w' := by
  have ua : nanB a = (FloatKind.f64.format.order a a != some .eq) := rfl
  have ub : nanB b = (FloatKind.f64.format.order b b != some .eq) := rfl
  cases ha : nanB a <;> cases hb : nanB b
  all_goals
    have xa := ha
    have xb := hb
    rw [ua] at xa
    rw [ub] at xb
    have ya : (FloatKind.f64.format.order a a == some .eq) = !nanB a := by rw [ua]; simp [bne]
    have yb : (FloatKind.f64.format.order b b == some .eq) = !nanB b := by rw [ub]; simp [bne]
    rw [ha] at ya
    rw [hb] at yb
    clear ua ub
  · cases h1 : (FloatKind.f64.format.order a b == some .lt)
    · cases h2 : (FloatKind.f64.format.order a b == some .gt)
      · rw [cmp_eq ha hb h1 h2]
        clear ha hb
        cases m1 : minusB a <;> cases m2 : minusB b
        all_goals
          go_enter Try.func71, Try.ntmps71
          go_wp2_with (first | (go_at_call 75; (with_reducible refine (sign_any _ _ h).mono ?_); rintro e w1 ⟨rfl, rfl⟩) | (go_at_call 75; (with_reducible refine (sign_any _ _ h').mono ?_); rintro e w1 ⟨rfl, rfl⟩))
          go_ret
          exact ⟨rfl, rfl⟩
      · rw [cmp_gt ha hb h1 h2]
        clear ha hb
        go_enter Try.func71, Try.ntmps71
        go_wp2
        go_ret
        exact ⟨rfl, rfl⟩
    · rw [cmp_lt ha hb h1]
      clear ha hb
      go_enter Try.func71, Try.ntmps71
      go_wp2
      go_ret
      exact ⟨rfl, rfl⟩
  · rw [cmp_0n ha hb]
    clear ha hb
    go_enter Try.func71, Try.ntmps71
    go_wp2
    go_ret
    exact ⟨rfl, rfl⟩
  · rw [cmp_n0 ha hb]
    clear ha hb
    go_enter Try.func71, Try.ntmps71
    go_wp2
    go_ret
    exact ⟨rfl, rfl⟩
  · rw [cmp_nn ha hb]
    clear ha hb
    go_enter Try.func71, Try.ntmps71
    go_wp2
    go_ret
    exact ⟨rfl, rfl⟩

end Go.Proofs.Ytlnhofpjeinadaa
