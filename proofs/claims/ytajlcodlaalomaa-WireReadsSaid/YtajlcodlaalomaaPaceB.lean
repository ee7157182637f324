/- The walks of package pace: forms alone (the part of Pace that seats without the law's own 'of' can use). -/
import Derived.Test.YtajlcodlaalomaaPace0
namespace Go.Proofs.Ytajlcodlaalomaa
open Go.RowKit Go.Proofs.Ytajlcodlaalomaa.Pc

theorem run_bits (b : Nat) (w : World) : (callFunc 93 #[.float .f64 b]).run Try.prog w = .ok (.value (.int .u64 b)) w := by
  rw [run_callFunc_extern (e := Extern.MathFloatBits.float64bits) (fn := Try.f93) Try.func93 (by kernel_rfl) (by kernel_rfl) (by kernel_rfl) (by kernel_rfl)]
  rfl
theorem run_from (n : Int) (w : World) : (callFunc 49 #[.int .u64 n]).run Try.prog w = .ok (.value (.float .f64 n.toNat)) w := by
  rw [run_callFunc_extern (e := Extern.MathFloatBits.float64frombits) (fn := Try.f49) Try.func49 (by kernel_rfl) (by kernel_rfl) (by kernel_rfl) (by kernel_rfl)]
  rfl

set_option maxHeartbeats 400000 in
theorem IsNaN_any (b : Nat) (w : World) : Calls Try.prog 104 #[.float .f64 b] w fun e w' => e = .returned (.bool (nanB b)) ∧ w = w' := by
  go_enter Try.func104, Try.ntmps104
  go_wp2
  go_ret
  exact ⟨rfl, rfl⟩

set_option maxHeartbeats 400000 in
theorem Bits_any (b : Nat) (w : World) : Calls Try.prog 95 #[.float .f64 b] w fun e w' => e = .returned (.int .u64 (canon b)) ∧ w = w' := by
  have hr := run_bits b
  cases h : nanB b
  · have hc := Lib.hid (canon_num h)
    go_enter Try.func95, Try.ntmps95
    go_wp2_with (go_at_call 104; (with_reducible refine (IsNaN_any _ _).mono ?_); rintro e w1 ⟨rfl, rfl⟩)
    go_ret
    rw [hc.out]
    exact ⟨rfl, rfl⟩
  · have hc := Lib.hid (canon_nan h)
    go_enter Try.func95, Try.ntmps95
    go_wp2_with (go_at_call 104; (with_reducible refine (IsNaN_any _ _).mono ?_); rintro e w1 ⟨rfl, rfl⟩)
    go_ret
    rw [hc.out]
    exact ⟨rfl, rfl⟩

set_option maxHeartbeats 400000 in
theorem rBits_any (b : Nat) (w : World) : Calls Try.prog 77 #[.float .f64 b] w fun e w' => e = .returned (.int .u64 (canon b)) ∧ w = w' := by
  have hr := run_bits b
  cases h : nanB b
  · have hc := Lib.hid (canon_num h)
    have h' : (FloatKind.f64.format.order b b != some .eq) = false := h
    clear h
    go_enter Try.func77, Try.ntmps77
    go_wp2
    go_ret
    rw [hc.out]
    exact ⟨rfl, rfl⟩
  · have hc := Lib.hid (canon_nan h)
    have h' : (FloatKind.f64.format.order b b != some .eq) = true := h
    clear h
    go_enter Try.func77, Try.ntmps77
    go_wp2
    go_ret
    rw [hc.out]
    exact ⟨rfl, rfl⟩

end Go.Proofs.Ytajlcodlaalomaa
