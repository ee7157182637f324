/- The law package of paces: the closed examples, and PaceSmooths. -/
import Derived.Test.YtgjampkdnpdblaaDoorPaceD2
namespace Go.Proofs.YtgjampkdnpdblaaDoor
open Go.RowKit Go.Proofs.YtgjampkdnpdblaaDoor.Pc BigFrame

set_option maxHeartbeats 400000 in
theorem NaN_any (w : World) : Calls Tryd.prog 21 #[] w fun e w' => e = .returned (.float .f64 9221120237041090561) ∧ w = w' := by
  have hr := run_from 9221120237041090561
  go_enter Tryd.func21, Tryd.ntmps21
  go_wp2
  go_ret
  exact ⟨rfl, rfl⟩

set_option maxHeartbeats 400000 in
theorem Inf_any (w : World) : Calls Tryd.prog 20 #[.int .i64 1] w fun e w' => e = .returned (.float .f64 9218868437227405312) ∧ w = w' := by
  have hr := run_from 9218868437227405312
  go_enter Tryd.func20, Tryd.ntmps20
  go_wp2
  go_ret
  exact ⟨rfl, rfl⟩

set_option maxHeartbeats 400000 in
theorem Minus_any (w : World) : Calls Tryd.prog 19 #[.float .f64 0, .float .f64 13830554455654793216] w fun e w' => e = .returned (.float .f64 9223372036854775808) ∧ w = w' := by
  have hr := run_bits
  have hf := run_from
  have b1 : bits BinOp.andNot IntKind.u64 0 9223372036854775808 = 0 := by decide +kernel
  have b2 : bits BinOp.and IntKind.u64 13830554455654793216 9223372036854775808 = 9223372036854775808 := by decide +kernel
  have b3 : bits BinOp.or IntKind.u64 0 9223372036854775808 = 9223372036854775808 := by decide +kernel
  go_enter Tryd.func19, Tryd.ntmps19
  go_wp2
  go_ret
  exact ⟨rfl, rfl⟩

theorem Smooth_t (old x v : Nat) (hx : x < 18446744073709551616) (h : canon (smoothF old x) = v) (hv : nanB v = false) (w : World) :
    Calls Tryd.prog 25 #[.float .f64 old, .float .f64 x] w fun e w' => e = .returned (.float .f64 v) ∧ Below w.heap.size w w' :=
  (Smooth_any old x w hx).mono fun e w' ⟨r, he, hc, _, hb⟩ => by
    have hn := nan_of_canon (hc.trans (canon_canon (smoothF old x)).symm)
    rw [h, hv] at hn
    rw [canon_num hn, h] at hc
    subst hc
    exact ⟨he, hb⟩
theorem Compare_t (a b : Nat) (v : Int) (h : a < 18446744073709551616) (h' : b < 18446744073709551616) (hv : cmpF a b = v) (w : World) :
    Calls Tryd.prog 22 #[.float .f64 a, .float .f64 b] w fun e w' => e = .returned (.int .i64 v) ∧ Below w.heap.size w w' := hv ▸ Compare_any a b w h h'
theorem Text_t (a : Nat) (l : List UInt8) (h : a < 18446744073709551616) (hv : hexT (canon a) = l) (w : World) :
    Calls Tryd.prog 16 #[.float .f64 a] w fun e w' => e = .returned (.string ⟨l.toArray⟩) ∧ Below w.heap.size w w' := hv ▸ Text_any a w h
theorem Bits_t (a : Nat) (v : Int) (hv : (canon a : Int) = v) (w : World) :
    Calls Tryd.prog 14 #[.float .f64 a] w fun e w' => e = .returned (.int .u64 v) ∧ w = w' := hv ▸ Bits_any a w

theorem k_c1 (w : World) : Calls Tryd.prog 22 #[.float .f64 9223372036854775808, .float .f64 0] w fun e w' => e = .returned (.int .i64 (-1)) ∧ Below w.heap.size w w' := Compare_t _ _ _ (by decide) (by decide) (by decide +kernel) w
theorem k_c2 (w : World) : Calls Tryd.prog 22 #[.float .f64 9221120237041090561, .float .f64 9218868437227405312] w fun e w' => e = .returned (.int .i64 1) ∧ Below w.heap.size w w' := Compare_t _ _ _ (by decide) (by decide) (by decide +kernel) w
theorem k_s1 (w : World) : Calls Tryd.prog 25 #[.float .f64 4620693217682128896, .float .f64 4625196817309499392] w fun e w' => e = .returned (.float .f64 4621256167635550208) ∧ Below w.heap.size w w' := Smooth_t _ _ _ (by decide) (by decide +kernel) (by decide +kernel) w
theorem k_b1 (w : World) : Calls Tryd.prog 14 #[.float .f64 9223372036854775808] w fun e w' => e = .returned (.int .u64 9223372036854775808) ∧ w = w' := Bits_t _ _ (by decide +kernel) w
theorem k_t1 (w : World) : Calls Tryd.prog 16 #[.float .f64 4607182418800017408] w fun e w' => e = .returned (.string ⟨#[51, 102, 102, 48, 48, 48, 48, 48, 48, 48, 48, 48, 48, 48, 48, 48]⟩) ∧ Below w.heap.size w w' := Text_t _ [51, 102, 102, 48, 48, 48, 48, 48, 48, 48, 48, 48, 48, 48, 48, 48] (by decide) (by decide +kernel) w

set_option maxHeartbeats 1000000 in
theorem awake_any (w : World) : Calls Tryd.prog 8 #[] w fun e w' => e = .returned (.bool true) ∧ Below w.heap.size w w' := by
  have ho : (FloatKind.f64.format.order 4621256167635550208 4621256167635550208 == some .eq) = true := by decide +kernel
  go_enter Tryd.func8, Tryd.ntmps8
  go_wp2_with (first | (go_at_call 21; (with_reducible refine (NaN_any _).mono ?_); rintro e w1 ⟨rfl, rfl⟩) | (go_at_call 20; (with_reducible refine (Inf_any _).mono ?_); rintro e w1 ⟨rfl, rfl⟩) | (go_at_call 19; (with_reducible refine (Minus_any _).mono ?_); rintro e w1 ⟨rfl, rfl⟩) | (go_at_call 22; (with_reducible refine (k_c1 _).mono ?_); rintro e w1 ⟨rfl, hb1⟩; have hz1 := hb1.size) | (go_at_call 22; (with_reducible refine (k_c2 _).mono ?_); rintro e w1 ⟨rfl, hb1⟩; have hz1 := hb1.size) | (go_at_call 25; (with_reducible refine (k_s1 _).mono ?_); rintro e w1 ⟨rfl, hb1⟩; have hz1 := hb1.size) | (go_at_call 14; (with_reducible refine (k_b1 _).mono ?_); rintro e w1 ⟨rfl, rfl⟩) | (go_at_call 16; (with_reducible refine (k_t1 _).mono ?_); rintro e w1 ⟨rfl, hb1⟩; have hz1 := hb1.size))
  go_ret
  exact ⟨rfl, by (repeat (with_reducible (first | exact Below.refl _ _ | assumption | refine bl_alloc ?_ _ | refine bl_drew ?_ | refine bl_drewN ?_ _ | (refine bl_set ?_ ?_ _; (focus (first | (simp; done) | (simp; omega) | omega))) | refine bl_then ?_ (by assumption))))⟩
theorem u64_toNat {a : Int} (h : (Lit.int .u64 a).wf = true) : a.toNat < 18446744073709551616 := by
  have h1 : IntKind.u64.max = 18446744073709551615 := by decide
  simp [Lit.wf] at h
  omega

end Go.Proofs.YtgjampkdnpdblaaDoor
