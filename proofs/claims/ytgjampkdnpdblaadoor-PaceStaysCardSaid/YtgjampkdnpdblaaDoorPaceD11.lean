/- PaceLine: the walk. -/
import Derived.Test.YtgjampkdnpdblaaDoorPaceD10
import Derived.Test.YtgjampkdnpdblaaDoorKeyF
namespace Go.Proofs.YtgjampkdnpdblaaDoor
open Go.RowKit Go.Proofs.YtgjampkdnpdblaaDoor.Pc BigFrame
set_option linter.unusedSimpArgs false
set_option linter.unusedVariables false

theorem key_canon {a b : Nat} (ha : a < 18446744073709551616) (hb : b < 18446744073709551616) : keyF a = keyF b ↔ canon a = canon b := by
  have hm : ∀ x : Nat, minusB x = decide (9223372036854775808 ≤ x) := fun _ => rfl
  unfold keyF canon
  cases na : nanB a <;> cases nb : nanB b <;> simp only [Bool.false_eq_true, if_false, if_true, hm, decide_eq_true_eq]
  · constructor
    · intro h; split at h <;> split at h <;> omega
    · intro h; subst h; rfl
  · constructor
    · intro h; split at h <;> omega
    · intro h; rw [h, nan_the] at na; cases na
  · constructor
    · intro h; split at h <;> omega
    · intro h; rw [← h, nan_the] at nb; cases nb
theorem cmp_lt' {a b : Nat} (ha : a < 18446744073709551616) (hb : b < 18446744073709551616) (h : keyF a < keyF b) : cmpF a b = -1 := by rw [cmpF_key ha hb, if_pos h]
theorem cmp_gt' {a b : Nat} (ha : a < 18446744073709551616) (hb : b < 18446744073709551616) (h : keyF b < keyF a) : cmpF a b = 1 := by rw [cmpF_key ha hb, if_neg (by omega), if_pos h]
theorem cmp_eq' {a b : Nat} (ha : a < 18446744073709551616) (hb : b < 18446744073709551616) (h : keyF a = keyF b) : cmpF a b = 0 := by rw [cmpF_key ha hb, if_neg (by omega), if_neg (by omega)]
theorem bits_eq {a b : Nat} (ha : a < 18446744073709551616) (hb : b < 18446744073709551616) (h : keyF a = keyF b) : ((canon a : Int) == (canon b : Int)) = true ∧ (canon a == canon b) = true := by
  have := (key_canon ha hb).1 h
  rw [this]; simp
theorem bits_ne {a b : Nat} (ha : a < 18446744073709551616) (hb : b < 18446744073709551616) (h : keyF a ≠ keyF b) : ((canon a : Int) == (canon b : Int)) = false ∧ (canon a == canon b) = false := by
  have : canon a ≠ canon b := fun e => h ((key_canon ha hb).2 e)
  constructor
  · simp; omega
  · simp [this]

set_option maxRecDepth 100000 in
set_option maxHeartbeats 2000000 in
theorem line_mmm (a b c : Nat) (w : World) (ha : a < 18446744073709551616) (hb : b < 18446744073709551616) (hc : c < 18446744073709551616) (h1 : keyF a < keyF b) (h2 : keyF b < keyF c) (h3 : keyF a < keyF c) :
    Calls Tryd.prog 5 #[.int .u64 a, .int .u64 b, .int .u64 c] w fun e w' => e = .returned (.bool true) ∧ Below w.heap.size w w' := by
  have HO := Lib.hid (show ∀ (n : Nat) (W : World), Calls Tryd.prog 9 #[.int .u64 (n : Int)] W fun e w' => e = .returned (.float .f64 n) ∧ W = w' from fun n W => of_any (n : Int) W)
  have HBA := Lib.hid (fun W => Bits_any a W)
  have HBB := Lib.hid (fun W => Bits_any b W)
  have HAA := Lib.hid (fun W => Compare_t a a 0 ha ha (cmp_eq' ha ha rfl) W)
  have HAB := Lib.hid (fun W => Compare_t a b (-1) ha hb (cmp_lt' ha hb h1) W)
  have HBAc := Lib.hid (fun W => Compare_t b a 1 hb ha (cmp_gt' hb ha h1) W)
  have HBC := Lib.hid (fun W => Compare_t b c (-1) hb hc (cmp_lt' hb hc h2) W)
  have HAC := Lib.hid (fun W => Compare_t a c (-1) ha hc (cmp_lt' ha hc h3) W)
  have hq := bits_ne ha hb (by omega)
  obtain ⟨q1, q2⟩ := hq
  generalize canon a = ca at *
  generalize canon b = cb at *
  clear h1 h2 h3 ha hb hc
  go_enter Tryd.func5, Tryd.ntmps5
  go_wp2_with (go_at_call 9; (with_reducible refine (HO.out _ _).mono ?_); rintro e w1 ⟨rfl, rfl⟩)
  refine (HAB.out _).mono ?_
  rintro e w1 ⟨rfl, b1⟩
  go_wp2_with fail
  refine (HBC.out _).mono ?_
  rintro e w2 ⟨rfl, b2⟩
  go_wp2_with fail
  refine (HAC.out _).mono ?_
  rintro e w3 ⟨rfl, b3⟩
  go_wp2_with fail
  refine (HBAc.out _).mono ?_
  rintro e w4 ⟨rfl, b4⟩
  have b04 := bl_then (bl_then (bl_then b1 b2) b3) b4
  clear b1 b2 b3 b4
  go_wp2_with (first | (go_at_call 14; (with_reducible refine (HBA.out _).mono ?_); rintro e w1 ⟨rfl, rfl⟩) | (go_at_call 14; (with_reducible refine (HBB.out _).mono ?_); rintro e w1 ⟨rfl, rfl⟩))
  refine (HAA.out _).mono ?_
  rintro e w5 ⟨rfl, b5⟩
  have b05 := bl_then b04 b5
  clear b04 b5
  go_wp2_with (go_at_call 4; (with_reducible refine (PaceKnown_any _).mono ?_); rintro e w1 ⟨rfl, hb1⟩; have hz1 := hb1.size)
  go_ret
  exact ⟨rfl, bl_then b05 hb1⟩
set_option maxRecDepth 100000 in
set_option maxHeartbeats 2000000 in
theorem line_mzm (a b c : Nat) (w : World) (ha : a < 18446744073709551616) (hb : b < 18446744073709551616) (hc : c < 18446744073709551616) (h1 : keyF a < keyF b) (h2 : keyF b = keyF c) (h3 : keyF a < keyF c) :
    Calls Tryd.prog 5 #[.int .u64 a, .int .u64 b, .int .u64 c] w fun e w' => e = .returned (.bool true) ∧ Below w.heap.size w w' := by
  have HO := Lib.hid (show ∀ (n : Nat) (W : World), Calls Tryd.prog 9 #[.int .u64 (n : Int)] W fun e w' => e = .returned (.float .f64 n) ∧ W = w' from fun n W => of_any (n : Int) W)
  have HBA := Lib.hid (fun W => Bits_any a W)
  have HBB := Lib.hid (fun W => Bits_any b W)
  have HAA := Lib.hid (fun W => Compare_t a a 0 ha ha (cmp_eq' ha ha rfl) W)
  have HAB := Lib.hid (fun W => Compare_t a b (-1) ha hb (cmp_lt' ha hb h1) W)
  have HBAc := Lib.hid (fun W => Compare_t b a 1 hb ha (cmp_gt' hb ha h1) W)
  have HBC := Lib.hid (fun W => Compare_t b c 0 hb hc (cmp_eq' hb hc h2) W)
  have HAC := Lib.hid (fun W => Compare_t a c (-1) ha hc (cmp_lt' ha hc h3) W)
  have hq := bits_ne ha hb (by omega)
  obtain ⟨q1, q2⟩ := hq
  generalize canon a = ca at *
  generalize canon b = cb at *
  clear h1 h2 h3 ha hb hc
  go_enter Tryd.func5, Tryd.ntmps5
  go_wp2_with (go_at_call 9; (with_reducible refine (HO.out _ _).mono ?_); rintro e w1 ⟨rfl, rfl⟩)
  refine (HAB.out _).mono ?_
  rintro e w1 ⟨rfl, b1⟩
  go_wp2_with fail
  refine (HBC.out _).mono ?_
  rintro e w2 ⟨rfl, b2⟩
  go_wp2_with fail
  refine (HAC.out _).mono ?_
  rintro e w3 ⟨rfl, b3⟩
  go_wp2_with fail
  refine (HBAc.out _).mono ?_
  rintro e w4 ⟨rfl, b4⟩
  have b04 := bl_then (bl_then (bl_then b1 b2) b3) b4
  clear b1 b2 b3 b4
  go_wp2_with (first | (go_at_call 14; (with_reducible refine (HBA.out _).mono ?_); rintro e w1 ⟨rfl, rfl⟩) | (go_at_call 14; (with_reducible refine (HBB.out _).mono ?_); rintro e w1 ⟨rfl, rfl⟩))
  refine (HAA.out _).mono ?_
  rintro e w5 ⟨rfl, b5⟩
  have b05 := bl_then b04 b5
  clear b04 b5
  go_wp2_with (go_at_call 4; (with_reducible refine (PaceKnown_any _).mono ?_); rintro e w1 ⟨rfl, hb1⟩; have hz1 := hb1.size)
  go_ret
  exact ⟨rfl, bl_then b05 hb1⟩
set_option maxRecDepth 100000 in
set_option maxHeartbeats 2000000 in
theorem line_mpm (a b c : Nat) (w : World) (ha : a < 18446744073709551616) (hb : b < 18446744073709551616) (hc : c < 18446744073709551616) (h1 : keyF a < keyF b) (h2 : keyF c < keyF b) (h3 : keyF a < keyF c) :
    Calls Tryd.prog 5 #[.int .u64 a, .int .u64 b, .int .u64 c] w fun e w' => e = .returned (.bool true) ∧ Below w.heap.size w w' := by
  have HO := Lib.hid (show ∀ (n : Nat) (W : World), Calls Tryd.prog 9 #[.int .u64 (n : Int)] W fun e w' => e = .returned (.float .f64 n) ∧ W = w' from fun n W => of_any (n : Int) W)
  have HBA := Lib.hid (fun W => Bits_any a W)
  have HBB := Lib.hid (fun W => Bits_any b W)
  have HAA := Lib.hid (fun W => Compare_t a a 0 ha ha (cmp_eq' ha ha rfl) W)
  have HAB := Lib.hid (fun W => Compare_t a b (-1) ha hb (cmp_lt' ha hb h1) W)
  have HBAc := Lib.hid (fun W => Compare_t b a 1 hb ha (cmp_gt' hb ha h1) W)
  have HBC := Lib.hid (fun W => Compare_t b c 1 hb hc (cmp_gt' hb hc h2) W)
  have HAC := Lib.hid (fun W => Compare_t a c (-1) ha hc (cmp_lt' ha hc h3) W)
  have hq := bits_ne ha hb (by omega)
  obtain ⟨q1, q2⟩ := hq
  generalize canon a = ca at *
  generalize canon b = cb at *
  clear h1 h2 h3 ha hb hc
  go_enter Tryd.func5, Tryd.ntmps5
  go_wp2_with (go_at_call 9; (with_reducible refine (HO.out _ _).mono ?_); rintro e w1 ⟨rfl, rfl⟩)
  refine (HAB.out _).mono ?_
  rintro e w1 ⟨rfl, b1⟩
  go_wp2_with fail
  refine (HBC.out _).mono ?_
  rintro e w2 ⟨rfl, b2⟩
  go_wp2_with fail
  refine (HAC.out _).mono ?_
  rintro e w3 ⟨rfl, b3⟩
  go_wp2_with fail
  refine (HBAc.out _).mono ?_
  rintro e w4 ⟨rfl, b4⟩
  have b04 := bl_then (bl_then (bl_then b1 b2) b3) b4
  clear b1 b2 b3 b4
  go_wp2_with (first | (go_at_call 14; (with_reducible refine (HBA.out _).mono ?_); rintro e w1 ⟨rfl, rfl⟩) | (go_at_call 14; (with_reducible refine (HBB.out _).mono ?_); rintro e w1 ⟨rfl, rfl⟩))
  refine (HAA.out _).mono ?_
  rintro e w5 ⟨rfl, b5⟩
  have b05 := bl_then b04 b5
  clear b04 b5
  go_wp2_with (go_at_call 4; (with_reducible refine (PaceKnown_any _).mono ?_); rintro e w1 ⟨rfl, hb1⟩; have hz1 := hb1.size)
  go_ret
  exact ⟨rfl, bl_then b05 hb1⟩
set_option maxRecDepth 100000 in
set_option maxHeartbeats 2000000 in
theorem line_mpz (a b c : Nat) (w : World) (ha : a < 18446744073709551616) (hb : b < 18446744073709551616) (hc : c < 18446744073709551616) (h1 : keyF a < keyF b) (h2 : keyF c < keyF b) (h3 : keyF a = keyF c) :
    Calls Tryd.prog 5 #[.int .u64 a, .int .u64 b, .int .u64 c] w fun e w' => e = .returned (.bool true) ∧ Below w.heap.size w w' := by
  have HO := Lib.hid (show ∀ (n : Nat) (W : World), Calls Tryd.prog 9 #[.int .u64 (n : Int)] W fun e w' => e = .returned (.float .f64 n) ∧ W = w' from fun n W => of_any (n : Int) W)
  have HBA := Lib.hid (fun W => Bits_any a W)
  have HBB := Lib.hid (fun W => Bits_any b W)
  have HAA := Lib.hid (fun W => Compare_t a a 0 ha ha (cmp_eq' ha ha rfl) W)
  have HAB := Lib.hid (fun W => Compare_t a b (-1) ha hb (cmp_lt' ha hb h1) W)
  have HBAc := Lib.hid (fun W => Compare_t b a 1 hb ha (cmp_gt' hb ha h1) W)
  have HBC := Lib.hid (fun W => Compare_t b c 1 hb hc (cmp_gt' hb hc h2) W)
  have HAC := Lib.hid (fun W => Compare_t a c 0 ha hc (cmp_eq' ha hc h3) W)
  have hq := bits_ne ha hb (by omega)
  obtain ⟨q1, q2⟩ := hq
  generalize canon a = ca at *
  generalize canon b = cb at *
  clear h1 h2 h3 ha hb hc
  go_enter Tryd.func5, Tryd.ntmps5
  go_wp2_with (go_at_call 9; (with_reducible refine (HO.out _ _).mono ?_); rintro e w1 ⟨rfl, rfl⟩)
  refine (HAB.out _).mono ?_
  rintro e w1 ⟨rfl, b1⟩
  go_wp2_with fail
  refine (HBC.out _).mono ?_
  rintro e w2 ⟨rfl, b2⟩
  go_wp2_with fail
  refine (HAC.out _).mono ?_
  rintro e w3 ⟨rfl, b3⟩
  go_wp2_with fail
  refine (HBAc.out _).mono ?_
  rintro e w4 ⟨rfl, b4⟩
  have b04 := bl_then (bl_then (bl_then b1 b2) b3) b4
  clear b1 b2 b3 b4
  go_wp2_with (first | (go_at_call 14; (with_reducible refine (HBA.out _).mono ?_); rintro e w1 ⟨rfl, rfl⟩) | (go_at_call 14; (with_reducible refine (HBB.out _).mono ?_); rintro e w1 ⟨rfl, rfl⟩))
  refine (HAA.out _).mono ?_
  rintro e w5 ⟨rfl, b5⟩
  have b05 := bl_then b04 b5
  clear b04 b5
  go_wp2_with (go_at_call 4; (with_reducible refine (PaceKnown_any _).mono ?_); rintro e w1 ⟨rfl, hb1⟩; have hz1 := hb1.size)
  go_ret
  exact ⟨rfl, bl_then b05 hb1⟩
set_option maxRecDepth 100000 in
set_option maxHeartbeats 2000000 in
theorem line_mpp (a b c : Nat) (w : World) (ha : a < 18446744073709551616) (hb : b < 18446744073709551616) (hc : c < 18446744073709551616) (h1 : keyF a < keyF b) (h2 : keyF c < keyF b) (h3 : keyF c < keyF a) :
    Calls Tryd.prog 5 #[.int .u64 a, .int .u64 b, .int .u64 c] w fun e w' => e = .returned (.bool true) ∧ Below w.heap.size w w' := by
  have HO := Lib.hid (show ∀ (n : Nat) (W : World), Calls Tryd.prog 9 #[.int .u64 (n : Int)] W fun e w' => e = .returned (.float .f64 n) ∧ W = w' from fun n W => of_any (n : Int) W)
  have HBA := Lib.hid (fun W => Bits_any a W)
  have HBB := Lib.hid (fun W => Bits_any b W)
  have HAA := Lib.hid (fun W => Compare_t a a 0 ha ha (cmp_eq' ha ha rfl) W)
  have HAB := Lib.hid (fun W => Compare_t a b (-1) ha hb (cmp_lt' ha hb h1) W)
  have HBAc := Lib.hid (fun W => Compare_t b a 1 hb ha (cmp_gt' hb ha h1) W)
  have HBC := Lib.hid (fun W => Compare_t b c 1 hb hc (cmp_gt' hb hc h2) W)
  have HAC := Lib.hid (fun W => Compare_t a c 1 ha hc (cmp_gt' ha hc h3) W)
  have hq := bits_ne ha hb (by omega)
  obtain ⟨q1, q2⟩ := hq
  generalize canon a = ca at *
  generalize canon b = cb at *
  clear h1 h2 h3 ha hb hc
  go_enter Tryd.func5, Tryd.ntmps5
  go_wp2_with (go_at_call 9; (with_reducible refine (HO.out _ _).mono ?_); rintro e w1 ⟨rfl, rfl⟩)
  refine (HAB.out _).mono ?_
  rintro e w1 ⟨rfl, b1⟩
  go_wp2_with fail
  refine (HBC.out _).mono ?_
  rintro e w2 ⟨rfl, b2⟩
  go_wp2_with fail
  refine (HAC.out _).mono ?_
  rintro e w3 ⟨rfl, b3⟩
  go_wp2_with fail
  refine (HBAc.out _).mono ?_
  rintro e w4 ⟨rfl, b4⟩
  have b04 := bl_then (bl_then (bl_then b1 b2) b3) b4
  clear b1 b2 b3 b4
  go_wp2_with (first | (go_at_call 14; (with_reducible refine (HBA.out _).mono ?_); rintro e w1 ⟨rfl, rfl⟩) | (go_at_call 14; (with_reducible refine (HBB.out _).mono ?_); rintro e w1 ⟨rfl, rfl⟩))
  refine (HAA.out _).mono ?_
  rintro e w5 ⟨rfl, b5⟩
  have b05 := bl_then b04 b5
  clear b04 b5
  go_wp2_with (go_at_call 4; (with_reducible refine (PaceKnown_any _).mono ?_); rintro e w1 ⟨rfl, hb1⟩; have hz1 := hb1.size)
  go_ret
  exact ⟨rfl, bl_then b05 hb1⟩
set_option maxRecDepth 100000 in
set_option maxHeartbeats 2000000 in
theorem line_zmm (a b c : Nat) (w : World) (ha : a < 18446744073709551616) (hb : b < 18446744073709551616) (hc : c < 18446744073709551616) (h1 : keyF a = keyF b) (h2 : keyF b < keyF c) (h3 : keyF a < keyF c) :
    Calls Tryd.prog 5 #[.int .u64 a, .int .u64 b, .int .u64 c] w fun e w' => e = .returned (.bool true) ∧ Below w.heap.size w w' := by
  have HO := Lib.hid (show ∀ (n : Nat) (W : World), Calls Tryd.prog 9 #[.int .u64 (n : Int)] W fun e w' => e = .returned (.float .f64 n) ∧ W = w' from fun n W => of_any (n : Int) W)
  have HBA := Lib.hid (fun W => Bits_any a W)
  have HBB := Lib.hid (fun W => Bits_any b W)
  have HAA := Lib.hid (fun W => Compare_t a a 0 ha ha (cmp_eq' ha ha rfl) W)
  have HAB := Lib.hid (fun W => Compare_t a b 0 ha hb (cmp_eq' ha hb h1) W)
  have HBAc := Lib.hid (fun W => Compare_t b a 0 hb ha (cmp_eq' hb ha h1.symm) W)
  have HBC := Lib.hid (fun W => Compare_t b c (-1) hb hc (cmp_lt' hb hc h2) W)
  have HAC := Lib.hid (fun W => Compare_t a c (-1) ha hc (cmp_lt' ha hc h3) W)
  have hq := bits_eq ha hb h1
  obtain ⟨q1, q2⟩ := hq
  generalize canon a = ca at *
  generalize canon b = cb at *
  clear h1 h2 h3 ha hb hc
  go_enter Tryd.func5, Tryd.ntmps5
  go_wp2_with (go_at_call 9; (with_reducible refine (HO.out _ _).mono ?_); rintro e w1 ⟨rfl, rfl⟩)
  refine (HAB.out _).mono ?_
  rintro e w1 ⟨rfl, b1⟩
  go_wp2_with fail
  refine (HBC.out _).mono ?_
  rintro e w2 ⟨rfl, b2⟩
  go_wp2_with fail
  refine (HAC.out _).mono ?_
  rintro e w3 ⟨rfl, b3⟩
  go_wp2_with fail
  refine (HBAc.out _).mono ?_
  rintro e w4 ⟨rfl, b4⟩
  have b04 := bl_then (bl_then (bl_then b1 b2) b3) b4
  clear b1 b2 b3 b4
  go_wp2_with (first | (go_at_call 14; (with_reducible refine (HBA.out _).mono ?_); rintro e w1 ⟨rfl, rfl⟩) | (go_at_call 14; (with_reducible refine (HBB.out _).mono ?_); rintro e w1 ⟨rfl, rfl⟩))
  refine (HAA.out _).mono ?_
  rintro e w5 ⟨rfl, b5⟩
  have b05 := bl_then b04 b5
  clear b04 b5
  go_wp2_with (go_at_call 4; (with_reducible refine (PaceKnown_any _).mono ?_); rintro e w1 ⟨rfl, hb1⟩; have hz1 := hb1.size)
  go_ret
  exact ⟨rfl, bl_then b05 hb1⟩
set_option maxRecDepth 100000 in
set_option maxHeartbeats 2000000 in
theorem line_zzz (a b c : Nat) (w : World) (ha : a < 18446744073709551616) (hb : b < 18446744073709551616) (hc : c < 18446744073709551616) (h1 : keyF a = keyF b) (h2 : keyF b = keyF c) (h3 : keyF a = keyF c) :
    Calls Tryd.prog 5 #[.int .u64 a, .int .u64 b, .int .u64 c] w fun e w' => e = .returned (.bool true) ∧ Below w.heap.size w w' := by
  have HO := Lib.hid (show ∀ (n : Nat) (W : World), Calls Tryd.prog 9 #[.int .u64 (n : Int)] W fun e w' => e = .returned (.float .f64 n) ∧ W = w' from fun n W => of_any (n : Int) W)
  have HBA := Lib.hid (fun W => Bits_any a W)
  have HBB := Lib.hid (fun W => Bits_any b W)
  have HAA := Lib.hid (fun W => Compare_t a a 0 ha ha (cmp_eq' ha ha rfl) W)
  have HAB := Lib.hid (fun W => Compare_t a b 0 ha hb (cmp_eq' ha hb h1) W)
  have HBAc := Lib.hid (fun W => Compare_t b a 0 hb ha (cmp_eq' hb ha h1.symm) W)
  have HBC := Lib.hid (fun W => Compare_t b c 0 hb hc (cmp_eq' hb hc h2) W)
  have HAC := Lib.hid (fun W => Compare_t a c 0 ha hc (cmp_eq' ha hc h3) W)
  have hq := bits_eq ha hb h1
  obtain ⟨q1, q2⟩ := hq
  generalize canon a = ca at *
  generalize canon b = cb at *
  clear h1 h2 h3 ha hb hc
  go_enter Tryd.func5, Tryd.ntmps5
  go_wp2_with (go_at_call 9; (with_reducible refine (HO.out _ _).mono ?_); rintro e w1 ⟨rfl, rfl⟩)
  refine (HAB.out _).mono ?_
  rintro e w1 ⟨rfl, b1⟩
  go_wp2_with fail
  refine (HBC.out _).mono ?_
  rintro e w2 ⟨rfl, b2⟩
  go_wp2_with fail
  refine (HAC.out _).mono ?_
  rintro e w3 ⟨rfl, b3⟩
  go_wp2_with fail
  refine (HBAc.out _).mono ?_
  rintro e w4 ⟨rfl, b4⟩
  have b04 := bl_then (bl_then (bl_then b1 b2) b3) b4
  clear b1 b2 b3 b4
  go_wp2_with (first | (go_at_call 14; (with_reducible refine (HBA.out _).mono ?_); rintro e w1 ⟨rfl, rfl⟩) | (go_at_call 14; (with_reducible refine (HBB.out _).mono ?_); rintro e w1 ⟨rfl, rfl⟩))
  refine (HAA.out _).mono ?_
  rintro e w5 ⟨rfl, b5⟩
  have b05 := bl_then b04 b5
  clear b04 b5
  go_wp2_with (go_at_call 4; (with_reducible refine (PaceKnown_any _).mono ?_); rintro e w1 ⟨rfl, hb1⟩; have hz1 := hb1.size)
  go_ret
  exact ⟨rfl, bl_then b05 hb1⟩
set_option maxRecDepth 100000 in
set_option maxHeartbeats 2000000 in
theorem line_zpp (a b c : Nat) (w : World) (ha : a < 18446744073709551616) (hb : b < 18446744073709551616) (hc : c < 18446744073709551616) (h1 : keyF a = keyF b) (h2 : keyF c < keyF b) (h3 : keyF c < keyF a) :
    Calls Tryd.prog 5 #[.int .u64 a, .int .u64 b, .int .u64 c] w fun e w' => e = .returned (.bool true) ∧ Below w.heap.size w w' := by
  have HO := Lib.hid (show ∀ (n : Nat) (W : World), Calls Tryd.prog 9 #[.int .u64 (n : Int)] W fun e w' => e = .returned (.float .f64 n) ∧ W = w' from fun n W => of_any (n : Int) W)
  have HBA := Lib.hid (fun W => Bits_any a W)
  have HBB := Lib.hid (fun W => Bits_any b W)
  have HAA := Lib.hid (fun W => Compare_t a a 0 ha ha (cmp_eq' ha ha rfl) W)
  have HAB := Lib.hid (fun W => Compare_t a b 0 ha hb (cmp_eq' ha hb h1) W)
  have HBAc := Lib.hid (fun W => Compare_t b a 0 hb ha (cmp_eq' hb ha h1.symm) W)
  have HBC := Lib.hid (fun W => Compare_t b c 1 hb hc (cmp_gt' hb hc h2) W)
  have HAC := Lib.hid (fun W => Compare_t a c 1 ha hc (cmp_gt' ha hc h3) W)
  have hq := bits_eq ha hb h1
  obtain ⟨q1, q2⟩ := hq
  generalize canon a = ca at *
  generalize canon b = cb at *
  clear h1 h2 h3 ha hb hc
  go_enter Tryd.func5, Tryd.ntmps5
  go_wp2_with (go_at_call 9; (with_reducible refine (HO.out _ _).mono ?_); rintro e w1 ⟨rfl, rfl⟩)
  refine (HAB.out _).mono ?_
  rintro e w1 ⟨rfl, b1⟩
  go_wp2_with fail
  refine (HBC.out _).mono ?_
  rintro e w2 ⟨rfl, b2⟩
  go_wp2_with fail
  refine (HAC.out _).mono ?_
  rintro e w3 ⟨rfl, b3⟩
  go_wp2_with fail
  refine (HBAc.out _).mono ?_
  rintro e w4 ⟨rfl, b4⟩
  have b04 := bl_then (bl_then (bl_then b1 b2) b3) b4
  clear b1 b2 b3 b4
  go_wp2_with (first | (go_at_call 14; (with_reducible refine (HBA.out _).mono ?_); rintro e w1 ⟨rfl, rfl⟩) | (go_at_call 14; (with_reducible refine (HBB.out _).mono ?_); rintro e w1 ⟨rfl, rfl⟩))
  refine (HAA.out _).mono ?_
  rintro e w5 ⟨rfl, b5⟩
  have b05 := bl_then b04 b5
  clear b04 b5
  go_wp2_with (go_at_call 4; (with_reducible refine (PaceKnown_any _).mono ?_); rintro e w1 ⟨rfl, hb1⟩; have hz1 := hb1.size)
  go_ret
  exact ⟨rfl, bl_then b05 hb1⟩
set_option maxRecDepth 100000 in
set_option maxHeartbeats 2000000 in
theorem line_pmm (a b c : Nat) (w : World) (ha : a < 18446744073709551616) (hb : b < 18446744073709551616) (hc : c < 18446744073709551616) (h1 : keyF b < keyF a) (h2 : keyF b < keyF c) (h3 : keyF a < keyF c) :
    Calls Tryd.prog 5 #[.int .u64 a, .int .u64 b, .int .u64 c] w fun e w' => e = .returned (.bool true) ∧ Below w.heap.size w w' := by
  have HO := Lib.hid (show ∀ (n : Nat) (W : World), Calls Tryd.prog 9 #[.int .u64 (n : Int)] W fun e w' => e = .returned (.float .f64 n) ∧ W = w' from fun n W => of_any (n : Int) W)
  have HBA := Lib.hid (fun W => Bits_any a W)
  have HBB := Lib.hid (fun W => Bits_any b W)
  have HAA := Lib.hid (fun W => Compare_t a a 0 ha ha (cmp_eq' ha ha rfl) W)
  have HAB := Lib.hid (fun W => Compare_t a b 1 ha hb (cmp_gt' ha hb h1) W)
  have HBAc := Lib.hid (fun W => Compare_t b a (-1) hb ha (cmp_lt' hb ha h1) W)
  have HBC := Lib.hid (fun W => Compare_t b c (-1) hb hc (cmp_lt' hb hc h2) W)
  have HAC := Lib.hid (fun W => Compare_t a c (-1) ha hc (cmp_lt' ha hc h3) W)
  have hq := bits_ne ha hb (by omega)
  obtain ⟨q1, q2⟩ := hq
  generalize canon a = ca at *
  generalize canon b = cb at *
  clear h1 h2 h3 ha hb hc
  go_enter Tryd.func5, Tryd.ntmps5
  go_wp2_with (go_at_call 9; (with_reducible refine (HO.out _ _).mono ?_); rintro e w1 ⟨rfl, rfl⟩)
  refine (HAB.out _).mono ?_
  rintro e w1 ⟨rfl, b1⟩
  go_wp2_with fail
  refine (HBC.out _).mono ?_
  rintro e w2 ⟨rfl, b2⟩
  go_wp2_with fail
  refine (HAC.out _).mono ?_
  rintro e w3 ⟨rfl, b3⟩
  go_wp2_with fail
  refine (HBAc.out _).mono ?_
  rintro e w4 ⟨rfl, b4⟩
  have b04 := bl_then (bl_then (bl_then b1 b2) b3) b4
  clear b1 b2 b3 b4
  go_wp2_with (first | (go_at_call 14; (with_reducible refine (HBA.out _).mono ?_); rintro e w1 ⟨rfl, rfl⟩) | (go_at_call 14; (with_reducible refine (HBB.out _).mono ?_); rintro e w1 ⟨rfl, rfl⟩))
  refine (HAA.out _).mono ?_
  rintro e w5 ⟨rfl, b5⟩
  have b05 := bl_then b04 b5
  clear b04 b5
  go_wp2_with (go_at_call 4; (with_reducible refine (PaceKnown_any _).mono ?_); rintro e w1 ⟨rfl, hb1⟩; have hz1 := hb1.size)
  go_ret
  exact ⟨rfl, bl_then b05 hb1⟩
set_option maxRecDepth 100000 in
set_option maxHeartbeats 2000000 in
theorem line_pmz (a b c : Nat) (w : World) (ha : a < 18446744073709551616) (hb : b < 18446744073709551616) (hc : c < 18446744073709551616) (h1 : keyF b < keyF a) (h2 : keyF b < keyF c) (h3 : keyF a = keyF c) :
    Calls Tryd.prog 5 #[.int .u64 a, .int .u64 b, .int .u64 c] w fun e w' => e = .returned (.bool true) ∧ Below w.heap.size w w' := by
  have HO := Lib.hid (show ∀ (n : Nat) (W : World), Calls Tryd.prog 9 #[.int .u64 (n : Int)] W fun e w' => e = .returned (.float .f64 n) ∧ W = w' from fun n W => of_any (n : Int) W)
  have HBA := Lib.hid (fun W => Bits_any a W)
  have HBB := Lib.hid (fun W => Bits_any b W)
  have HAA := Lib.hid (fun W => Compare_t a a 0 ha ha (cmp_eq' ha ha rfl) W)
  have HAB := Lib.hid (fun W => Compare_t a b 1 ha hb (cmp_gt' ha hb h1) W)
  have HBAc := Lib.hid (fun W => Compare_t b a (-1) hb ha (cmp_lt' hb ha h1) W)
  have HBC := Lib.hid (fun W => Compare_t b c (-1) hb hc (cmp_lt' hb hc h2) W)
  have HAC := Lib.hid (fun W => Compare_t a c 0 ha hc (cmp_eq' ha hc h3) W)
  have hq := bits_ne ha hb (by omega)
  obtain ⟨q1, q2⟩ := hq
  generalize canon a = ca at *
  generalize canon b = cb at *
  clear h1 h2 h3 ha hb hc
  go_enter Tryd.func5, Tryd.ntmps5
  go_wp2_with (go_at_call 9; (with_reducible refine (HO.out _ _).mono ?_); rintro e w1 ⟨rfl, rfl⟩)
  refine (HAB.out _).mono ?_
  rintro e w1 ⟨rfl, b1⟩
  go_wp2_with fail
  refine (HBC.out _).mono ?_
  rintro e w2 ⟨rfl, b2⟩
  go_wp2_with fail
  refine (HAC.out _).mono ?_
  rintro e w3 ⟨rfl, b3⟩
  go_wp2_with fail
  refine (HBAc.out _).mono ?_
  rintro e w4 ⟨rfl, b4⟩
  have b04 := bl_then (bl_then (bl_then b1 b2) b3) b4
  clear b1 b2 b3 b4
  go_wp2_with (first | (go_at_call 14; (with_reducible refine (HBA.out _).mono ?_); rintro e w1 ⟨rfl, rfl⟩) | (go_at_call 14; (with_reducible refine (HBB.out _).mono ?_); rintro e w1 ⟨rfl, rfl⟩))
  refine (HAA.out _).mono ?_
  rintro e w5 ⟨rfl, b5⟩
  have b05 := bl_then b04 b5
  clear b04 b5
  go_wp2_with (go_at_call 4; (with_reducible refine (PaceKnown_any _).mono ?_); rintro e w1 ⟨rfl, hb1⟩; have hz1 := hb1.size)
  go_ret
  exact ⟨rfl, bl_then b05 hb1⟩
set_option maxRecDepth 100000 in
set_option maxHeartbeats 2000000 in
theorem line_pmp (a b c : Nat) (w : World) (ha : a < 18446744073709551616) (hb : b < 18446744073709551616) (hc : c < 18446744073709551616) (h1 : keyF b < keyF a) (h2 : keyF b < keyF c) (h3 : keyF c < keyF a) :
    Calls Tryd.prog 5 #[.int .u64 a, .int .u64 b, .int .u64 c] w fun e w' => e = .returned (.bool true) ∧ Below w.heap.size w w' := by
  have HO := Lib.hid (show ∀ (n : Nat) (W : World), Calls Tryd.prog 9 #[.int .u64 (n : Int)] W fun e w' => e = .returned (.float .f64 n) ∧ W = w' from fun n W => of_any (n : Int) W)
  have HBA := Lib.hid (fun W => Bits_any a W)
  have HBB := Lib.hid (fun W => Bits_any b W)
  have HAA := Lib.hid (fun W => Compare_t a a 0 ha ha (cmp_eq' ha ha rfl) W)
  have HAB := Lib.hid (fun W => Compare_t a b 1 ha hb (cmp_gt' ha hb h1) W)
  have HBAc := Lib.hid (fun W => Compare_t b a (-1) hb ha (cmp_lt' hb ha h1) W)
  have HBC := Lib.hid (fun W => Compare_t b c (-1) hb hc (cmp_lt' hb hc h2) W)
  have HAC := Lib.hid (fun W => Compare_t a c 1 ha hc (cmp_gt' ha hc h3) W)
  have hq := bits_ne ha hb (by omega)
  obtain ⟨q1, q2⟩ := hq
  generalize canon a = ca at *
  generalize canon b = cb at *
  clear h1 h2 h3 ha hb hc
  go_enter Tryd.func5, Tryd.ntmps5
  go_wp2_with (go_at_call 9; (with_reducible refine (HO.out _ _).mono ?_); rintro e w1 ⟨rfl, rfl⟩)
  refine (HAB.out _).mono ?_
  rintro e w1 ⟨rfl, b1⟩
  go_wp2_with fail
  refine (HBC.out _).mono ?_
  rintro e w2 ⟨rfl, b2⟩
  go_wp2_with fail
  refine (HAC.out _).mono ?_
  rintro e w3 ⟨rfl, b3⟩
  go_wp2_with fail
  refine (HBAc.out _).mono ?_
  rintro e w4 ⟨rfl, b4⟩
  have b04 := bl_then (bl_then (bl_then b1 b2) b3) b4
  clear b1 b2 b3 b4
  go_wp2_with (first | (go_at_call 14; (with_reducible refine (HBA.out _).mono ?_); rintro e w1 ⟨rfl, rfl⟩) | (go_at_call 14; (with_reducible refine (HBB.out _).mono ?_); rintro e w1 ⟨rfl, rfl⟩))
  refine (HAA.out _).mono ?_
  rintro e w5 ⟨rfl, b5⟩
  have b05 := bl_then b04 b5
  clear b04 b5
  go_wp2_with (go_at_call 4; (with_reducible refine (PaceKnown_any _).mono ?_); rintro e w1 ⟨rfl, hb1⟩; have hz1 := hb1.size)
  go_ret
  exact ⟨rfl, bl_then b05 hb1⟩
set_option maxRecDepth 100000 in
set_option maxHeartbeats 2000000 in
theorem line_pzp (a b c : Nat) (w : World) (ha : a < 18446744073709551616) (hb : b < 18446744073709551616) (hc : c < 18446744073709551616) (h1 : keyF b < keyF a) (h2 : keyF b = keyF c) (h3 : keyF c < keyF a) :
    Calls Tryd.prog 5 #[.int .u64 a, .int .u64 b, .int .u64 c] w fun e w' => e = .returned (.bool true) ∧ Below w.heap.size w w' := by
  have HO := Lib.hid (show ∀ (n : Nat) (W : World), Calls Tryd.prog 9 #[.int .u64 (n : Int)] W fun e w' => e = .returned (.float .f64 n) ∧ W = w' from fun n W => of_any (n : Int) W)
  have HBA := Lib.hid (fun W => Bits_any a W)
  have HBB := Lib.hid (fun W => Bits_any b W)
  have HAA := Lib.hid (fun W => Compare_t a a 0 ha ha (cmp_eq' ha ha rfl) W)
  have HAB := Lib.hid (fun W => Compare_t a b 1 ha hb (cmp_gt' ha hb h1) W)
  have HBAc := Lib.hid (fun W => Compare_t b a (-1) hb ha (cmp_lt' hb ha h1) W)
  have HBC := Lib.hid (fun W => Compare_t b c 0 hb hc (cmp_eq' hb hc h2) W)
  have HAC := Lib.hid (fun W => Compare_t a c 1 ha hc (cmp_gt' ha hc h3) W)
  have hq := bits_ne ha hb (by omega)
  obtain ⟨q1, q2⟩ := hq
  generalize canon a = ca at *
  generalize canon b = cb at *
  clear h1 h2 h3 ha hb hc
  go_enter Tryd.func5, Tryd.ntmps5
  go_wp2_with (go_at_call 9; (with_reducible refine (HO.out _ _).mono ?_); rintro e w1 ⟨rfl, rfl⟩)
  refine (HAB.out _).mono ?_
  rintro e w1 ⟨rfl, b1⟩
  go_wp2_with fail
  refine (HBC.out _).mono ?_
  rintro e w2 ⟨rfl, b2⟩
  go_wp2_with fail
  refine (HAC.out _).mono ?_
  rintro e w3 ⟨rfl, b3⟩
  go_wp2_with fail
  refine (HBAc.out _).mono ?_
  rintro e w4 ⟨rfl, b4⟩
  have b04 := bl_then (bl_then (bl_then b1 b2) b3) b4
  clear b1 b2 b3 b4
  go_wp2_with (first | (go_at_call 14; (with_reducible refine (HBA.out _).mono ?_); rintro e w1 ⟨rfl, rfl⟩) | (go_at_call 14; (with_reducible refine (HBB.out _).mono ?_); rintro e w1 ⟨rfl, rfl⟩))
  refine (HAA.out _).mono ?_
  rintro e w5 ⟨rfl, b5⟩
  have b05 := bl_then b04 b5
  clear b04 b5
  go_wp2_with (go_at_call 4; (with_reducible refine (PaceKnown_any _).mono ?_); rintro e w1 ⟨rfl, hb1⟩; have hz1 := hb1.size)
  go_ret
  exact ⟨rfl, bl_then b05 hb1⟩
set_option maxRecDepth 100000 in
set_option maxHeartbeats 2000000 in
theorem line_ppp (a b c : Nat) (w : World) (ha : a < 18446744073709551616) (hb : b < 18446744073709551616) (hc : c < 18446744073709551616) (h1 : keyF b < keyF a) (h2 : keyF c < keyF b) (h3 : keyF c < keyF a) :
    Calls Tryd.prog 5 #[.int .u64 a, .int .u64 b, .int .u64 c] w fun e w' => e = .returned (.bool true) ∧ Below w.heap.size w w' := by
  have HO := Lib.hid (show ∀ (n : Nat) (W : World), Calls Tryd.prog 9 #[.int .u64 (n : Int)] W fun e w' => e = .returned (.float .f64 n) ∧ W = w' from fun n W => of_any (n : Int) W)
  have HBA := Lib.hid (fun W => Bits_any a W)
  have HBB := Lib.hid (fun W => Bits_any b W)
  have HAA := Lib.hid (fun W => Compare_t a a 0 ha ha (cmp_eq' ha ha rfl) W)
  have HAB := Lib.hid (fun W => Compare_t a b 1 ha hb (cmp_gt' ha hb h1) W)
  have HBAc := Lib.hid (fun W => Compare_t b a (-1) hb ha (cmp_lt' hb ha h1) W)
  have HBC := Lib.hid (fun W => Compare_t b c 1 hb hc (cmp_gt' hb hc h2) W)
  have HAC := Lib.hid (fun W => Compare_t a c 1 ha hc (cmp_gt' ha hc h3) W)
  have hq := bits_ne ha hb (by omega)
  obtain ⟨q1, q2⟩ := hq
  generalize canon a = ca at *
  generalize canon b = cb at *
  clear h1 h2 h3 ha hb hc
  go_enter Tryd.func5, Tryd.ntmps5
  go_wp2_with (go_at_call 9; (with_reducible refine (HO.out _ _).mono ?_); rintro e w1 ⟨rfl, rfl⟩)
  refine (HAB.out _).mono ?_
  rintro e w1 ⟨rfl, b1⟩
  go_wp2_with fail
  refine (HBC.out _).mono ?_
  rintro e w2 ⟨rfl, b2⟩
  go_wp2_with fail
  refine (HAC.out _).mono ?_
  rintro e w3 ⟨rfl, b3⟩
  go_wp2_with fail
  refine (HBAc.out _).mono ?_
  rintro e w4 ⟨rfl, b4⟩
  have b04 := bl_then (bl_then (bl_then b1 b2) b3) b4
  clear b1 b2 b3 b4
  go_wp2_with (first | (go_at_call 14; (with_reducible refine (HBA.out _).mono ?_); rintro e w1 ⟨rfl, rfl⟩) | (go_at_call 14; (with_reducible refine (HBB.out _).mono ?_); rintro e w1 ⟨rfl, rfl⟩))
  refine (HAA.out _).mono ?_
  rintro e w5 ⟨rfl, b5⟩
  have b05 := bl_then b04 b5
  clear b04 b5
  go_wp2_with (go_at_call 4; (with_reducible refine (PaceKnown_any _).mono ?_); rintro e w1 ⟨rfl, hb1⟩; have hz1 := hb1.size)
  go_ret
  exact ⟨rfl, bl_then b05 hb1⟩
theorem PaceLine_walk (a' b' c' : Int) (w : World) (a0 : 0 ≤ a') (b0 : 0 ≤ b') (c0 : 0 ≤ c') (ha : a'.toNat < 18446744073709551616) (hb : b'.toNat < 18446744073709551616) (hc : c'.toNat < 18446744073709551616) :
    Calls Tryd.prog 5 #[.int .u64 a', .int .u64 b', .int .u64 c'] w fun e w' => e = .returned (.bool true) ∧ Below w.heap.size w w' := by
  obtain ⟨a, rfl⟩ : ∃ n : Nat, a' = n := ⟨a'.toNat, by omega⟩
  obtain ⟨b, rfl⟩ : ∃ n : Nat, b' = n := ⟨b'.toNat, by omega⟩
  obtain ⟨c, rfl⟩ : ∃ n : Nat, c' = n := ⟨c'.toNat, by omega⟩
  rw [Int.toNat_natCast] at ha hb hc
  rcases Int.lt_trichotomy (keyF a) (keyF b) with h1 | h1 | h1 <;> rcases Int.lt_trichotomy (keyF b) (keyF c) with h2 | h2 | h2 <;> rcases Int.lt_trichotomy (keyF a) (keyF c) with h3 | h3 | h3 <;> first
    | exact line_mmm a b c w ha hb hc h1 h2 h3
    | exact line_mzm a b c w ha hb hc h1 h2 h3
    | exact line_mpm a b c w ha hb hc h1 h2 h3
    | exact line_mpz a b c w ha hb hc h1 h2 h3
    | exact line_mpp a b c w ha hb hc h1 h2 h3
    | exact line_zmm a b c w ha hb hc h1 h2 h3
    | exact line_zzz a b c w ha hb hc h1 h2 h3
    | exact line_zpp a b c w ha hb hc h1 h2 h3
    | exact line_pmm a b c w ha hb hc h1 h2 h3
    | exact line_pmz a b c w ha hb hc h1 h2 h3
    | exact line_pmp a b c w ha hb hc h1 h2 h3
    | exact line_pzp a b c w ha hb hc h1 h2 h3
    | exact line_ppp a b c w ha hb hc h1 h2 h3
    | (exfalso; omega)
end Go.Proofs.YtgjampkdnpdblaaDoor
