/- PaceForms: the walk. -/
import Derived.Test.YtgjampkdnpdblaaDoorPaceD7
namespace Go.Proofs.YtgjampkdnpdblaaDoor
open Go.RowKit Go.Proofs.YtgjampkdnpdblaaDoor.Pc BigFrame
set_option linter.unusedSimpArgs false
set_option linter.unusedVariables false

theorem u64_pos {a : Int} (h : (Lit.int .u64 a).wf = true) : 0 ≤ a := by
  have h1 : IntKind.u64.min = 0 := by decide
  simp [Lit.wf] at h
  omega

set_option maxRecDepth 100000 in
set_option maxHeartbeats 2000000 in
theorem PaceForms_walk (a : Int) (s : ByteArray) (w : World) (h0 : 0 ≤ a) (ha : a.toNat < 18446744073709551616) :
    Calls Tryd.prog 3 #[.int .u64 a, .string s] w fun e w' => e = .returned (.bool true) ∧ Below w.heap.size w w' := by
  obtain ⟨n, rfl⟩ : ∃ n : Nat, a = n := ⟨a.toNat, by omega⟩
  have hn : n < 18446744073709551616 := by omega
  by_cases hl : 40 < s.size
  · have hl' : (40 : Int) < (s.size : Int) := by omega
    go_enter Tryd.func3, Tryd.ntmps3
    go_wp2_with (go_at_call 8; (with_reducible refine (awake_any _).mono ?_); rintro e w1 ⟨rfl, hb1⟩; have hz1 := hb1.size)
    go_ret
    exact ⟨rfl, hb1⟩
  · have hl' : ¬ (40 : Int) < (s.size : Int) := by omega
    have HOf := Lib.hid (show ∀ W : World, Calls Tryd.prog 9 #[.int .u64 (n : Int)] W fun e w' => e = .returned (.float .f64 n) ∧ W = w' from fun W => of_any (n : Int) W)
    have HT1 := Lib.hid (fun W => Text_any n W hn)
    have HT2 := Lib.hid (fun W => rText_any n W hn)
    have HR1 := Lib.hid (fun W => Read_any s W)
    have HR2 := Lib.hid (fun W => rRead_any s W)
    have e1 : ((canon n : Int) == (canon n : Int)) = true := by simp
    have HB1 := Lib.hid (fun W => Bits_any n W)
    have HB2 := Lib.hid (fun W => rBits_any n W)
    have HO1 := Lib.hid (fun W => Of_any n W)
    have HO2 := Lib.hid (fun W => rOf_any n W)
    generalize (⟨(hexT (canon n)).toArray⟩ : ByteArray) = t at *
    generalize readV s.data.toList = rv at *
    generalize readE s.data.toList = re at *
    generalize ofV n = ov at *
    generalize ofE n = oe at *
    generalize canon n = cn at *
    have e2 : (oe == oe) = true := by simp
    have e3 : (re == re) = true := by simp
    go_enter Tryd.func3, Tryd.ntmps3
    go_wp2_with (first | (go_at_call 9; (with_reducible refine (HOf.out _).mono ?_); rintro e w1 ⟨rfl, rfl⟩) | (go_at_call 10; (with_reducible refine (HO1.out _).mono ?_); rintro e w1 ⟨rfl, rfl⟩) | (go_at_call 11; (with_reducible refine (HO2.out _).mono ?_); rintro e w1 ⟨rfl, rfl⟩))
    refine (HR1.out _).mono ?_
    rintro e w1 ⟨rfl, b1⟩
    go_wp2_with fail
    refine (HR2.out _).mono ?_
    rintro e w2 ⟨rfl, b2⟩
    have b12 := bl_then b1 b2
    go_wp2_with (first | (go_at_call 14; (with_reducible refine (HB1.out _).mono ?_); rintro e w1 ⟨rfl, rfl⟩) | (go_at_call 15; (with_reducible refine (HB2.out _).mono ?_); rintro e w1 ⟨rfl, rfl⟩))
    refine (HT1.out _).mono ?_
    rintro e w3 ⟨rfl, b3⟩
    have b13 := bl_then b12 b3
    go_wp2_with (first | (go_at_call 17; (with_reducible refine (HT2.out _).mono ?_); rintro e w1 ⟨rfl, rfl⟩) | (go_at_call 18; (with_reducible refine (same_t _ _ _ rfl).mono ?_); rintro e w1 ⟨rfl, rfl⟩) | (go_at_call 8; (with_reducible refine (awake_any _).mono ?_); rintro e w1 ⟨rfl, hb1⟩; have hz1 := hb1.size))
    go_ret
    exact ⟨rfl, bl_then b13 hb1⟩
end Go.Proofs.YtgjampkdnpdblaaDoor
