/- The walk of ScoreMends. -/
import Derived.Test.YtockdfhejbbbeaaSco10
import Derived.Test.YtockdfhejbbbeaaInfP
import Derived.Laws.BitsAllLaws
namespace Go.Proofs.Ytockdfhejbbbeaa
open Go.RowKit Go.Proofs.Ytockdfhejbbbeaa.Pc Go.Proofs.Ytockdfhejbbbeaa.Sy BigFrame
attribute [local go_sem] run_store_float
set_option linter.unusedSimpArgs false
set_option linter.unusedVariables false

theorem u64_toNat {a : Int} (h : (Lit.int .u64 a).wf = true) : a.toNat < 18446744073709551616 := by
  have h1 : IntKind.u64.max = 18446744073709551615 := by decide
  simp [Lit.wf] at h
  omega
/-- Is a pace infinite? As the machine asks it. -/
def infB (p : Nat) : Bool := FloatKind.f64.format.order (p % 9223372036854775808) 9218868437227405311 == some .gt
theorem infB_fin {p : Nat} (h : nanB p = false) (k : infB p = false) : finF p := by
  have := rung_le h
  rcases Nat.lt_or_eq_of_le this with h1 | h1
  · exact h1
  · unfold infB at k
    rw [h1, show (FloatKind.f64.format.order 9218868437227405312 9218868437227405311 == some .gt) = true by decide +kernel] at k
    cases k
theorem and_not {p : Nat} (h : p < 18446744073709551616) : bits BinOp.andNot IntKind.u64 (p : Int) 9223372036854775808 = ((p % 9223372036854775808 : Nat) : Int) := by
  have := u64_andNot_nat p 9223372036854775808 h (by decide)
  rw [show (18446744073709551615 - 9223372036854775808 : Nat) = 2 ^ 63 - 1 from by decide, Nat.and_two_pow_sub_one_eq_mod] at this
  exact this
set_option maxHeartbeats 400000 in
theorem Abs_any (p : Nat) (w : World) (h : p < 18446744073709551616) : Calls Try.prog 42 #[.float .f64 p] w fun e w' => e = .returned (.float .f64 (p % 9223372036854775808)) ∧ w = w' := by
  have hr := run_bits p
  have hf := run_from ((p % 9223372036854775808 : Nat) : Int)
  rw [Int.toNat_natCast] at hf
  have ha := and_not h
  generalize p % 9223372036854775808 = q at *
  go_enter Try.func42, Try.ntmps42
  go_wp2
  go_ret
  exact ⟨rfl, rfl⟩
set_option maxHeartbeats 400000 in
theorem IsInf0_any (p : Nat) (w : World) (h : p < 18446744073709551616) : Calls Try.prog 32 #[.float .f64 p, .int .i64 0] w fun e w' => e = .returned (.bool (infB p)) ∧ w = w' := by
  have hb := Lib.hid (show (FloatKind.f64.format.order (p % 9223372036854775808) 9218868437227405311 == some .gt) = infB p from rfl)
  go_enter Try.func32, Try.ntmps32
  go_wp2_with (go_at_call 42; (with_reducible refine (Abs_any _ _ h).mono ?_); rintro e w1 ⟨rfl, rfl⟩)
  go_ret
  exact ⟨ret_bool hb.out, rfl⟩
set_option maxHeartbeats 400000 in
theorem IsInf1_yes (w : World) : Calls Try.prog 32 #[.float .f64 9218868437227405312, .int .i64 1] w fun e w' => e = .returned (.bool true) ∧ w = w' := by
  have hb : (FloatKind.f64.format.order 9218868437227405312 9218868437227405311 == some .gt) = true := by decide +kernel
  go_enter Try.func32, Try.ntmps32
  go_wp2
  go_ret
  exact ⟨rfl, rfl⟩

set_option maxRecDepth 100000 in
set_option maxHeartbeats 4000000 in
theorem ScoreMends_walk (n b x y : Int) (w : World) (hb : b.toNat < 18446744073709551616) :
    Calls Try.prog 8 #[.int .i64 n, .int .u64 b, .int .i64 x, .int .i64 y] w fun e w' => e = .returned (.bool true) ∧ Below w.heap.size w w' := by
  obtain ⟨s1, s2⟩ := pick_bd (x := n) (n := 2001) (by decide)
  obtain ⟨x1, x2⟩ := pick_bd (x := x) (n := 1099511627777) (by decide)
  obtain ⟨y1, y2⟩ := pick_bd (x := y) (n := 1099511627777) (by decide)
  have P1 := Lib.hid (fun W => Pick_any n 2001 W (by decide))
  have P2 := Lib.hid (fun W => Pick_any x 1099511627777 W (by decide))
  have P3 := Lib.hid (fun W => Pick_any y 1099511627777 W (by decide))
  generalize pickN n 2001 = s0 at *
  generalize pickN x 1099511627777 = tx at *
  generalize pickN y 1099511627777 = ty at *
  go_enter Try.func8, Try.ntmps8
  go_wp2_with fail
  refine (ScoreKnown_any _).mono ?_
  rintro e w1 ⟨rfl, b1⟩
  go_wp2_with fail
  refine (P1.out _).mono ?_
  rintro e w1' ⟨rfl, rfl⟩
  go_wp2_with fail
  refine (of_any _ b _).mono ?_
  rintro e w2 ⟨rfl, b2⟩
  have hs : okS (s0 - 1000) = true := decide_eq_true (by omega)
  have HS := Lib.hid hs
  clear hs
  generalize b.toNat = p at *
  generalize s0 - 1000 = s at *
  have M2 := kb_new (w := w2) rfl (.cells #[.int .i64 s, .float .f64 p] 25)
  have k2 := kb_cell M2
  have HI := Lib.hid (IsInf0_any p)
  cases hn : nanB p
  · have hn' : (FloatKind.f64.format.order p p != some .eq) = false := hn
    cases hi : infB p
    · have hfin := Lib.hid (infB_fin hn hi)
      have HI' := Lib.hid (fun W => hi ▸ HI.out W hb)
      clear hn hi HI
      go_wp2_with fail
      refine (HI'.out _).mono ?_
      rintro e w3 ⟨rfl, rfl⟩
      go_wp2_with fail
      refine (P2.out _).mono ?_
      rintro e w3 ⟨rfl, rfl⟩
      go_wp2_with fail
      refine (P3.out _).mono ?_
      rintro e w3 ⟨rfl, rfl⟩
      go_wp2_with fail
      refine (Bad_t s p (upS s (-5)) infF _ (by unfold badS; rw [HS.out, if_pos rfl]) (by unfold badP; rw [HS.out, if_pos rfl]; unfold infF; rw [smooth_inf hfin.out]; decide +kernel) (by unfold badE; rw [HS.out, if_pos rfl]) (by decide +kernel)).mono ?_
      rintro e w3 ⟨rfl, b3⟩
      have hu := Lib.hid (upS_ok s (-5))
      generalize upS s (-5) = u at *
      unfold infF
      clear k2 M2
      go_wp2_with fail
      refine (Good_any u 9218868437227405312 tx _).mono ?_
      rintro e w4 ⟨r, rfl, c4, l4, b4⟩
      have hg : okG u tx = true := by unfold okG; rw [hu.out]; exact decide_eq_true (by omega)
      have hgs : goodS u tx = upS u 1 := by unfold goodS; rw [hg, if_pos rfl]
      have hge : goodE u tx = 0 := by unfold goodE; rw [hg, if_pos rfl]
      have hgp : goodP u 9218868437227405312 tx = theNaN := by unfold goodP; rw [hg, if_pos rfl]; exact smooth_mid (tick_fin x1 (by omega))
      rw [hgp] at c4
      rw [hgs, hge]
      have hr : nanB r = true := by rw [nan_of_canon c4]; exact nan_the
      have hr' : (FloatKind.f64.format.order r r != some .eq) = true := hr
      have HR := Lib.hid hr
      have hu2 := Lib.hid (upS_ok u 1)
      generalize upS u 1 = u2 at *
      clear c4 hg hgs hge hgp hr
      have X4 := kb_below b4 (kb_new (w := w3) rfl (.cells #[.int .i64 u, .float .f64 9218868437227405312] 25))
      have hg2 : okG u2 ty = true := by unfold okG; rw [hu2.out]; exact decide_eq_true (by omega)
      have hfy := fin_nan (tick_fin y1 (show ty ≤ 1099511627776 by omega))
      have HG := Lib.hid (fun W => Good_e u2 r ty (upS u2 1) (floatOfInt .f64 ty) 0 W (by unfold goodS; rw [hg2, if_pos rfl]) (by unfold goodP smoothF; rw [hg2, if_pos rfl, HR.out, if_pos rfl]; exact canon_num hfy) (by unfold goodE; rw [hg2, if_pos rfl]) hfy)
      have hfy' : (FloatKind.f64.format.order (floatOfInt .f64 ty) (floatOfInt .f64 ty) == some .eq) = true := by
        have : nanB (floatOfInt .f64 ty) = (FloatKind.f64.format.order (floatOfInt .f64 ty) (floatOfInt .f64 ty) != some .eq) := rfl
        rw [this] at hfy
        simpa [bne] using hfy
      clear hg2 hfy
      go_wp2_with fail
      refine (HG.out _).mono ?_
      rintro e w5 ⟨rfl, b5⟩
      generalize upS u2 1 = u3 at *
      have X5 := kb_below b5 (kb_alloc X4 (.cells #[.int .i64 u2, .float .f64 r] 25))
      have Y5 := kb_below b5 (kb_new (w := w4) rfl (.cells #[.int .i64 u2, .float .f64 r] 25))
      have kx := kb_cell (kb_alloc X5 (.cells #[.int .i64 u3, .float .f64 (floatOfInt .f64 ty)] 25))
      have ky := kb_cell (kb_alloc Y5 (.cells #[.int .i64 u3, .float .f64 (floatOfInt .f64 ty)] 25))
      have kz := kb_cell (kb_new (w := w5) rfl (.cells #[.int .i64 u3, .float .f64 (floatOfInt .f64 ty)] 25))
      go_wp2_with (go_at_call 32; (with_reducible refine (IsInf1_yes _).mono ?_); rintro e w1 ⟨rfl, rfl⟩)
      go_ret
      exact ⟨rfl, by (repeat (with_reducible (first | exact Below.refl _ _ | assumption | refine bl_alloc ?_ _ | refine bl_drew ?_ | refine bl_drewN ?_ _ | (refine bl_set ?_ ?_ _; (focus (first | (simp; done) | (simp; omega) | omega))) | refine bl_then ?_ (by assumption))))⟩
    · have HI' := Lib.hid (fun W => hi ▸ HI.out W hb)
      clear hn hi HI
      go_wp2_with fail
      refine (HI'.out _).mono ?_
      rintro e w3 ⟨rfl, rfl⟩
      go_wp2_with fail
      go_ret
      exact ⟨rfl, by (repeat (with_reducible (first | exact Below.refl _ _ | assumption | refine bl_alloc ?_ _ | refine bl_drew ?_ | refine bl_drewN ?_ _ | (refine bl_set ?_ ?_ _; (focus (first | (simp; done) | (simp; omega) | omega))) | refine bl_then ?_ (by assumption))))⟩
  · have hn' : (FloatKind.f64.format.order p p != some .eq) = true := hn
    clear hn
    go_wp2_with fail
    go_ret
    exact ⟨rfl, by (repeat (with_reducible (first | exact Below.refl _ _ | assumption | refine bl_alloc ?_ _ | refine bl_drew ?_ | refine bl_drewN ?_ _ | (refine bl_set ?_ ?_ _; (focus (first | (simp; done) | (simp; omega) | omega))) | refine bl_then ?_ (by assumption))))⟩
end Go.Proofs.Ytockdfhejbbbeaa
