/- The walks of package score and of its reference, third part: which merit is better; two merits side by side. -/
import Derived.Test.YtlnhofpjeinadaaSco2
import Derived.WalkKit
namespace Go.Proofs.Ytlnhofpjeinadaa
open Go.RowKit Go.Proofs.Ytlnhofpjeinadaa.Pc BigFrame
attribute [local go_sem] run_store_float

/-- Which of two numbers is less. -/
def cmpI (a b : Int) : Int := if a < b then -1 else if b < a then 1 else 0
/-- Which of two merits is better: below 0: the first one. -/
def cmpM (s : Int) (p : Nat) (t : Int) (q : Nat) : Int := if cmpI t s = 0 then cmpF p q else cmpI t s

set_option maxHeartbeats 400000 in
theorem isNaNI_any (a : Int) (w : World) : Calls Try.prog 73 #[.int .i64 a] w fun e w' => e = .returned (.bool false) ∧ w = w' := by
  go_enter Try.func73, Try.ntmps73
  go_wp2
  go_ret
  exact ⟨rfl, rfl⟩
set_option maxHeartbeats 400000 in
theorem CompareI_any (a b : Int) (w : World) : Calls Try.prog 67 #[.int .i64 a, .int .i64 b] w fun e w' => e = .returned (.int .i64 (cmpI a b)) ∧ w = w' := by
  by_cases h1 : a < b
  · rw [show cmpI a b = -1 by unfold cmpI; rw [if_pos h1]]
    go_enter Try.func67, Try.ntmps67
    go_wp2_with (go_at_call 73; (with_reducible refine (isNaNI_any _ _).mono ?_); rintro e w1 ⟨rfl, rfl⟩)
    go_ret
    exact ⟨rfl, rfl⟩
  · by_cases h2 : b < a
    · rw [show cmpI a b = 1 by unfold cmpI; rw [if_neg h1, if_pos h2]]
      go_enter Try.func67, Try.ntmps67
      go_wp2_with (go_at_call 73; (with_reducible refine (isNaNI_any _ _).mono ?_); rintro e w1 ⟨rfl, rfl⟩)
      go_ret
      exact ⟨rfl, rfl⟩
    · rw [show cmpI a b = 0 by unfold cmpI; rw [if_neg h1, if_neg h2]]
      go_enter Try.func67, Try.ntmps67
      go_wp2_with (go_at_call 73; (with_reducible refine (isNaNI_any _ _).mono ?_); rintro e w1 ⟨rfl, rfl⟩)
      go_ret
      exact ⟨rfl, rfl⟩
set_option maxHeartbeats 400000 in
theorem cmp1_any (s : Int) (p : Nat) (t : Int) (q : Nat) (w : World) : Calls Try.prog 66 #[.agg #[.int .i64 s, .float .f64 p], .agg #[.int .i64 t, .float .f64 q]] w fun e w' => e = .returned (.int .i64 (cmpI t s)) ∧ Below w.heap.size w w' := by
  go_enter Try.func66, Try.ntmps66
  go_wp2_with (go_at_call 67; (with_reducible refine (CompareI_any _ _ _).mono ?_); rintro e w1 ⟨rfl, rfl⟩)
  go_ret
  exact ⟨rfl, by (repeat (with_reducible (first | exact Below.refl _ _ | assumption | refine bl_alloc ?_ _ | refine bl_drew ?_ | refine bl_drewN ?_ _ | (refine bl_set ?_ ?_ _; (focus (first | (simp; done) | (simp; omega) | omega))) | refine bl_then ?_ (by assumption))))⟩
set_option maxHeartbeats 400000 in
theorem cmp2_any (s : Int) (p : Nat) (t : Int) (q : Nat) (w : World) (hp : p < 18446744073709551616) (hq : q < 18446744073709551616) : Calls Try.prog 68 #[.agg #[.int .i64 s, .float .f64 p], .agg #[.int .i64 t, .float .f64 q]] w fun e w' => e = .returned (.int .i64 (cmpF p q)) ∧ Below w.heap.size w w' := by
  go_enter Try.func68, Try.ntmps68
  go_wp2_with (go_at_call 69; (with_reducible refine (Compare_any _ _ _ hp hq).mono ?_); rintro e w1 ⟨rfl, hb1⟩; have hz1 := hb1.size)
  go_ret
  exact ⟨rfl, by (repeat (with_reducible (first | exact Below.refl _ _ | assumption | refine bl_alloc ?_ _ | refine bl_drew ?_ | refine bl_drewN ?_ _ | (refine bl_set ?_ ?_ _; (focus (first | (simp; done) | (simp; omega) | omega))) | refine bl_then ?_ (by assumption))))⟩

set_option maxHeartbeats 1000000 in
theorem firsts_any (s : Int) (p : Nat) (t : Int) (q : Nat) (b : Nat) (ty : TypeId) (fr : Nat × Nat) (w : World) (hp : p < 18446744073709551616) (hq : q < 18446744073709551616)
    (hb : w.heap[b]? = some (.cells #[.func (.func 66) #[] #[], .func (.func 68) #[] #[]] ty fr)) :
    Calls Try.prog 65 #[.agg #[.int .i64 s, .float .f64 p], .agg #[.int .i64 t, .float .f64 q], .slice (some ⟨b, 0, none⟩) 2 2] w fun e w' => e = .returned (.int .i64 (cmpM s p t q)) ∧ Below w.heap.size w w' := by
  have HB := Lib.hid hb
  clear hb
  go_enter Try.func65, Try.ntmps65
  go_wp2
  go_loopw [8, 9, 12, 13, 14, 15, 16, 17, 18, 19, 20, 21, 22, 23] (fun _ _ s12 _ _ _ _ _ _ _ _ _ _ _ wr => ∃ k : Nat, k ≤ 2 ∧ s12 = .int .i64 k ∧ Below w.heap.size w wr ∧ wr.heap[w.heap.size]? = some (.cells #[.int .i64 s, .float .f64 p] 33) ∧ wr.heap[w.heap.size + 1]? = some (.cells #[.int .i64 t, .float .f64 q] 33) ∧ Hid ((1 ≤ k → cmpI t s = 0) ∧ (2 ≤ k → cmpF p q = 0))) (fun _ _ s12 _ _ _ _ _ _ _ _ _ _ _ _ => 2 - (intOf s12).toNat)
  case atStart =>
    exact ⟨0, by omega, rfl, by (repeat (with_reducible (first | exact Below.refl _ _ | assumption | refine bl_alloc ?_ _ | refine bl_drew ?_ | refine bl_drewN ?_ _ | (refine bl_set ?_ ?_ _; (focus (first | (simp; done) | (simp; omega) | omega))) | refine bl_then ?_ (by assumption)))), kb_alloc (kb_new rfl _) _, kb_new (by simp) _, ⟨fun h => by omega, fun h => by omega⟩⟩
  case round =>
    obtain ⟨k, hk, rfl, hnx, D0, D1, HH⟩ := hrel
    have k0 := kb_cell D0
    have k1 := kb_cell D1
    have DB := kb_cell (kb_below hnx HB.out)
    rcases (show k = 0 ∨ k = 1 ∨ k = 2 by omega) with rfl | rfl | rfl
    · by_cases hc : cmpI t s = 0
      · have hC := Lib.hid (fun W => hc ▸ cmp1_any s p t q W)
        have hc' := Lib.hid hc
        clear hc
        go_wp2_with (go_at_call 66; (with_reducible refine (hC.out _).mono ?_); rintro e w1 ⟨rfl, hb1⟩; have hz1 := hb1.size)
        go_roundw
        case rel => exact ⟨1, by omega, by go_num, by (repeat (with_reducible (first | exact Below.refl _ _ | assumption | refine bl_alloc ?_ _ | refine bl_drew ?_ | refine bl_drewN ?_ _ | (refine bl_set ?_ ?_ _; (focus (first | (simp; done) | (simp; omega) | omega))) | refine bl_then ?_ (by assumption)))), kb_below hb1 D0, kb_below hb1 D1, ⟨fun _ => hc'.out, fun h => by omega⟩⟩
        case measure => simp [intOf]
      · have e : cmpM s p t q = cmpI t s := by unfold cmpM; rw [if_neg hc]
        have hC := Lib.hid (cmp1_any s p t q)
        generalize cmpI t s = n at hC hc HH e
        have E := Lib.hid e
        clear e
        have hn : (n == 0) = false := by simpa using hc
        have hn' : (n != 0) = true := by simpa using hc
        clear hc HH
        go_wp2_with (go_at_call 66; (with_reducible refine (hC.out _).mono ?_); rintro e w1 ⟨rfl, hb1⟩; have hz1 := hb1.size)
        go_ret
        exact ⟨ret_int E.out.symm, by (repeat (with_reducible (first | exact Below.refl _ _ | assumption | refine bl_alloc ?_ _ | refine bl_drew ?_ | refine bl_drewN ?_ _ | (refine bl_set ?_ ?_ _; (focus (first | (simp; done) | (simp; omega) | omega))) | refine bl_then ?_ (by assumption))))⟩
    · have e : cmpM s p t q = cmpF p q := by unfold cmpM; rw [if_pos (HH.out.1 (by omega))]
      by_cases hc : cmpF p q = 0
      · have hC := Lib.hid (fun W => hc ▸ cmp2_any s p t q W hp hq)
        have hc' := Lib.hid hc
        have e' := Lib.hid (HH.out.1 (by omega))
        clear hc e HH
        go_wp2_with (go_at_call 68; (with_reducible refine (hC.out _).mono ?_); rintro e w1 ⟨rfl, hb1⟩; have hz1 := hb1.size)
        go_roundw
        case rel => exact ⟨2, by omega, by go_num, by (repeat (with_reducible (first | exact Below.refl _ _ | assumption | refine bl_alloc ?_ _ | refine bl_drew ?_ | refine bl_drewN ?_ _ | (refine bl_set ?_ ?_ _; (focus (first | (simp; done) | (simp; omega) | omega))) | refine bl_then ?_ (by assumption)))), kb_below hb1 D0, kb_below hb1 D1, ⟨fun _ => e'.out, fun _ => hc'.out⟩⟩
        case measure => simp [intOf]
      · have hC := Lib.hid (fun W => cmp2_any s p t q W hp hq)
        generalize cmpF p q = n at hC hc HH e
        have E := Lib.hid e
        clear e
        have hn : (n == 0) = false := by simpa using hc
        have hn' : (n != 0) = true := by simpa using hc
        clear hc HH
        go_wp2_with (go_at_call 68; (with_reducible refine (hC.out _).mono ?_); rintro e w1 ⟨rfl, hb1⟩; have hz1 := hb1.size)
        go_ret
        exact ⟨ret_int E.out.symm, by (repeat (with_reducible (first | exact Below.refl _ _ | assumption | refine bl_alloc ?_ _ | refine bl_drew ?_ | refine bl_drewN ?_ _ | (refine bl_set ?_ ?_ _; (focus (first | (simp; done) | (simp; omega) | omega))) | refine bl_then ?_ (by assumption))))⟩
    · have e : cmpM s p t q = 0 := by unfold cmpM; rw [if_pos (HH.out.1 (by omega))]; exact HH.out.2 (by omega)
      have E := Lib.hid e
      clear e HH
      go_wp2
      go_ret
      exact ⟨ret_int E.out.symm, by (repeat (with_reducible (first | exact Below.refl _ _ | assumption | refine bl_alloc ?_ _ | refine bl_drew ?_ | refine bl_drewN ?_ _ | (refine bl_set ?_ ?_ _; (focus (first | (simp; done) | (simp; omega) | omega))) | refine bl_then ?_ (by assumption))))⟩

set_option maxHeartbeats 1000000 in
theorem compare_any (s : Int) (p : Nat) (t : Int) (q : Nat) (w : World) (hp : p < 18446744073709551616) (hq : q < 18446744073709551616) :
    Calls Try.prog 59 #[.agg #[.int .i64 s, .float .f64 p], .agg #[.int .i64 t, .float .f64 q]] w fun e w' => e = .returned (.int .i64 (cmpM s p t q)) ∧ Below w.heap.size w w' := by
  go_enter Try.func59, Try.ntmps59
  go_wp2_with fail
  refine (firsts_any s p t q (w.heap.size + 2) _ _ _ hp hq (kb_new (by simp) _)).mono ?_
  rintro e w1 ⟨rfl, hb1⟩
  go_wp2
  go_ret
  exact ⟨rfl, by (repeat (with_reducible (first | exact Below.refl _ _ | assumption | refine bl_alloc ?_ _ | refine bl_drew ?_ | refine bl_drewN ?_ _ | (refine bl_set ?_ ?_ _; (focus (first | (simp; done) | (simp; omega) | omega))) | refine bl_then ?_ (by assumption))))⟩

/-- Is a merit better? -/
def betM (s : Int) (p : Nat) (t : Int) (q : Nat) : Bool := decide (cmpM s p t q < 0)
set_option maxHeartbeats 1000000 in
theorem Better_any (s : Int) (p : Nat) (t : Int) (q : Nat) (w : World) (hp : p < 18446744073709551616) (hq : q < 18446744073709551616) :
    Calls Try.prog 39 #[.agg #[.int .i64 s, .float .f64 p], .agg #[.int .i64 t, .float .f64 q]] w fun e w' => e = .returned (.bool (betM s p t q)) ∧ Below w.heap.size w w' := by
  have hb := Lib.hid (show decide (cmpM s p t q < 0) = betM s p t q from rfl)
  go_enter Try.func39, Try.ntmps39
  go_wp2_with (go_at_call 59; (with_reducible refine (compare_any s p t q _ hp hq).mono ?_); rintro e w1 ⟨rfl, hb1⟩; have hz1 := hb1.size)
  go_ret
  exact ⟨ret_bool hb.out, by (repeat (with_reducible (first | exact Below.refl _ _ | assumption | refine bl_alloc ?_ _ | refine bl_drew ?_ | refine bl_drewN ?_ _ | (refine bl_set ?_ ?_ _; (focus (first | (simp; done) | (simp; omega) | omega))) | refine bl_then ?_ (by assumption))))⟩
theorem bet_gt {s : Int} {p : Nat} {t : Int} {q : Nat} (h : t < s) : betM s p t q = true := by
  simp [betM, cmpM, cmpI, h]
theorem bet_lt {s : Int} {p : Nat} {t : Int} {q : Nat} (h : s < t) : betM s p t q = false := by
  have h1 : ¬ t < s := by omega
  simp [betM, cmpM, cmpI, h, h1]
theorem bet_eq {s : Int} {p : Nat} {q : Nat} : betM s p s q = decide (cmpF p q < 0) := by
  simp [betM, cmpM, cmpI]
set_option maxHeartbeats 1000000 in
theorem rBetter_any (s : Int) (p : Nat) (t : Int) (q : Nat) (w : World) (hp : p < 18446744073709551616) (hq : q < 18446744073709551616) :
    Calls Try.prog 61 #[.agg #[.int .i64 s, .float .f64 p], .agg #[.int .i64 t, .float .f64 q]] w fun e w' => e = .returned (.bool (betM s p t q)) ∧ Below w.heap.size w w' := by
  rcases Int.lt_trichotomy t s with h | rfl | h
  · rw [bet_gt h]
    go_enter Try.func61, Try.ntmps61
    go_wp2
    go_ret
    exact ⟨rfl, by (repeat (with_reducible (first | exact Below.refl _ _ | assumption | refine bl_alloc ?_ _ | refine bl_drew ?_ | refine bl_drewN ?_ _ | (refine bl_set ?_ ?_ _; (focus (first | (simp; done) | (simp; omega) | omega))) | refine bl_then ?_ (by assumption))))⟩
  · rw [bet_eq]
    have hd : decide (t < t) = false := by simp
    have hd' : (t == t) = true := by simp
    go_enter Try.func61, Try.ntmps61
    go_wp2_with (go_at_call 71; (with_reducible refine (rCompare_any _ _ _ hp hq).mono ?_); rintro e w1 ⟨rfl, rfl⟩)
    go_ret
    exact ⟨rfl, by (repeat (with_reducible (first | exact Below.refl _ _ | assumption | refine bl_alloc ?_ _ | refine bl_drew ?_ | refine bl_drewN ?_ _ | (refine bl_set ?_ ?_ _; (focus (first | (simp; done) | (simp; omega) | omega))) | refine bl_then ?_ (by assumption))))⟩
  · rw [bet_lt h]
    have hd : ¬ t < s := by omega
    have hd' : (s == t) = false := by simp; omega
    go_enter Try.func61, Try.ntmps61
    go_wp2
    go_ret
    exact ⟨rfl, by (repeat (with_reducible (first | exact Below.refl _ _ | assumption | refine bl_alloc ?_ _ | refine bl_drew ?_ | refine bl_drewN ?_ _ | (refine bl_set ?_ ?_ _; (focus (first | (simp; done) | (simp; omega) | omega))) | refine bl_then ?_ (by assumption))))⟩
end Go.Proofs.Ytlnhofpjeinadaa
