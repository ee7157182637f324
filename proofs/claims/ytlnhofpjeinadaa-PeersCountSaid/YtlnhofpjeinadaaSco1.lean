/- The walks of package score and of its reference, first part: Check, scored, paced, Good, Bad. -/
import Derived.Test.YtlnhofpjeinadaaPaceS
import Derived.Test.YtlnhofpjeinadaaKeyF
import Derived.Laws.Cover2
import Derived.Laws.FloatArith
namespace Go.Proofs.Ytlnhofpjeinadaa
open Go.RowKit Go.Proofs.Ytlnhofpjeinadaa.Pc

theorem run_store_float {P : Program} (w : World) (a : Addr) (m : Mode) (k : FloatKind) (b : Nat) : (store a (.float k b) m).run P w = stored P w a (.float k b) m := run_store P w a _ m rfl
attribute [local go_sem] run_store_float

/-- May a score be? -/
def okS (s : Int) : Bool := decide (-1000 ≤ s ∧ s ≤ 1000)
theorem okS_yes {s : Int} (h : okS s = true) : -1000 ≤ s ∧ s ≤ 1000 := by simpa [okS] using h
theorem okS_no {s : Int} (h : okS s = false) : s < -1000 ∨ 1000 < s := by
  simp [okS] at h
  omega

set_option maxHeartbeats 400000 in
theorem Check_yes (s : Int) (p : Nat) (w : World) (h : okS s = true) :
    Calls Try.prog 40 #[.agg #[.int .i64 s, .float .f64 p]] w fun e w' => e = .returned (.int .i64 0) ∧ Below w.heap.size w w' := by
  obtain ⟨h1, h2⟩ := okS_yes h
  clear h
  go_enter Try.func40, Try.ntmps40
  go_wp2
  go_ret
  exact ⟨rfl, by (repeat (with_reducible (first | exact Below.refl _ _ | assumption | refine bl_alloc ?_ _ | refine bl_drew ?_ | refine bl_drewN ?_ _ | (refine bl_set ?_ ?_ _; (focus (first | (simp; done) | (simp; omega) | omega))) | refine bl_then ?_ (by assumption))))⟩
set_option maxHeartbeats 400000 in
theorem Check_no (s : Int) (p : Nat) (w : World) (h : okS s = false) :
    Calls Try.prog 40 #[.agg #[.int .i64 s, .float .f64 p]] w fun e w' => e = .returned (.int .i64 3) ∧ Below w.heap.size w w' := by
  rcases okS_no h with h1 | h1
  · clear h
    go_enter Try.func40, Try.ntmps40
    go_wp2
    go_ret
    exact ⟨rfl, by (repeat (with_reducible (first | exact Below.refl _ _ | assumption | refine bl_alloc ?_ _ | refine bl_drew ?_ | refine bl_drewN ?_ _ | (refine bl_set ?_ ?_ _; (focus (first | (simp; done) | (simp; omega) | omega))) | refine bl_then ?_ (by assumption))))⟩
  · clear h
    have h2 : ¬ s < -1000 := by omega
    go_enter Try.func40, Try.ntmps40
    go_wp2
    go_ret
    exact ⟨rfl, by (repeat (with_reducible (first | exact Below.refl _ _ | assumption | refine bl_alloc ?_ _ | refine bl_drew ?_ | refine bl_drewN ?_ _ | (refine bl_set ?_ ?_ _; (focus (first | (simp; done) | (simp; omega) | omega))) | refine bl_then ?_ (by assumption))))⟩
set_option maxHeartbeats 400000 in
theorem rCheck_yes (s : Int) (p : Nat) (w : World) (h : okS s = true) :
    Calls Try.prog 43 #[.agg #[.int .i64 s, .float .f64 p]] w fun e w' => e = .returned (.int .i64 0) ∧ Below w.heap.size w w' := by
  obtain ⟨h1, h2⟩ := okS_yes h
  clear h
  go_enter Try.func43, Try.ntmps43
  go_wp2
  go_ret
  exact ⟨rfl, by (repeat (with_reducible (first | exact Below.refl _ _ | assumption | refine bl_alloc ?_ _ | refine bl_drew ?_ | refine bl_drewN ?_ _ | (refine bl_set ?_ ?_ _; (focus (first | (simp; done) | (simp; omega) | omega))) | refine bl_then ?_ (by assumption))))⟩
set_option maxHeartbeats 400000 in
theorem rCheck_no (s : Int) (p : Nat) (w : World) (h : okS s = false) :
    Calls Try.prog 43 #[.agg #[.int .i64 s, .float .f64 p]] w fun e w' => e = .returned (.int .i64 3) ∧ Below w.heap.size w w' := by
  rcases okS_no h with h1 | h1
  · clear h
    go_enter Try.func43, Try.ntmps43
    go_wp2
    go_ret
    exact ⟨rfl, by (repeat (with_reducible (first | exact Below.refl _ _ | assumption | refine bl_alloc ?_ _ | refine bl_drew ?_ | refine bl_drewN ?_ _ | (refine bl_set ?_ ?_ _; (focus (first | (simp; done) | (simp; omega) | omega))) | refine bl_then ?_ (by assumption))))⟩
  · clear h
    have h2 : ¬ s < -1000 := by omega
    go_enter Try.func43, Try.ntmps43
    go_wp2
    go_ret
    exact ⟨rfl, by (repeat (with_reducible (first | exact Below.refl _ _ | assumption | refine bl_alloc ?_ _ | refine bl_drew ?_ | refine bl_drewN ?_ _ | (refine bl_set ?_ ?_ _; (focus (first | (simp; done) | (simp; omega) | omega))) | refine bl_then ?_ (by assumption))))⟩
def chkE (s : Int) : Int := if okS s then 0 else 3
theorem Check_any (s : Int) (p : Nat) (w : World) :
    Calls Try.prog 40 #[.agg #[.int .i64 s, .float .f64 p]] w fun e w' => e = .returned (.int .i64 (chkE s)) ∧ Below w.heap.size w w' := by
  unfold chkE
  cases h : okS s
  · exact Check_no s p w h
  · exact Check_yes s p w h
theorem rCheck_any (s : Int) (p : Nat) (w : World) :
    Calls Try.prog 43 #[.agg #[.int .i64 s, .float .f64 p]] w fun e w' => e = .returned (.int .i64 (chkE s)) ∧ Below w.heap.size w w' := by
  unfold chkE
  cases h : okS s
  · exact rCheck_no s p w h
  · exact rCheck_yes s p w h

/-- A score, so much higher. -/
def upS (s n : Int) : Int := max (-1000) (min 1000 (s + n))
theorem upS_ok (s n : Int) : okS (upS s n) = true := by
  unfold okS upS
  exact decide_eq_true (by omega)

set_option maxHeartbeats 400000 in
theorem scored_any (s n : Int) (p : Nat) (w : World) (h : okS s = true) (hn : -5 ≤ n) (hn' : n ≤ 1) :
    Calls Try.prog 41 #[.agg #[.int .i64 s, .float .f64 p], .int .i64 n] w fun e w' => e = .returned (.agg #[.int .i64 (upS s n), .float .f64 p]) ∧ Below w.heap.size w w' := by
  obtain ⟨h1, h2⟩ := okS_yes h
  clear h
  by_cases c1 : s + n < 1000
  · by_cases c2 : s + n ≤ -1000
    · rw [show upS s n = -1000 by unfold upS; omega]
      go_enter Try.func41, Try.ntmps41
      go_wp2
      exact bodyPost_ret (v := .agg #[.int .i64 (-1000), .float .f64 p]) (by simp [results, Try.results41, go_sem]) rfl ⟨rfl, by (repeat (with_reducible (first | exact Below.refl _ _ | assumption | refine bl_alloc ?_ _ | refine bl_drew ?_ | refine bl_drewN ?_ _ | (refine bl_set ?_ ?_ _; (focus (first | (simp; done) | (simp; omega) | omega))) | refine bl_then ?_ (by assumption))))⟩
    · rw [show upS s n = s + n by unfold upS; omega]
      go_enter Try.func41, Try.ntmps41
      go_wp2
      exact bodyPost_ret (v := .agg #[.int .i64 (s + n), .float .f64 p]) (by simp [results, Try.results41, go_sem]) rfl ⟨rfl, by (repeat (with_reducible (first | exact Below.refl _ _ | assumption | refine bl_alloc ?_ _ | refine bl_drew ?_ | refine bl_drewN ?_ _ | (refine bl_set ?_ ?_ _; (focus (first | (simp; done) | (simp; omega) | omega))) | refine bl_then ?_ (by assumption))))⟩
  · rw [show upS s n = 1000 by unfold upS; omega]
    go_enter Try.func41, Try.ntmps41
    go_wp2
    exact bodyPost_ret (v := .agg #[.int .i64 1000, .float .f64 p]) (by simp [results, Try.results41, go_sem]) rfl ⟨rfl, by (repeat (with_reducible (first | exact Below.refl _ _ | assumption | refine bl_alloc ?_ _ | refine bl_drew ?_ | refine bl_drewN ?_ _ | (refine bl_set ?_ ?_ _; (focus (first | (simp; done) | (simp; omega) | omega))) | refine bl_then ?_ (by assumption))))⟩

/-- A merit comes back, its pace up to which NaN it is. -/
def MerPost (s : Int) (v : Nat) (w : World) (e : Ending) (w' : World) : Prop := ∃ r, e = .returned (.agg #[.int .i64 s, .float .f64 r]) ∧ canon r = canon v ∧ r < 18446744073709551616 ∧ Below w.heap.size w w'
set_option maxHeartbeats 400000 in
theorem paced_any (s : Int) (p x : Nat) (w : World) (hx : x < 18446744073709551616) :
    Calls Try.prog 42 #[.agg #[.int .i64 s, .float .f64 p], .float .f64 x] w (MerPost s (smoothF p x) w) := by
  go_enter Try.func42, Try.ntmps42
  go_wp2_with fail
  refine (Smooth_any p x _ hx).mono ?_
  rintro e w1 ⟨r, rfl, c1, l1, b1⟩
  have C1 := Lib.hid c1
  clear c1
  have D0 := kb_below b1 (kb_alloc (kb_new (w := w) rfl (.cells #[.int .i64 s, .float .f64 p] 82)) (.cells #[.int .i64 0, .float .f64 0] 82))
  have D1 := kb_below b1 (kb_new (w := w.alloc (.cells #[.int .i64 s, .float .f64 p] 82)) rfl (.cells #[.int .i64 0, .float .f64 0] 82))
  have c0 := kb_cell D0
  have c1 := kb_cell D1
  simp only [World.size_alloc] at c1 D1
  have z0 := kb_frozen D0
  have z1 := kb_frozen D1
  go_wp2
  exact bodyPost_ret (v := .agg #[.int .i64 s, .float .f64 r]) (by simp [results, Try.results42, go_sem, *]) rfl ⟨r, rfl, C1.out, l1, by (repeat (with_reducible (first | exact Below.refl _ _ | assumption | refine bl_alloc ?_ _ | refine bl_drew ?_ | refine bl_drewN ?_ _ | (refine bl_set ?_ ?_ _; (focus (first | (simp; done) | (simp; omega) | omega))) | refine bl_then ?_ (by assumption))))⟩

/-- Ticks as a pace. -/
def tickF (n : Int) : Nat := floatOfInt .f64 n
theorem tickF_lt (n : Int) : tickF n < 18446744073709551616 := by
  have := floatOfInt_wf .f64 n
  show floatOfInt .f64 n < _
  simpa [Lit.wf] using this
/-- A merit and what is wrong come back. -/
def MerEPost (s : Int) (v : Nat) (w : World) (e : Ending) (w' : World) : Prop := ∃ r, e = .returned (.tuple #[.agg #[.int .i64 s, .float .f64 r], .int .i64 0]) ∧ canon r = canon v ∧ r < 18446744073709551616 ∧ Below w.heap.size w w'
/-- Is an answer good for a merit? -/
def okG (s ticks : Int) : Bool := okS s && decide (0 ≤ ticks ∧ ticks ≤ 1099511627776)
theorem okG_yes {s t : Int} (h : okG s t = true) : okS s = true ∧ 0 ≤ t ∧ t ≤ 1099511627776 := by simpa [okG] using h

set_option maxHeartbeats 1000000 in
theorem Good_yes (s : Int) (p : Nat) (t : Int) (w : World) (h : okG s t = true) :
    Calls Try.prog 23 #[.agg #[.int .i64 s, .float .f64 p], .int .i64 t] w (MerEPost (upS s 1) (smoothF p (tickF t)) w) := by
  obtain ⟨h0, h1, h2⟩ := okG_yes h
  have HS := Lib.hid h0
  have ht := Lib.hid (tickF_lt t)
  clear h h0
  go_enter Try.func23, Try.ntmps23
  go_wp2_with fail
  refine (Check_yes s p _ HS.out).mono ?_
  rintro e w1 ⟨rfl, b1⟩
  have D0 := kb_below b1 (kb_alloc (kb_new (w := w) rfl (.cells #[.int .i64 s, .float .f64 p] 33)) (.cells #[.int .i64 0, .float .f64 0] 33))
  have D1 := kb_below b1 (kb_new (w := w.alloc (.cells #[.int .i64 s, .float .f64 p] 33)) rfl (.cells #[.int .i64 0, .float .f64 0] 33))
  have c0 := kb_cell D0
  simp only [World.size_alloc] at D1
  go_wp2_with fail
  refine (scored_any s 1 p _ HS.out (by omega) (by omega)).mono ?_
  rintro e w2 ⟨rfl, b2⟩
  have D2 := kb_below b2 D1
  clear c0
  go_wp2_with fail
  refine (paced_any (upS s 1) p (tickF t) _ ht.out).mono ?_
  rintro e w3 ⟨r, rfl, c3, l3, b3⟩
  have C3 := Lib.hid c3
  clear c3
  have D3 := kb_below b3 D2
  have c1 := kb_cell D3
  have z1 := kb_frozen D3
  go_wp2
  exact bodyPost_ret (v := .tuple #[.agg #[.int .i64 (upS s 1), .float .f64 r], .int .i64 0]) (by simp [results, Try.results23, go_sem, *]) rfl ⟨r, rfl, C3.out, l3, by (repeat (with_reducible (first | exact Below.refl _ _ | assumption | refine bl_alloc ?_ _ | refine bl_drew ?_ | refine bl_drewN ?_ _ | (refine bl_set ?_ ?_ _; (focus (first | (simp; done) | (simp; omega) | omega))) | refine bl_then ?_ (by assumption))))⟩
end Go.Proofs.Ytlnhofpjeinadaa
