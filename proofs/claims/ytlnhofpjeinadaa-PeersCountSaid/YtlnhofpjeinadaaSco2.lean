/- The walks of package score and of its reference, second part: Good and Bad at every merit. -/
import Derived.Test.YtlnhofpjeinadaaSco1
import Derived.Deep.RegionHeld3
namespace Go.Proofs.Ytlnhofpjeinadaa
open Go.RowKit Go.Proofs.Ytlnhofpjeinadaa.Pc
attribute [local go_sem] run_store_float
set_option linter.unusedSimpArgs false
set_option linter.unusedVariables false

/-- What comes back: a merit, its pace up to which NaN it is, and what is wrong. -/
def RPost (n : Int) (v : Nat) (er : Int) (w : World) (e : Ending) (w' : World) : Prop := ∃ r, e = .returned (.tuple #[.agg #[.int .i64 n, .float .f64 r], .int .i64 er]) ∧ canon r = canon v ∧ r < 18446744073709551616 ∧ Below w.heap.size w w'
def goodS (s t : Int) : Int := if okG s t then upS s 1 else 0
def goodP (s : Int) (p : Nat) (t : Int) : Nat := if okG s t then smoothF p (tickF t) else 0
def goodE (s t : Int) : Int := if okG s t then 0 else 3
/-- Infinity. -/
def infF : Nat := 9218868437227405312
def badS (s : Int) : Int := if okS s then upS s (-5) else 0
def badP (s : Int) (p : Nat) : Nat := if okS s then smoothF p infF else 0
theorem okG_no {s t : Int} (h : okG s t = false) : okS s = false ∨ (okS s = true ∧ (t < 0 ∨ (0 ≤ t ∧ 1099511627776 < t))) := by
  cases k : okS s
  · exact .inl rfl
  · refine .inr ⟨rfl, ?_⟩
    simp [okG, k] at h
    omega

set_option maxHeartbeats 1000000 in
theorem Good_no (s : Int) (p : Nat) (t : Int) (w : World) (h : okG s t = false) :
    Calls Try.prog 23 #[.agg #[.int .i64 s, .float .f64 p], .int .i64 t] w fun e w' => e = .returned (.tuple #[.agg #[.int .i64 0, .float .f64 0], .int .i64 3]) ∧ Below w.heap.size w w' := by
  rcases okG_no h with h0 | ⟨h0, h1 | ⟨h1, h2⟩⟩
  · have HS := Lib.hid h0
    clear h h0
    go_enter Try.func23, Try.ntmps23
    go_wp2_with fail
    refine (Check_no s p _ HS.out).mono ?_
    rintro e w1 ⟨rfl, b1⟩
    have D1 := kb_below b1 (kb_new (w := w.alloc (.cells #[.int .i64 s, .float .f64 p] 33)) rfl (.cells #[.int .i64 0, .float .f64 0] 33))
    simp only [World.size_alloc] at D1
    have k1 := kb_cell D1
    have z1 := kb_frozen D1
    go_wp2
    exact bodyPost_ret (v := .tuple #[.agg #[.int .i64 0, .float .f64 0], .int .i64 3]) (by simp [results, Try.results23, go_sem, *]) rfl ⟨rfl, by (repeat (with_reducible (first | exact Below.refl _ _ | assumption | refine bl_alloc ?_ _ | refine bl_drew ?_ | refine bl_drewN ?_ _ | (refine bl_set ?_ ?_ _; (focus (first | (simp; done) | (simp; omega) | omega))) | refine bl_then ?_ (by assumption))))⟩
  · have HS := Lib.hid h0
    clear h h0
    go_enter Try.func23, Try.ntmps23
    go_wp2_with fail
    refine (Check_yes s p _ HS.out).mono ?_
    rintro e w1 ⟨rfl, b1⟩
    have D1 := kb_below b1 (kb_new (w := w.alloc (.cells #[.int .i64 s, .float .f64 p] 33)) rfl (.cells #[.int .i64 0, .float .f64 0] 33))
    simp only [World.size_alloc] at D1
    have k1 := kb_cell D1
    have z1 := kb_frozen D1
    go_wp2
    exact bodyPost_ret (v := .tuple #[.agg #[.int .i64 0, .float .f64 0], .int .i64 3]) (by simp [results, Try.results23, go_sem, *]) rfl ⟨rfl, by (repeat (with_reducible (first | exact Below.refl _ _ | assumption | refine bl_alloc ?_ _ | refine bl_drew ?_ | refine bl_drewN ?_ _ | (refine bl_set ?_ ?_ _; (focus (first | (simp; done) | (simp; omega) | omega))) | refine bl_then ?_ (by assumption))))⟩
  · have HS := Lib.hid h0
    clear h h0
    go_enter Try.func23, Try.ntmps23
    go_wp2_with fail
    refine (Check_yes s p _ HS.out).mono ?_
    rintro e w1 ⟨rfl, b1⟩
    have D1 := kb_below b1 (kb_new (w := w.alloc (.cells #[.int .i64 s, .float .f64 p] 33)) rfl (.cells #[.int .i64 0, .float .f64 0] 33))
    simp only [World.size_alloc] at D1
    have k1 := kb_cell D1
    have z1 := kb_frozen D1
    go_wp2
    exact bodyPost_ret (v := .tuple #[.agg #[.int .i64 0, .float .f64 0], .int .i64 3]) (by simp [results, Try.results23, go_sem, *]) rfl ⟨rfl, by (repeat (with_reducible (first | exact Below.refl _ _ | assumption | refine bl_alloc ?_ _ | refine bl_drew ?_ | refine bl_drewN ?_ _ | (refine bl_set ?_ ?_ _; (focus (first | (simp; done) | (simp; omega) | omega))) | refine bl_then ?_ (by assumption))))⟩

set_option maxHeartbeats 1000000 in
theorem rGood_no (s : Int) (p : Nat) (t : Int) (w : World) (h : okG s t = false) :
    Calls Try.prog 64 #[.agg #[.int .i64 s, .float .f64 p], .int .i64 t] w fun e w' => e = .returned (.tuple #[.agg #[.int .i64 0, .float .f64 0], .int .i64 3]) ∧ Below w.heap.size w w' := by
  rcases okG_no h with h0 | ⟨h0, h1 | ⟨h1, h2⟩⟩
  · have HS := Lib.hid h0
    clear h h0
    go_enter Try.func64, Try.ntmps64
    go_wp2_with fail
    refine (rCheck_no s p _ HS.out).mono ?_
    rintro e w1 ⟨rfl, b1⟩
    have D1 := kb_below b1 (kb_new (w := w.alloc (.cells #[.int .i64 s, .float .f64 p] 33)) rfl (.cells #[.int .i64 0, .float .f64 0] 33))
    simp only [World.size_alloc] at D1
    have k1 := kb_cell D1
    have z1 := kb_frozen D1
    go_wp2
    exact bodyPost_ret (v := .tuple #[.agg #[.int .i64 0, .float .f64 0], .int .i64 3]) (by simp [results, Try.results64, go_sem, *]) rfl ⟨rfl, by (repeat (with_reducible (first | exact Below.refl _ _ | assumption | refine bl_alloc ?_ _ | refine bl_drew ?_ | refine bl_drewN ?_ _ | (refine bl_set ?_ ?_ _; (focus (first | (simp; done) | (simp; omega) | omega))) | refine bl_then ?_ (by assumption))))⟩
  · have HS := Lib.hid h0
    clear h h0
    go_enter Try.func64, Try.ntmps64
    go_wp2_with fail
    refine (rCheck_yes s p _ HS.out).mono ?_
    rintro e w1 ⟨rfl, b1⟩
    have D1 := kb_below b1 (kb_new (w := w.alloc (.cells #[.int .i64 s, .float .f64 p] 33)) rfl (.cells #[.int .i64 0, .float .f64 0] 33))
    simp only [World.size_alloc] at D1
    have k1 := kb_cell D1
    have z1 := kb_frozen D1
    go_wp2
    exact bodyPost_ret (v := .tuple #[.agg #[.int .i64 0, .float .f64 0], .int .i64 3]) (by simp [results, Try.results64, go_sem, *]) rfl ⟨rfl, by (repeat (with_reducible (first | exact Below.refl _ _ | assumption | refine bl_alloc ?_ _ | refine bl_drew ?_ | refine bl_drewN ?_ _ | (refine bl_set ?_ ?_ _; (focus (first | (simp; done) | (simp; omega) | omega))) | refine bl_then ?_ (by assumption))))⟩
  · have HS := Lib.hid h0
    clear h h0
    go_enter Try.func64, Try.ntmps64
    go_wp2_with fail
    refine (rCheck_yes s p _ HS.out).mono ?_
    rintro e w1 ⟨rfl, b1⟩
    have D1 := kb_below b1 (kb_new (w := w.alloc (.cells #[.int .i64 s, .float .f64 p] 33)) rfl (.cells #[.int .i64 0, .float .f64 0] 33))
    simp only [World.size_alloc] at D1
    have k1 := kb_cell D1
    have z1 := kb_frozen D1
    go_wp2
    exact bodyPost_ret (v := .tuple #[.agg #[.int .i64 0, .float .f64 0], .int .i64 3]) (by simp [results, Try.results64, go_sem, *]) rfl ⟨rfl, by (repeat (with_reducible (first | exact Below.refl _ _ | assumption | refine bl_alloc ?_ _ | refine bl_drew ?_ | refine bl_drewN ?_ _ | (refine bl_set ?_ ?_ _; (focus (first | (simp; done) | (simp; omega) | omega))) | refine bl_then ?_ (by assumption))))⟩

theorem min_up {s : Int} (h : okS s = true) : (if 1000 < IntKind.i64.wrap (s + 1) then 1000 else IntKind.i64.wrap (s + 1)) = upS s 1 := by
  obtain ⟨h1, h2⟩ := okS_yes h
  rw [show IntKind.i64.wrap (s + 1) = s + 1 by rw [IntKind.wrap_i64]; omega]
  unfold upS
  split <;> omega
theorem max_up {s : Int} (h : okS s = true) : (if IntKind.i64.wrap (s - 5) < -1000 then -1000 else IntKind.i64.wrap (s - 5)) = upS s (-5) := by
  obtain ⟨h1, h2⟩ := okS_yes h
  rw [show IntKind.i64.wrap (s - 5) = s - 5 by rw [IntKind.wrap_i64]; omega]
  unfold upS
  split <;> omega

set_option maxHeartbeats 1000000 in
theorem rGood_yes (s : Int) (p : Nat) (t : Int) (w : World) (h : okG s t = true) :
    Calls Try.prog 64 #[.agg #[.int .i64 s, .float .f64 p], .int .i64 t] w (MerEPost (upS s 1) (smoothF p (tickF t)) w) := by
  obtain ⟨h0, h1, h2⟩ := okG_yes h
  have HS := Lib.hid h0
  have ht := Lib.hid (tickF_lt t)
  have hv := Lib.hid (min_up h0)
  clear h h0
  go_enter Try.func64, Try.ntmps64
  go_wp2_with fail
  refine (rCheck_yes s p _ HS.out).mono ?_
  rintro e w1 ⟨rfl, b1⟩
  have D0 := kb_below b1 (kb_alloc (kb_new (w := w) rfl (.cells #[.int .i64 s, .float .f64 p] 33)) (.cells #[.int .i64 0, .float .f64 0] 33))
  have D1 := kb_below b1 (kb_new (w := w.alloc (.cells #[.int .i64 s, .float .f64 p] 33)) rfl (.cells #[.int .i64 0, .float .f64 0] 33))
  simp only [World.size_alloc] at D1
  go_wp2_with fail
  refine wp_region_held_drew (S := (fun W : World => W.cell? ⟨w.heap.size, 0, none⟩ = some (.int .i64 s) ∧ W.cell? ⟨w.heap.size, 1, none⟩ = some (.float .f64 p))) (by kernel_rfl) ⟨kb_cell (kb_drew D0) 0, kb_cell (kb_drew D0) 1⟩ (fun hHeld => ?_)
  refine wpAnyH_take (i := 0) (oi := { dst := some 18, op := _, type := _, pos := _, after := _, guard := _ }) (v := ?_) rfl (by kernel_rfl) (by kernel_rfl) (by kernel_rfl) (fun _ _ _ h => h) (Or.inl ⟨by rfl, ?_⟩) hHeld ?_
  rotate_left
  · (intro w hSw; (try dsimp only at hSw); go_simp); all_goals with_reducible rfl
  try simp only [Act.put, List.setIfInBounds_toArray, List.set_cons_zero, List.set_cons_succ]
  refine wpAnyH_take (i := 1) (oi := { dst := some 19, op := _, type := _, pos := _, after := _, guard := _ }) (v := ?_) rfl (by kernel_rfl) (by kernel_rfl) (by kernel_rfl) (fun _ _ _ h => h) (Or.inl ⟨by rfl, ?_⟩) hHeld ?_
  rotate_left
  · (intro w hSw; (try dsimp only at hSw); go_simp); all_goals with_reducible rfl
  try simp only [Act.put, List.setIfInBounds_toArray, List.set_cons_zero, List.set_cons_succ]
  refine wpAnyH_take (i := 2) (oi := { dst := some 20, op := _, type := _, pos := _, after := _, guard := _ }) (v := ?_) rfl (by kernel_rfl) (by kernel_rfl) (by kernel_rfl) (fun _ _ _ h => h) (Or.inl ⟨by rfl, ?_⟩) hHeld ?_
  rotate_left
  · (intro w hSw; (try dsimp only at hSw); go_simp); all_goals with_reducible rfl
  try simp only [Act.put, List.setIfInBounds_toArray, List.set_cons_zero, List.set_cons_succ]
  refine wpAnyH_take (i := 3) (oi := { dst := some 21, op := _, type := _, pos := _, after := _, guard := _ }) (v := ?_) rfl (by kernel_rfl) (by kernel_rfl) (by kernel_rfl) (fun _ _ _ h => h) (Or.inl ⟨by rfl, ?_⟩) hHeld ?_
  rotate_left
  · (intro w hSw; (try dsimp only at hSw); go_simp); all_goals with_reducible rfl
  try simp only [Act.put, List.setIfInBounds_toArray, List.set_cons_zero, List.set_cons_succ]
  refine wpAnyH_take (i := 4) (oi := { dst := some 22, op := _, type := _, pos := _, after := _, guard := _ }) (v := ?_) rfl (by kernel_rfl) (by kernel_rfl) (by kernel_rfl) (fun _ _ _ h => h) (Or.inl ⟨by rfl, ?_⟩) hHeld ?_
  rotate_left
  · (intro w hSw; (try dsimp only at hSw); go_simp); all_goals with_reducible rfl
  try simp only [Act.put, List.setIfInBounds_toArray, List.set_cons_zero, List.set_cons_succ]
  refine wpAnyH_take (i := 5) (oi := { dst := some 23, op := _, type := _, pos := _, after := _, guard := _ }) (v := ?_) rfl (by kernel_rfl) (by kernel_rfl) (by kernel_rfl) (fun _ _ _ h => h) (Or.inl ⟨by rfl, ?_⟩) hHeld ?_
  rotate_left
  · (intro w hSw; (try dsimp only at hSw); go_simp); all_goals with_reducible rfl
  try simp only [Act.put, List.setIfInBounds_toArray, List.set_cons_zero, List.set_cons_succ]
  refine wpAnyH_take (i := 6) (oi := { dst := some 24, op := _, type := _, pos := _, after := _, guard := _ }) (v := ?_) rfl (by kernel_rfl) (by kernel_rfl) (by kernel_rfl) (fun _ _ _ h => h) (Or.inl ⟨by rfl, ?_⟩) hHeld ?_
  rotate_left
  · (intro w hSw; (try dsimp only at hSw); go_simp); all_goals with_reducible rfl
  try simp only [Act.put, List.setIfInBounds_toArray, List.set_cons_zero, List.set_cons_succ]
  refine wpAnyH_take (i := 7) (oi := { dst := some 25, op := _, type := _, pos := _, after := _, guard := _ }) (v := ?_) rfl (by kernel_rfl) (by kernel_rfl) (by kernel_rfl) (fun _ _ _ h => h) (Or.inl ⟨by rfl, ?_⟩) hHeld ?_
  rotate_left
  · (intro w hSw; (try dsimp only at hSw); go_simp); all_goals with_reducible rfl
  try simp only [Act.put, List.setIfInBounds_toArray, List.set_cons_zero, List.set_cons_succ]
  rw [hv.out]
  refine wpAnyH_ready (rs := [8]) (by kernel_rfl) (by simp) (AllReadyH.cons (o := _) rfl (fun K hK => ?_) AllReadyH.nil)
  go_simp
  refine (rSmooth_any p (tickF t) _ ht.out).mono ?_
  rintro e w3 ⟨r, rfl, c3, l3, b3⟩
  have C3 := Lib.hid c3
  clear c3
  have D2 := kb_below b3 (kb_drew D0)
  have D3 := kb_below b3 (kb_drew D1)
  refine hK.out _ _ ⟨kb_cell D2 0, kb_cell D2 1⟩ (fun hHeld => ?_)
  clear hK K
  refine wpAnyH_take (i := 9) (oi := { dst := some 27, op := _, type := _, pos := _, after := _, guard := _ }) (v := ?_) rfl (by kernel_rfl) (by kernel_rfl) (by kernel_rfl) (fun _ _ _ h => h) (Or.inl ⟨by rfl, ?_⟩) hHeld ?_
  rotate_left
  · (intro w hSw; (try dsimp only at hSw); go_simp); all_goals with_reducible rfl
  try simp only [Act.put, List.setIfInBounds_toArray, List.set_cons_zero, List.set_cons_succ]
  have k1 := kb_cell D3
  have z1 := kb_frozen D3
  refine wpAnyH_ready (rs := [10]) (by kernel_rfl) (by simp) (AllReadyH.cons (o := _) rfl (fun K hK => ?_) AllReadyH.nil)
  go_simp
  have D4 := fun u v => kb_far (p := ⟨w.heap.size + 1, 1, none⟩) (kb_far (p := ⟨w.heap.size + 1, 0, none⟩) D2 (by simp) u) (by simp) v
  refine hK.out _ _ ⟨kb_cell (D4 _ _) 0, kb_cell (D4 _ _) 1⟩ (fun hHeld => ?_)
  clear hK K
  refine wpAnyH_take (i := 11) (oi := { dst := some 5, op := _, type := _, pos := _, after := _, guard := _ }) (v := ?_) rfl (by kernel_rfl) (by kernel_rfl) (by kernel_rfl) (fun _ _ _ h => h) (Or.inl ⟨by rfl, ?_⟩) hHeld ?_
  rotate_left
  · (intro w hSw; (try dsimp only at hSw); go_simp); all_goals with_reducible rfl
  try simp only [Act.put, List.setIfInBounds_toArray, List.set_cons_zero, List.set_cons_succ]
  refine wpAnyH_done (by kernel_rfl) ?_ _
  go_wp2
  exact bodyPost_ret (v := .tuple #[.agg #[.int .i64 (upS s 1), .float .f64 r], .int .i64 0]) (by simp [results, Try.results64, go_sem, *]) rfl ⟨r, rfl, C3.out, l3, by (repeat (with_reducible (first | exact Below.refl _ _ | assumption | refine bl_alloc ?_ _ | refine bl_drew ?_ | refine bl_drewN ?_ _ | (refine bl_set ?_ ?_ _; (focus (first | (simp; done) | (simp; omega) | omega))) | refine bl_then ?_ (by assumption))))⟩

theorem Good_any (s : Int) (p : Nat) (t : Int) (w : World) : Calls Try.prog 23 #[.agg #[.int .i64 s, .float .f64 p], .int .i64 t] w (RPost (goodS s t) (goodP s p t) (goodE s t) w) := by
  unfold goodS goodP goodE
  cases h : okG s t
  · exact (Good_no s p t w h).mono fun e w' ⟨he, hb⟩ => ⟨0, he, rfl, by decide, hb⟩
  · exact Good_yes s p t w h
theorem rGood_any (s : Int) (p : Nat) (t : Int) (w : World) : Calls Try.prog 64 #[.agg #[.int .i64 s, .float .f64 p], .int .i64 t] w (RPost (goodS s t) (goodP s p t) (goodE s t) w) := by
  unfold goodS goodP goodE
  cases h : okG s t
  · exact (rGood_no s p t w h).mono fun e w' ⟨he, hb⟩ => ⟨0, he, rfl, by decide, hb⟩
  · exact rGood_yes s p t w h

set_option maxHeartbeats 400000 in
theorem Inf_any (w : World) : Calls Try.prog 16 #[.int .i64 1] w fun e w' => e = .returned (.float .f64 infF) ∧ w = w' := by
  have hr := run_from 9218868437227405312
  go_enter Try.func16, Try.ntmps16
  go_wp2
  go_ret
  exact ⟨rfl, rfl⟩

set_option maxHeartbeats 1000000 in
theorem Bad_yes (s : Int) (p : Nat) (w : World) (h : okS s = true) :
    Calls Try.prog 22 #[.agg #[.int .i64 s, .float .f64 p]] w (MerEPost (upS s (-5)) (smoothF p infF) w) := by
  have HS := Lib.hid h
  clear h
  go_enter Try.func22, Try.ntmps22
  go_wp2_with fail
  refine (Check_yes s p _ HS.out).mono ?_
  rintro e w1 ⟨rfl, b1⟩
  have D0 := kb_below b1 (kb_alloc (kb_new (w := w) rfl (.cells #[.int .i64 s, .float .f64 p] 33)) (.cells #[.int .i64 0, .float .f64 0] 33))
  have D1 := kb_below b1 (kb_new (w := w.alloc (.cells #[.int .i64 s, .float .f64 p] 33)) rfl (.cells #[.int .i64 0, .float .f64 0] 33))
  have c0 := kb_cell D0
  simp only [World.size_alloc] at D1
  go_wp2_with fail
  refine (scored_any s (-5) p _ HS.out (by omega) (by omega)).mono ?_
  rintro e w2 ⟨rfl, b2⟩
  have D2 := kb_below b2 D1
  clear c0
  go_wp2_with (go_at_call 16; (with_reducible refine (Inf_any _).mono ?_); rintro e w1 ⟨rfl, rfl⟩)
  refine (paced_any (upS s (-5)) p infF _ (by decide)).mono ?_
  rintro e w3 ⟨r, rfl, c3, l3, b3⟩
  have C3 := Lib.hid c3
  clear c3
  have D3 := kb_below b3 D2
  have c1 := kb_cell D3
  have z1 := kb_frozen D3
  go_wp2
  exact bodyPost_ret (v := .tuple #[.agg #[.int .i64 (upS s (-5)), .float .f64 r], .int .i64 0]) (by simp [results, Try.results22, go_sem, *]) rfl ⟨r, rfl, C3.out, l3, by (repeat (with_reducible (first | exact Below.refl _ _ | assumption | refine bl_alloc ?_ _ | refine bl_drew ?_ | refine bl_drewN ?_ _ | (refine bl_set ?_ ?_ _; (focus (first | (simp; done) | (simp; omega) | omega))) | refine bl_then ?_ (by assumption))))⟩

set_option maxHeartbeats 1000000 in
theorem Bad_no (s : Int) (p : Nat) (w : World) (h : okS s = false) :
    Calls Try.prog 22 #[.agg #[.int .i64 s, .float .f64 p]] w fun e w' => e = .returned (.tuple #[.agg #[.int .i64 0, .float .f64 0], .int .i64 3]) ∧ Below w.heap.size w w' := by
  have HS := Lib.hid h
  clear h
  go_enter Try.func22, Try.ntmps22
  go_wp2_with fail
  refine (Check_no s p _ HS.out).mono ?_
  rintro e w1 ⟨rfl, b1⟩
  have D1 := kb_below b1 (kb_new (w := w.alloc (.cells #[.int .i64 s, .float .f64 p] 33)) rfl (.cells #[.int .i64 0, .float .f64 0] 33))
  simp only [World.size_alloc] at D1
  have k1 := kb_cell D1
  have z1 := kb_frozen D1
  go_wp2
  exact bodyPost_ret (v := .tuple #[.agg #[.int .i64 0, .float .f64 0], .int .i64 3]) (by simp [results, Try.results22, go_sem, *]) rfl ⟨rfl, by (repeat (with_reducible (first | exact Below.refl _ _ | assumption | refine bl_alloc ?_ _ | refine bl_drew ?_ | refine bl_drewN ?_ _ | (refine bl_set ?_ ?_ _; (focus (first | (simp; done) | (simp; omega) | omega))) | refine bl_then ?_ (by assumption))))⟩

set_option maxHeartbeats 1000000 in
theorem rBad_no (s : Int) (p : Nat) (w : World) (h : okS s = false) :
    Calls Try.prog 63 #[.agg #[.int .i64 s, .float .f64 p]] w fun e w' => e = .returned (.tuple #[.agg #[.int .i64 0, .float .f64 0], .int .i64 3]) ∧ Below w.heap.size w w' := by
  have HS := Lib.hid h
  clear h
  go_enter Try.func63, Try.ntmps63
  go_wp2_with fail
  refine (rCheck_no s p _ HS.out).mono ?_
  rintro e w1 ⟨rfl, b1⟩
  have D1 := kb_below b1 (kb_new (w := w.alloc (.cells #[.int .i64 s, .float .f64 p] 33)) rfl (.cells #[.int .i64 0, .float .f64 0] 33))
  simp only [World.size_alloc] at D1
  have k1 := kb_cell D1
  have z1 := kb_frozen D1
  go_wp2
  exact bodyPost_ret (v := .tuple #[.agg #[.int .i64 0, .float .f64 0], .int .i64 3]) (by simp [results, Try.results63, go_sem, *]) rfl ⟨rfl, by (repeat (with_reducible (first | exact Below.refl _ _ | assumption | refine bl_alloc ?_ _ | refine bl_drew ?_ | refine bl_drewN ?_ _ | (refine bl_set ?_ ?_ _; (focus (first | (simp; done) | (simp; omega) | omega))) | refine bl_then ?_ (by assumption))))⟩

set_option maxHeartbeats 1000000 in
theorem rBad_yes (s : Int) (p : Nat) (w : World) (h : okS s = true) :
    Calls Try.prog 63 #[.agg #[.int .i64 s, .float .f64 p]] w (MerEPost (upS s (-5)) (smoothF p infF) w) := by
  have HS := Lib.hid h
  have hv := Lib.hid (max_up h)
  clear h
  go_enter Try.func63, Try.ntmps63
  go_wp2_with fail
  refine (rCheck_yes s p _ HS.out).mono ?_
  rintro e w1 ⟨rfl, b1⟩
  have D0 := kb_below b1 (kb_alloc (kb_new (w := w) rfl (.cells #[.int .i64 s, .float .f64 p] 33)) (.cells #[.int .i64 0, .float .f64 0] 33))
  have D1 := kb_below b1 (kb_new (w := w.alloc (.cells #[.int .i64 s, .float .f64 p] 33)) rfl (.cells #[.int .i64 0, .float .f64 0] 33))
  simp only [World.size_alloc] at D1
  go_wp2_with fail
  refine wp_region_held_drew (S := (fun W : World => W.cell? ⟨w.heap.size, 0, none⟩ = some (.int .i64 s) ∧ W.cell? ⟨w.heap.size, 1, none⟩ = some (.float .f64 p))) (by kernel_rfl) ⟨kb_cell (kb_drew D0) 0, kb_cell (kb_drew D0) 1⟩ (fun hHeld => ?_)
  refine wpAnyH_take (i := 0) (oi := { dst := some 8, op := _, type := _, pos := _, after := _, guard := _ }) (v := ?_) rfl (by kernel_rfl) (by kernel_rfl) (by kernel_rfl) (fun _ _ _ h => h) (Or.inl ⟨by rfl, ?_⟩) hHeld ?_
  rotate_left
  · (intro w hSw; (try dsimp only at hSw); go_simp); all_goals with_reducible rfl
  try simp only [Act.put, List.setIfInBounds_toArray, List.set_cons_zero, List.set_cons_succ]
  refine wpAnyH_take (i := 1) (oi := { dst := some 9, op := _, type := _, pos := _, after := _, guard := _ }) (v := ?_) rfl (by kernel_rfl) (by kernel_rfl) (by kernel_rfl) (fun _ _ _ h => h) (Or.inl ⟨by rfl, ?_⟩) hHeld ?_
  rotate_left
  · (intro w hSw; (try dsimp only at hSw); go_simp); all_goals with_reducible rfl
  try simp only [Act.put, List.setIfInBounds_toArray, List.set_cons_zero, List.set_cons_succ]
  refine wpAnyH_take (i := 2) (oi := { dst := some 10, op := _, type := _, pos := _, after := _, guard := _ }) (v := ?_) rfl (by kernel_rfl) (by kernel_rfl) (by kernel_rfl) (fun _ _ _ h => h) (Or.inl ⟨by rfl, ?_⟩) hHeld ?_
  rotate_left
  · (intro w hSw; (try dsimp only at hSw); go_simp); all_goals with_reducible rfl
  try simp only [Act.put, List.setIfInBounds_toArray, List.set_cons_zero, List.set_cons_succ]
  refine wpAnyH_take (i := 3) (oi := { dst := some 11, op := _, type := _, pos := _, after := _, guard := _ }) (v := ?_) rfl (by kernel_rfl) (by kernel_rfl) (by kernel_rfl) (fun _ _ _ h => h) (Or.inl ⟨by rfl, ?_⟩) hHeld ?_
  rotate_left
  · (intro w hSw; (try dsimp only at hSw); go_simp); all_goals with_reducible rfl
  try simp only [Act.put, List.setIfInBounds_toArray, List.set_cons_zero, List.set_cons_succ]
  refine wpAnyH_take (i := 4) (oi := { dst := some 12, op := _, type := _, pos := _, after := _, guard := _ }) (v := ?_) rfl (by kernel_rfl) (by kernel_rfl) (by kernel_rfl) (fun _ _ _ h => h) (Or.inl ⟨by rfl, ?_⟩) hHeld ?_
  rotate_left
  · (intro w hSw; (try dsimp only at hSw); go_simp); all_goals with_reducible rfl
  try simp only [Act.put, List.setIfInBounds_toArray, List.set_cons_zero, List.set_cons_succ]
  refine wpAnyH_take (i := 5) (oi := { dst := some 13, op := _, type := _, pos := _, after := _, guard := _ }) (v := ?_) rfl (by kernel_rfl) (by kernel_rfl) (by kernel_rfl) (fun _ _ _ h => h) (Or.inl ⟨by rfl, ?_⟩) hHeld ?_
  rotate_left
  · (intro w hSw; (try dsimp only at hSw); go_simp); all_goals with_reducible rfl
  try simp only [Act.put, List.setIfInBounds_toArray, List.set_cons_zero, List.set_cons_succ]
  rw [hv.out]
  refine wpAnyH_ready (rs := [6]) (by kernel_rfl) (by simp) (AllReadyH.cons (o := _) rfl (fun K hK => ?_) AllReadyH.nil)
  go_simp
  refine (Inf_any _).mono ?_
  rintro e w2 ⟨rfl, rfl⟩
  refine hK.out _ _ ⟨kb_cell (kb_drew D0) 0, kb_cell (kb_drew D0) 1⟩ (fun hHeld => ?_)
  clear hK K
  refine wpAnyH_ready (rs := [7]) (by kernel_rfl) (by simp) (AllReadyH.cons (o := _) rfl (fun K hK => ?_) AllReadyH.nil)
  go_simp
  refine (rSmooth_any p infF _ (by decide)).mono ?_
  rintro e w3 ⟨r, rfl, c3, l3, b3⟩
  have C3 := Lib.hid c3
  clear c3
  have D2 := kb_below b3 (kb_drew D0)
  have D3 := kb_below b3 (kb_drew D1)
  refine hK.out _ _ ⟨kb_cell D2 0, kb_cell D2 1⟩ (fun hHeld => ?_)
  clear hK K
  refine wpAnyH_take (i := 8) (oi := { dst := some 16, op := _, type := _, pos := _, after := _, guard := _ }) (v := ?_) rfl (by kernel_rfl) (by kernel_rfl) (by kernel_rfl) (fun _ _ _ h => h) (Or.inl ⟨by rfl, ?_⟩) hHeld ?_
  rotate_left
  · (intro w hSw; (try dsimp only at hSw); go_simp); all_goals with_reducible rfl
  try simp only [Act.put, List.setIfInBounds_toArray, List.set_cons_zero, List.set_cons_succ]
  have k1 := kb_cell D3
  have z1 := kb_frozen D3
  refine wpAnyH_ready (rs := [9]) (by kernel_rfl) (by simp) (AllReadyH.cons (o := _) rfl (fun K hK => ?_) AllReadyH.nil)
  go_simp
  have D4 := fun u v => kb_far (p := ⟨w.heap.size + 1, 1, none⟩) (kb_far (p := ⟨w.heap.size + 1, 0, none⟩) D2 (by simp) u) (by simp) v
  refine hK.out _ _ ⟨kb_cell (D4 _ _) 0, kb_cell (D4 _ _) 1⟩ (fun hHeld => ?_)
  clear hK K
  refine wpAnyH_take (i := 10) (oi := { dst := some 3, op := _, type := _, pos := _, after := _, guard := _ }) (v := ?_) rfl (by kernel_rfl) (by kernel_rfl) (by kernel_rfl) (fun _ _ _ h => h) (Or.inl ⟨by rfl, ?_⟩) hHeld ?_
  rotate_left
  · (intro w hSw; (try dsimp only at hSw); go_simp); all_goals with_reducible rfl
  try simp only [Act.put, List.setIfInBounds_toArray, List.set_cons_zero, List.set_cons_succ]
  refine wpAnyH_done (by kernel_rfl) ?_ _
  go_wp2
  exact bodyPost_ret (v := .tuple #[.agg #[.int .i64 (upS s (-5)), .float .f64 r], .int .i64 0]) (by simp [results, Try.results63, go_sem, *]) rfl ⟨r, rfl, C3.out, l3, by (repeat (with_reducible (first | exact Below.refl _ _ | assumption | refine bl_alloc ?_ _ | refine bl_drew ?_ | refine bl_drewN ?_ _ | (refine bl_set ?_ ?_ _; (focus (first | (simp; done) | (simp; omega) | omega))) | refine bl_then ?_ (by assumption))))⟩

def badE (s : Int) : Int := if okS s then 0 else 3
theorem Bad_any (s : Int) (p : Nat) (w : World) : Calls Try.prog 22 #[.agg #[.int .i64 s, .float .f64 p]] w (RPost (badS s) (badP s p) (badE s) w) := by
  unfold badS badP badE
  cases h : okS s
  · exact (Bad_no s p w h).mono fun e w' ⟨he, hb⟩ => ⟨0, he, rfl, by decide, hb⟩
  · exact Bad_yes s p w h
theorem rBad_any (s : Int) (p : Nat) (w : World) : Calls Try.prog 63 #[.agg #[.int .i64 s, .float .f64 p]] w (RPost (badS s) (badP s p) (badE s) w) := by
  unfold badS badP badE
  cases h : okS s
  · exact (rBad_no s p w h).mono fun e w' ⟨he, hb⟩ => ⟨0, he, rfl, by decide, hb⟩
  · exact rBad_yes s p w h
end Go.Proofs.Ytlnhofpjeinadaa
