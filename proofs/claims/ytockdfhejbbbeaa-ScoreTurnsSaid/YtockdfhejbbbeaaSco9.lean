/- The walk of ScoreTurns. -/
import Derived.Test.YtockdfhejbbbeaaSco8
namespace Go.Proofs.Ytockdfhejbbbeaa
open Go.RowKit Go.Proofs.Ytockdfhejbbbeaa.Pc Go.Proofs.Ytockdfhejbbbeaa.Sy BigFrame
attribute [local go_sem] run_store_float

theorem u64_toNat {a : Int} (h : (Lit.int .u64 a).wf = true) : a.toNat < 18446744073709551616 := by
  have h1 : IntKind.u64.max = 18446744073709551615 := by decide
  simp [Lit.wf] at h
  omega

set_option maxRecDepth 100000 in
set_option maxHeartbeats 4000000 in
theorem ScoreTurns_walk (n b t : Int) (w : World) :
    Calls Try.prog 3 #[.int .i64 n, .int .u64 b, .int .i64 t] w fun e w' => e = .returned (.bool true) ∧ Below w.heap.size w w' := by
  go_enter Try.func3, Try.ntmps3
  go_wp2_with fail
  refine (of_any n b _).mono ?_
  rintro e w1 ⟨rfl, b1⟩
  generalize b.toNat = p at *
  have M1 := kb_new (w := w1) rfl (.cells #[.int .i64 n, .float .f64 p] 25)
  go_wp2_with fail
  refine (Good_any n p t _).mono ?_
  rintro e w2 ⟨r1, rfl, c1, _, b2⟩
  have C1 := Lib.hid c1
  clear c1
  have M2 := kb_below b2 M1
  have N2 := kb_new (w := w2) rfl (.cells #[.int .i64 (goodS n t), .float .f64 r1] 25)
  have M2' := kb_alloc M2 (.cells #[.int .i64 (goodS n t), .float .f64 r1] 25)
  have k2 := kb_cell M2'
  go_wp2_with fail
  refine (rGood_any n p t _).mono ?_
  rintro e w3 ⟨r2, rfl, c2, _, b3⟩
  have C2 := Lib.hid c2
  clear c2 k2
  have M3 := kb_below b3 M2'
  have N3 := kb_below b3 N2
  have O3 := kb_new (w := w3) rfl (.cells #[.int .i64 (goodS n t), .float .f64 r2] 25)
  have M3' := kb_alloc M3 (.cells #[.int .i64 (goodS n t), .float .f64 r2] 25)
  have N3' := kb_alloc N3 (.cells #[.int .i64 (goodS n t), .float .f64 r2] 25)
  have k3 := kb_cell M3'
  go_wp2_with fail
  refine (Bad_any n p _).mono ?_
  rintro e w4 ⟨r3, rfl, c3, _, b4⟩
  have C3 := Lib.hid c3
  clear c3 k3
  have M4 := kb_below b4 M3'
  have N4 := kb_below b4 N3'
  have O4 := kb_below b4 O3
  have P4 := kb_new (w := w4) rfl (.cells #[.int .i64 (badS n), .float .f64 r3] 25)
  have M4' := kb_alloc M4 (.cells #[.int .i64 (badS n), .float .f64 r3] 25)
  have N4' := kb_alloc N4 (.cells #[.int .i64 (badS n), .float .f64 r3] 25)
  have O4' := kb_alloc O4 (.cells #[.int .i64 (badS n), .float .f64 r3] 25)
  have k4 := kb_cell M4'
  go_wp2_with fail
  refine (rBad_any n p _).mono ?_
  rintro e w5 ⟨r4, rfl, c4, _, b5⟩
  have C4 := Lib.hid c4
  clear c4 k4
  have M5 := kb_alloc (kb_below b5 M4') (.cells #[.int .i64 (badS n), .float .f64 r4] 25)
  have N5 := kb_alloc (kb_below b5 N4') (.cells #[.int .i64 (badS n), .float .f64 r4] 25)
  have O5 := kb_alloc (kb_below b5 O4') (.cells #[.int .i64 (badS n), .float .f64 r4] 25)
  have P5 := kb_alloc (kb_below b5 P4) (.cells #[.int .i64 (badS n), .float .f64 r4] 25)
  have Q5 := kb_new (w := w5) rfl (.cells #[.int .i64 (badS n), .float .f64 r4] 25)
  go_wp2_with fail
  have B5 : Below w.heap.size w (w5.alloc (.cells #[.int .i64 (badS n), .float .f64 r4] 25)) := by (repeat (with_reducible (first | exact Below.refl _ _ | assumption | refine bl_alloc ?_ _ | refine bl_drew ?_ | refine bl_drewN ?_ _ | (refine bl_set ?_ ?_ _; (focus (first | (simp; done) | (simp; omega) | omega))) | refine bl_then ?_ (by assumption))))
  generalize w5.alloc (.cells #[.int .i64 (badS n), .float .f64 r4] 25) = w6 at *
  have m0 := kb_cell M5 0
  have m1 := kb_cell M5 1
  have n0 := kb_cell N5 0
  have n1 := kb_cell N5 1
  have o0 := kb_cell O5 0
  have o1 := kb_cell O5 1
  have p0 := kb_cell P5 0
  have p1 := kb_cell P5 1
  have q0 := kb_cell Q5 0
  have q1 := kb_cell Q5 1
  have lm := kb_lt M5
  have ln := kb_lt N5
  have lo := kb_lt O5
  have lp := kb_lt P5
  have lq := kb_lt Q5
  have d1 : (goodE n t == goodE n t) = true := by simp
  have d2 : (badE n == badE n) = true := by simp
  have d3 : (chkE n == chkE n) = true := by simp
  have S1 := Lib.hid (fun W => SameMerit_t (goodS n t) r1 r2 W (C1.out.trans C2.out.symm))
  have S2 := Lib.hid (fun W => SameMerit_t (badS n) r3 r4 W (C3.out.trans C4.out.symm))
  clear M1 M2 M2' M3 M3' M4 M4' N2 N3 N3' N4 N4' O3 O4 O4' P4 b1 b2 b3 b4 b5
  have S3 := Lib.hid (fun W => Check_any n p W)
  have S4 := Lib.hid (fun W => rCheck_any n p W)
  generalize goodS n t = gs at *
  generalize badS n = bs at *
  generalize goodE n t = ge at *
  generalize badE n = be at *
  generalize chkE n = ce at *
  clear m0 m1 n0 n1 o0 o1 p0 p1 q0 q1 lm ln lo lp lq
  refine wp_region_held_drew (S := (fun W : World => W.cell? ⟨w1.heap.size, 0, none⟩ = some (.int .i64 n) ∧ W.cell? ⟨w1.heap.size, 1, none⟩ = some (.float .f64 p) ∧ W.cell? ⟨w2.heap.size, 0, none⟩ = some (.int .i64 gs) ∧ W.cell? ⟨w2.heap.size, 1, none⟩ = some (.float .f64 r1) ∧ W.cell? ⟨w3.heap.size, 0, none⟩ = some (.int .i64 gs) ∧ W.cell? ⟨w3.heap.size, 1, none⟩ = some (.float .f64 r2) ∧ W.cell? ⟨w4.heap.size, 0, none⟩ = some (.int .i64 bs) ∧ W.cell? ⟨w4.heap.size, 1, none⟩ = some (.float .f64 r3) ∧ W.cell? ⟨w5.heap.size, 0, none⟩ = some (.int .i64 bs) ∧ W.cell? ⟨w5.heap.size, 1, none⟩ = some (.float .f64 r4))) (by kernel_rfl) ⟨kb_cell (kb_drew M5) 0, kb_cell (kb_drew M5) 1, kb_cell (kb_drew N5) 0, kb_cell (kb_drew N5) 1, kb_cell (kb_drew O5) 0, kb_cell (kb_drew O5) 1, kb_cell (kb_drew P5) 0, kb_cell (kb_drew P5) 1, kb_cell (kb_drew Q5) 0, kb_cell (kb_drew Q5) 1⟩ (fun hHeld => ?_)
  refine wpAnyH_take (i := 0) (oi := { dst := some 41, op := _, type := _, pos := _, after := _, guard := _ }) (v := ?_) rfl (by kernel_rfl) (by kernel_rfl) (by kernel_rfl) (fun _ _ _ h => h) (Or.inl ⟨by rfl, ?_⟩) hHeld ?_
  rotate_left
  · (intro w hSw; (try dsimp only at hSw); go_simp); all_goals with_reducible rfl
  try simp only [Act.put, List.setIfInBounds_toArray, List.set_cons_zero, List.set_cons_succ]
  refine wpAnyH_take (i := 1) (oi := { dst := some 42, op := _, type := _, pos := _, after := _, guard := _ }) (v := ?_) rfl (by kernel_rfl) (by kernel_rfl) (by kernel_rfl) (fun _ _ _ h => h) (Or.inl ⟨by rfl, ?_⟩) hHeld ?_
  rotate_left
  · (intro w hSw; (try dsimp only at hSw); go_simp); all_goals with_reducible rfl
  try simp only [Act.put, List.setIfInBounds_toArray, List.set_cons_zero, List.set_cons_succ]
  refine wpAnyH_ready (rs := [2]) (by kernel_rfl) (by simp) (AllReadyH.cons (o := _) rfl (fun K hK => ?_) AllReadyH.nil)
  go_simp
  refine (S1.out _).mono ?_
  rintro e w7 ⟨rfl, b7⟩
  have M7 := kb_below b7 (kb_drew M5)
  have N7 := kb_below b7 (kb_drew N5)
  have O7 := kb_below b7 (kb_drew O5)
  have P7 := kb_below b7 (kb_drew P5)
  have Q7 := kb_below b7 (kb_drew Q5)
  refine hK.out _ _ ⟨kb_cell M7 0, kb_cell M7 1, kb_cell N7 0, kb_cell N7 1, kb_cell O7 0, kb_cell O7 1, kb_cell P7 0, kb_cell P7 1, kb_cell Q7 0, kb_cell Q7 1⟩ (fun hHeld => ?_)
  clear hK K
  refine wpAnyH_take (i := 3) (oi := { dst := some 44, op := _, type := _, pos := _, after := _, guard := _ }) (v := ?_) rfl (by kernel_rfl) (by kernel_rfl) (by kernel_rfl) (fun _ _ _ h => h) (Or.inl ⟨by rfl, ?_⟩) hHeld ?_
  rotate_left
  · (intro w hSw; (try dsimp only at hSw); go_simp); all_goals with_reducible rfl
  try simp only [Act.put, List.setIfInBounds_toArray, List.set_cons_zero, List.set_cons_succ]
  refine wpAnyH_take (i := 4) (oi := { dst := some 45, op := _, type := _, pos := _, after := _, guard := _ }) (v := ?_) rfl (by kernel_rfl) (by kernel_rfl) (by kernel_rfl) (fun _ _ _ h => h) (Or.inl ⟨by rfl, ?_⟩) hHeld ?_
  rotate_left
  · (intro w hSw; (try dsimp only at hSw); go_simp); all_goals with_reducible rfl
  try simp only [Act.put, List.setIfInBounds_toArray, List.set_cons_zero, List.set_cons_succ]
  refine wpAnyH_take (i := 5) (oi := { dst := some 46, op := _, type := _, pos := _, after := _, guard := _ }) (v := ?_) rfl (by kernel_rfl) (by kernel_rfl) (by kernel_rfl) (fun _ _ _ h => h) (Or.inl ⟨by rfl, ?_⟩) hHeld ?_
  rotate_left
  · (intro w hSw; (try dsimp only at hSw); go_simp); all_goals with_reducible rfl
  try simp only [Act.put, List.setIfInBounds_toArray, List.set_cons_zero, List.set_cons_succ]
  refine wpAnyH_take (i := 6) (oi := { dst := some 47, op := _, type := _, pos := _, after := _, guard := _ }) (v := ?_) rfl (by kernel_rfl) (by kernel_rfl) (by kernel_rfl) (fun _ _ _ h => h) (Or.inl ⟨by rfl, ?_⟩) hHeld ?_
  rotate_left
  · (intro w hSw; (try dsimp only at hSw); go_simp); all_goals with_reducible rfl
  try simp only [Act.put, List.setIfInBounds_toArray, List.set_cons_zero, List.set_cons_succ]
  refine wpAnyH_take (i := 7) (oi := { dst := some 48, op := _, type := _, pos := _, after := _, guard := _ }) (v := ?_) rfl (by kernel_rfl) (by kernel_rfl) (by kernel_rfl) (fun _ _ _ h => h) (Or.inl ⟨by rfl, ?_⟩) hHeld ?_
  rotate_left
  · (intro w hSw; (try dsimp only at hSw); go_simp); all_goals with_reducible rfl
  try simp only [Act.put, List.setIfInBounds_toArray, List.set_cons_zero, List.set_cons_succ]
  refine wpAnyH_take (i := 8) (oi := { dst := some 49, op := _, type := _, pos := _, after := _, guard := _ }) (v := ?_) rfl (by kernel_rfl) (by kernel_rfl) (by kernel_rfl) (fun _ _ _ h => h) (Or.inl ⟨by rfl, ?_⟩) hHeld ?_
  rotate_left
  · (intro w hSw; (try dsimp only at hSw); go_simp); all_goals with_reducible rfl
  try simp only [Act.put, List.setIfInBounds_toArray, List.set_cons_zero, List.set_cons_succ]
  refine wpAnyH_take (i := 9) (oi := { dst := some 50, op := _, type := _, pos := _, after := _, guard := _ }) (v := ?_) rfl (by kernel_rfl) (by kernel_rfl) (by kernel_rfl) (fun _ _ _ h => h) (Or.inl ⟨by rfl, ?_⟩) hHeld ?_
  rotate_left
  · (intro w hSw; (try dsimp only at hSw); go_simp); all_goals with_reducible rfl
  try simp only [Act.put, List.setIfInBounds_toArray, List.set_cons_zero, List.set_cons_succ]
  refine wpAnyH_take (i := 10) (oi := { dst := some 51, op := _, type := _, pos := _, after := _, guard := _ }) (v := ?_) rfl (by kernel_rfl) (by kernel_rfl) (by kernel_rfl) (fun _ _ _ h => h) (Or.inl ⟨by rfl, ?_⟩) hHeld ?_
  rotate_left
  · (intro w hSw; (try dsimp only at hSw); go_simp); all_goals with_reducible rfl
  try simp only [Act.put, List.setIfInBounds_toArray, List.set_cons_zero, List.set_cons_succ]
  refine wpAnyH_ready (rs := [11]) (by kernel_rfl) (by simp) (AllReadyH.cons (o := _) rfl (fun K hK => ?_) AllReadyH.nil)
  go_simp
  refine (S2.out _).mono ?_
  rintro e w8 ⟨rfl, b8⟩
  have M8 := kb_below b8 M7
  have N8 := kb_below b8 N7
  have O8 := kb_below b8 O7
  have P8 := kb_below b8 P7
  have Q8 := kb_below b8 Q7
  refine hK.out _ _ ⟨kb_cell M8 0, kb_cell M8 1, kb_cell N8 0, kb_cell N8 1, kb_cell O8 0, kb_cell O8 1, kb_cell P8 0, kb_cell P8 1, kb_cell Q8 0, kb_cell Q8 1⟩ (fun hHeld => ?_)
  clear hK K
  refine wpAnyH_take (i := 12) (oi := { dst := some 53, op := _, type := _, pos := _, after := _, guard := _ }) (v := ?_) rfl (by kernel_rfl) (by kernel_rfl) (by kernel_rfl) (fun _ _ _ h => h) (Or.inl ⟨by rfl, ?_⟩) hHeld ?_
  rotate_left
  · (intro w hSw; (try dsimp only at hSw); go_simp); all_goals with_reducible rfl
  try simp only [Act.put, List.setIfInBounds_toArray, List.set_cons_zero, List.set_cons_succ]
  refine wpAnyH_take (i := 13) (oi := { dst := some 54, op := _, type := _, pos := _, after := _, guard := _ }) (v := ?_) rfl (by kernel_rfl) (by kernel_rfl) (by kernel_rfl) (fun _ _ _ h => h) (Or.inl ⟨by rfl, ?_⟩) hHeld ?_
  rotate_left
  · (intro w hSw; (try dsimp only at hSw); go_simp); all_goals with_reducible rfl
  try simp only [Act.put, List.setIfInBounds_toArray, List.set_cons_zero, List.set_cons_succ]
  refine wpAnyH_take (i := 14) (oi := { dst := some 55, op := _, type := _, pos := _, after := _, guard := _ }) (v := ?_) rfl (by kernel_rfl) (by kernel_rfl) (by kernel_rfl) (fun _ _ _ h => h) (Or.inl ⟨by rfl, ?_⟩) hHeld ?_
  rotate_left
  · (intro w hSw; (try dsimp only at hSw); go_simp); all_goals with_reducible rfl
  try simp only [Act.put, List.setIfInBounds_toArray, List.set_cons_zero, List.set_cons_succ]
  refine wpAnyH_take (i := 15) (oi := { dst := some 56, op := _, type := _, pos := _, after := _, guard := _ }) (v := ?_) rfl (by kernel_rfl) (by kernel_rfl) (by kernel_rfl) (fun _ _ _ h => h) (Or.inl ⟨by rfl, ?_⟩) hHeld ?_
  rotate_left
  · (intro w hSw; (try dsimp only at hSw); go_simp); all_goals with_reducible rfl
  try simp only [Act.put, List.setIfInBounds_toArray, List.set_cons_zero, List.set_cons_succ]
  refine wpAnyH_take (i := 16) (oi := { dst := some 57, op := _, type := _, pos := _, after := _, guard := _ }) (v := ?_) rfl (by kernel_rfl) (by kernel_rfl) (by kernel_rfl) (fun _ _ _ h => h) (Or.inl ⟨by rfl, ?_⟩) hHeld ?_
  rotate_left
  · (intro w hSw; (try dsimp only at hSw); go_simp); all_goals with_reducible rfl
  try simp only [Act.put, List.setIfInBounds_toArray, List.set_cons_zero, List.set_cons_succ]
  refine wpAnyH_take (i := 17) (oi := { dst := some 58, op := _, type := _, pos := _, after := _, guard := _ }) (v := ?_) rfl (by kernel_rfl) (by kernel_rfl) (by kernel_rfl) (fun _ _ _ h => h) (Or.inl ⟨by rfl, ?_⟩) hHeld ?_
  rotate_left
  · (intro w hSw; (try dsimp only at hSw); go_simp); all_goals with_reducible rfl
  try simp only [Act.put, List.setIfInBounds_toArray, List.set_cons_zero, List.set_cons_succ]
  refine wpAnyH_take (i := 18) (oi := { dst := some 59, op := _, type := _, pos := _, after := _, guard := _ }) (v := ?_) rfl (by kernel_rfl) (by kernel_rfl) (by kernel_rfl) (fun _ _ _ h => h) (Or.inl ⟨by rfl, ?_⟩) hHeld ?_
  rotate_left
  · (intro w hSw; (try dsimp only at hSw); go_simp); all_goals with_reducible rfl
  try simp only [Act.put, List.setIfInBounds_toArray, List.set_cons_zero, List.set_cons_succ]
  refine wpAnyH_take (i := 19) (oi := { dst := some 60, op := _, type := _, pos := _, after := _, guard := _ }) (v := ?_) rfl (by kernel_rfl) (by kernel_rfl) (by kernel_rfl) (fun _ _ _ h => h) (Or.inl ⟨by rfl, ?_⟩) hHeld ?_
  rotate_left
  · (intro w hSw; (try dsimp only at hSw); go_simp); all_goals with_reducible rfl
  try simp only [Act.put, List.setIfInBounds_toArray, List.set_cons_zero, List.set_cons_succ]
  refine wpAnyH_take (i := 21) (oi := { dst := some 62, op := _, type := _, pos := _, after := _, guard := _ }) (v := ?_) rfl (by kernel_rfl) (by kernel_rfl) (by kernel_rfl) (fun _ _ _ h => h) (Or.inl ⟨by rfl, ?_⟩) hHeld ?_
  rotate_left
  · (intro w hSw; (try dsimp only at hSw); go_simp); all_goals with_reducible rfl
  try simp only [Act.put, List.setIfInBounds_toArray, List.set_cons_zero, List.set_cons_succ]
  refine wpAnyH_ready (rs := [20]) (by kernel_rfl) (by simp) (AllReadyH.cons (o := _) rfl (fun K hK => ?_) AllReadyH.nil)
  go_simp
  refine (S3.out _).mono ?_
  rintro e w9 ⟨rfl, b9⟩
  have M9 := kb_below b9 M8
  have N9 := kb_below b9 N8
  have O9 := kb_below b9 O8
  have P9 := kb_below b9 P8
  have Q9 := kb_below b9 Q8
  refine hK.out _ _ ⟨kb_cell M9 0, kb_cell M9 1, kb_cell N9 0, kb_cell N9 1, kb_cell O9 0, kb_cell O9 1, kb_cell P9 0, kb_cell P9 1, kb_cell Q9 0, kb_cell Q9 1⟩ (fun hHeld => ?_)
  clear hK K
  refine wpAnyH_ready (rs := [22]) (by kernel_rfl) (by simp) (AllReadyH.cons (o := _) rfl (fun K hK => ?_) AllReadyH.nil)
  go_simp
  refine (S4.out _).mono ?_
  rintro e w10 ⟨rfl, b10⟩
  have M10 := kb_below b10 M9
  have N10 := kb_below b10 N9
  have O10 := kb_below b10 O9
  have P10 := kb_below b10 P9
  have Q10 := kb_below b10 Q9
  refine hK.out _ _ ⟨kb_cell M10 0, kb_cell M10 1, kb_cell N10 0, kb_cell N10 1, kb_cell O10 0, kb_cell O10 1, kb_cell P10 0, kb_cell P10 1, kb_cell Q10 0, kb_cell Q10 1⟩ (fun hHeld => ?_)
  clear hK K
  refine wpAnyH_take (i := 23) (oi := { dst := some 64, op := _, type := _, pos := _, after := _, guard := _ }) (v := ?_) rfl (by kernel_rfl) (by kernel_rfl) (by kernel_rfl) (fun _ _ _ h => h) (Or.inl ⟨by rfl, ?_⟩) hHeld ?_
  rotate_left
  · (intro w hSw; (try dsimp only at hSw); go_simp); all_goals with_reducible rfl
  try simp only [Act.put, List.setIfInBounds_toArray, List.set_cons_zero, List.set_cons_succ]
  refine wpAnyH_take (i := 24) (oi := { dst := some 65, op := _, type := _, pos := _, after := _, guard := _ }) (v := ?_) rfl (by kernel_rfl) (by kernel_rfl) (by kernel_rfl) (fun _ _ _ h => h) (Or.inl ⟨by rfl, ?_⟩) hHeld ?_
  rotate_left
  · (intro w hSw; (try dsimp only at hSw); go_simp); all_goals with_reducible rfl
  try simp only [Act.put, List.setIfInBounds_toArray, List.set_cons_zero, List.set_cons_succ]
  refine wpAnyH_take (i := 25) (oi := { dst := some 66, op := _, type := _, pos := _, after := _, guard := _ }) (v := ?_) rfl (by kernel_rfl) (by kernel_rfl) (by kernel_rfl) (fun _ _ _ h => h) (Or.inl ⟨by rfl, ?_⟩) hHeld ?_
  rotate_left
  · (intro w hSw; (try dsimp only at hSw); go_simp); all_goals with_reducible rfl
  try simp only [Act.put, List.setIfInBounds_toArray, List.set_cons_zero, List.set_cons_succ]
  refine wpAnyH_ready (rs := [26]) (by kernel_rfl) (by simp) (AllReadyH.cons (o := _) rfl (fun K hK => ?_) AllReadyH.nil)
  go_simp
  refine (awake_any _).mono ?_
  rintro e w11 ⟨rfl, b11⟩
  have M11 := kb_below b11 M10
  have N11 := kb_below b11 N10
  have O11 := kb_below b11 O10
  have P11 := kb_below b11 P10
  have Q11 := kb_below b11 Q10
  refine hK.out _ _ ⟨kb_cell M11 0, kb_cell M11 1, kb_cell N11 0, kb_cell N11 1, kb_cell O11 0, kb_cell O11 1, kb_cell P11 0, kb_cell P11 1, kb_cell Q11 0, kb_cell Q11 1⟩ (fun hHeld => ?_)
  clear hK K
  refine wpAnyH_take (i := 27) (oi := { dst := some 68, op := _, type := _, pos := _, after := _, guard := _ }) (v := ?_) rfl (by kernel_rfl) (by kernel_rfl) (by kernel_rfl) (fun _ _ _ h => h) (Or.inl ⟨by rfl, ?_⟩) hHeld ?_
  rotate_left
  · (intro w hSw; (try dsimp only at hSw); go_simp); all_goals with_reducible rfl
  try simp only [Act.put, List.setIfInBounds_toArray, List.set_cons_zero, List.set_cons_succ]
  refine wpAnyH_take (i := 28) (oi := { dst := some 6, op := _, type := _, pos := _, after := _, guard := _ }) (v := ?_) rfl (by kernel_rfl) (by kernel_rfl) (by kernel_rfl) (fun _ _ _ h => h) (Or.inl ⟨by rfl, ?_⟩) hHeld ?_
  rotate_left
  · (intro w hSw; (try dsimp only at hSw); go_simp); all_goals with_reducible rfl
  try simp only [Act.put, List.setIfInBounds_toArray, List.set_cons_zero, List.set_cons_succ]
  refine wpAnyH_done (by kernel_rfl) ?_ _
  go_wp2
  go_ret
  exact ⟨rfl, by (repeat (with_reducible (first | exact Below.refl _ _ | assumption | refine bl_alloc ?_ _ | refine bl_drew ?_ | refine bl_drewN ?_ _ | (refine bl_set ?_ ?_ _; (focus (first | (simp; done) | (simp; omega) | omega))) | refine bl_then ?_ (by assumption))))⟩
end Go.Proofs.Ytockdfhejbbbeaa
