/- The walk of ScoreKnown. -/
import Derived.Test.YtockdfhejbbbeaaSco8
import Derived.Test.YtockdfhejbbbeaaSame
namespace Go.Proofs.Ytockdfhejbbbeaa
open Go.RowKit Go.Proofs.Ytockdfhejbbbeaa.Pc Go.Proofs.Ytockdfhejbbbeaa.Sy BigFrame
attribute [local go_sem] run_store_float
set_option linter.unusedSimpArgs false
set_option linter.unusedVariables false

theorem Good_e (s : Int) (p : Nat) (t : Int) (n : Int) (v : Nat) (er : Int) (w : World) (h1 : goodS s t = n) (h2 : canon (goodP s p t) = v) (h3 : goodE s t = er) (h4 : nanB v = false) :
    Calls Try.prog 10 #[.agg #[.int .i64 s, .float .f64 p], .int .i64 t] w fun e w' => e = .returned (.tuple #[.agg #[.int .i64 n, .float .f64 v], .int .i64 er]) ∧ Below w.heap.size w w' :=
  (Good_any s p t w).mono fun e w' h => by
    rw [h1, h3] at h
    exact h.exact h2 h4
theorem k_nan (w : World) : Calls Try.prog 10 #[.agg #[.int .i64 (-3), .float .f64 9218868437227405312], .int .i64 4] w (RPost (-2) theNaN 0 w) :=
  (Good_any _ _ _ w).mono fun e w' ⟨r, h1, h2, h3, h4⟩ => by
    rw [show goodS (-3) 4 = -2 by decide +kernel, show goodE (-3) 4 = 0 by decide +kernel] at h1
    exact ⟨r, h1, h2.trans (by decide +kernel), h3, h4⟩
theorem k_mend (r : Nat) (w : World) (h : canon r = canon theNaN) : Calls Try.prog 10 #[.agg #[.int .i64 (-2), .float .f64 r], .int .i64 4] w fun e w' => e = .returned (.tuple #[.agg #[.int .i64 (-1), .float .f64 4616189618054758400], .int .i64 0]) ∧ Below w.heap.size w w' :=
  Good_e _ _ _ _ _ _ w (by decide +kernel) (by
    have e : goodP (-2) r 4 = smoothF r (tickF 4) := by unfold goodP; rw [if_pos (by decide +kernel)]
    rw [e, smoothF_canon h rfl]
    decide +kernel) (by decide +kernel) (by decide +kernel)
theorem k_g3 (w : World) : Calls Try.prog 10 #[.agg #[.int .i64 1000, .float .f64 4607182418800017408], .int .i64 1] w fun e w' => e = .returned (.tuple #[.agg #[.int .i64 1000, .float .f64 4607182418800017408], .int .i64 0]) ∧ Below w.heap.size w w' := Good_e _ _ _ _ _ _ w (by decide +kernel) (by decide +kernel) (by decide +kernel) (by decide +kernel)
theorem k_g4 (w : World) : Calls Try.prog 10 #[.agg #[.int .i64 1001, .float .f64 4607182418800017408], .int .i64 1] w fun e w' => e = .returned (.tuple #[.agg #[.int .i64 0, .float .f64 0], .int .i64 3]) ∧ Below w.heap.size w w' := Good_e _ _ _ _ _ _ w (by decide +kernel) (by decide +kernel) (by decide +kernel) (by decide +kernel)
theorem k_g5 (w : World) : Calls Try.prog 10 #[.agg #[.int .i64 0, .float .f64 4607182418800017408], .int .i64 (-1)] w fun e w' => e = .returned (.tuple #[.agg #[.int .i64 0, .float .f64 0], .int .i64 3]) ∧ Below w.heap.size w w' := Good_e _ _ _ _ _ _ w (by decide +kernel) (by decide +kernel) (by decide +kernel) (by decide +kernel)
theorem k_b2 (w : World) : Calls Try.prog 12 #[.agg #[.int .i64 (-998), .float .f64 4607182418800017408]] w fun e w' => e = .returned (.tuple #[.agg #[.int .i64 (-1000), .float .f64 9218868437227405312], .int .i64 0]) ∧ Below w.heap.size w w' := Bad_t _ _ _ _ w (by decide +kernel) (by decide +kernel) (by decide +kernel) (by decide +kernel)
theorem k_t1 (w : World) : Calls Try.prog 25 #[.agg #[.int .i64 1, .float .f64 4621256167635550208], .agg #[.int .i64 0, .float .f64 4607182418800017408]] w fun e w' => e = .returned (.bool true) ∧ Below w.heap.size w w' := (show betM 1 4621256167635550208 0 4607182418800017408 = true by decide +kernel) ▸ Better_any _ _ _ _ w (by decide) (by decide)
theorem k_t2 (w : World) : Calls Try.prog 25 #[.agg #[.int .i64 0, .float .f64 4607182418800017408], .agg #[.int .i64 0, .float .f64 4621256167635550208]] w fun e w' => e = .returned (.bool true) ∧ Below w.heap.size w w' := (show betM 0 4607182418800017408 0 4621256167635550208 = true by decide +kernel) ▸ Better_any _ _ _ _ w (by decide) (by decide)
theorem k_t3 (w : World) : Calls Try.prog 25 #[.agg #[.int .i64 0, .float .f64 9223372036854775808], .agg #[.int .i64 0, .float .f64 0]] w fun e w' => e = .returned (.bool true) ∧ Below w.heap.size w w' := (show betM 0 9223372036854775808 0 0 = true by decide +kernel) ▸ Better_any _ _ _ _ w (by decide) (by decide)
theorem k_t4 (w : World) : Calls Try.prog 25 #[.agg #[.int .i64 0, .float .f64 4621256167635550208], .agg #[.int .i64 0, .float .f64 9221120237041090561]] w fun e w' => e = .returned (.bool true) ∧ Below w.heap.size w w' := (show betM 0 4621256167635550208 0 9221120237041090561 = true by decide +kernel) ▸ Better_any _ _ _ _ w (by decide) (by decide)
def ms4 : List Mr := [⟨0, 4621256167635550208⟩, ⟨1, 4621256167635550208⟩, ⟨1, 4620693217682128896⟩, ⟨1, 4620693217682128896⟩]
theorem ms4_fit : Fit ms4 := by
  intro m hm
  simp [ms4] at hm
  rcases hm with rfl | rfl | rfl <;> decide
theorem ms4_best : bestR ms4 2 := .inr ⟨2, by decide, rfl, by decide +kernel⟩
theorem ms4_srt : Srt (ltM ms4) [2, 3, 1, 0] := by
  unfold Srt
  decide +kernel
theorem ms4_perm : [2, 3, 1, 0].Perm (List.range ms4.length) := by decide
theorem SameIvs_any {w : World} {v1 v2 : Value} {M N : List Nat} (R1 : RowOf w v1 M.length (ivs M)) (R2 : RowOf w v2 N.length (ivs N)) (h1 : M.length ≤ 1000) (h2 : N.length ≤ 1000) :
    Calls Try.prog 21 #[v1, v2] w fun e w' => e = .returned (.bool (M == N)) ∧ Below w.heap.size w w' := by
  have e : ∀ L : List Nat, ivs L = intVs (L.map fun i : Nat => (i : Int)) := fun L => by simp [ivs, intVs]
  have R1' : RowOf w v1 (M.map fun i : Nat => (i : Int)).length (intVs (M.map fun i : Nat => (i : Int))) := by rw [← e, List.length_map]; exact R1
  have R2' : RowOf w v2 (N.map fun i : Nat => (i : Int)).length (intVs (N.map fun i : Nat => (i : Int))) := by rw [← e, List.length_map]; exact R2
  have hb : ((M.map fun i : Nat => (i : Int)) == (N.map fun i : Nat => (i : Int))) = (M == N) := by
    rw [Bool.eq_iff_iff, beq_iff_eq, beq_iff_eq]
    exact ⟨fun h => (List.map_inj_right (fun a b h => by omega)).1 h, fun h => by rw [h]⟩
  rw [← hb]
  exact SameInts_any R1' R2' (by rw [List.length_map]; omega) (by rw [List.length_map]; omega)

set_option maxRecDepth 100000 in
set_option maxHeartbeats 4000000 in
theorem ScoreKnown_any (w : World) : Calls Try.prog 5 #[] w fun e w' => e = .returned (.bool true) ∧ Below w.heap.size w w' := by
  go_enter Try.func5, Try.ntmps5
  go_wp2_with (first | (go_at_call 27; (with_reducible refine (NaN_any _).mono ?_); rintro e w1 ⟨rfl, rfl⟩) | (go_at_call 28; (with_reducible refine (Inf_any _).mono ?_); rintro e w1 ⟨rfl, rfl⟩))
  refine (k_nan _).mono ?_
  rintro e w1 ⟨r, rfl, cr, _, b1⟩
  have CR := Lib.hid cr
  clear cr
  go_wp2_with fail
  refine (k_mend r _ CR.out).mono ?_
  rintro e w2 ⟨rfl, b2⟩
  have A2 := kb_below b2 (kb_new (w := w1) rfl (.cells #[.int .i64 (-2), .float .f64 r] 25))
  go_wp2_with fail
  refine (k_g3 _).mono ?_
  rintro e w3 ⟨rfl, b3⟩
  have A3 := kb_below b3 (kb_alloc A2 (.cells #[.int .i64 (-1), .float .f64 4616189618054758400] 25))
  have B3 := kb_below b3 (kb_new (w := w2) rfl (.cells #[.int .i64 (-1), .float .f64 4616189618054758400] 25))
  go_wp2_with fail
  refine (k_b2 _).mono ?_
  rintro e w4 ⟨rfl, b4⟩
  have A4 := kb_below b4 (kb_alloc A3 (.cells #[.int .i64 1000, .float .f64 4607182418800017408] 25))
  have B4 := kb_below b4 (kb_alloc B3 (.cells #[.int .i64 1000, .float .f64 4607182418800017408] 25))
  have C4 := kb_below b4 (kb_new (w := w3) rfl (.cells #[.int .i64 1000, .float .f64 4607182418800017408] 25))
  go_wp2_with fail
  refine (k_g4 _).mono ?_
  rintro e w5 ⟨rfl, b5⟩
  have A5 := kb_below b5 (kb_alloc A4 (.cells #[.int .i64 (-1000), .float .f64 9218868437227405312] 25))
  have B5 := kb_below b5 (kb_alloc B4 (.cells #[.int .i64 (-1000), .float .f64 9218868437227405312] 25))
  have C5 := kb_below b5 (kb_alloc C4 (.cells #[.int .i64 (-1000), .float .f64 9218868437227405312] 25))
  have D5 := kb_below b5 (kb_new (w := w4) rfl (.cells #[.int .i64 (-1000), .float .f64 9218868437227405312] 25))
  go_wp2_with fail
  refine (k_g5 _).mono ?_
  rintro e w6 ⟨rfl, b6⟩
  have A6 := kb_alloc (kb_below b6 (kb_alloc A5 (.cells #[.int .i64 0, .float .f64 0] 25))) (.cells #[.int .i64 0, .float .f64 0] 25)
  have B6 := kb_alloc (kb_below b6 (kb_alloc B5 (.cells #[.int .i64 0, .float .f64 0] 25))) (.cells #[.int .i64 0, .float .f64 0] 25)
  have C6 := kb_alloc (kb_below b6 (kb_alloc C5 (.cells #[.int .i64 0, .float .f64 0] 25))) (.cells #[.int .i64 0, .float .f64 0] 25)
  have D6 := kb_alloc (kb_below b6 (kb_alloc D5 (.cells #[.int .i64 0, .float .f64 0] 25))) (.cells #[.int .i64 0, .float .f64 0] 25)
  go_wp2_with fail
  have BB : Below w.heap.size w (w6.alloc (.cells #[.int .i64 0, .float .f64 0] 25)) := by (repeat (with_reducible (first | exact Below.refl _ _ | assumption | refine bl_alloc ?_ _ | refine bl_drew ?_ | refine bl_drewN ?_ _ | (refine bl_set ?_ ?_ _; (focus (first | (simp; done) | (simp; omega) | omega))) | refine bl_then ?_ (by assumption))))
  obtain ⟨w7, hw7⟩ : ∃ w7 : World, w7 = w6.alloc (.cells #[.int .i64 0, .float .f64 0] 25) := ⟨_, rfl⟩
  rw [← hw7] at A6 B6 C6 D6 BB ⊢
  clear hw7 b1 b2 b3 b4 b5 b6 A2 A3 A4 A5 B3 B4 B5 C4 C5 D5
  refine wp_region_held_drew (S := (fun W : World => W.cell? ⟨w1.heap.size, 0, none⟩ = some (.int .i64 (-2)) ∧ W.cell? ⟨w1.heap.size, 1, none⟩ = some (.float .f64 r) ∧ W.cell? ⟨w2.heap.size, 0, none⟩ = some (.int .i64 (-1)) ∧ W.cell? ⟨w2.heap.size, 1, none⟩ = some (.float .f64 4616189618054758400) ∧ W.cell? ⟨w3.heap.size, 0, none⟩ = some (.int .i64 1000) ∧ W.cell? ⟨w3.heap.size, 1, none⟩ = some (.float .f64 4607182418800017408) ∧ W.cell? ⟨w4.heap.size, 0, none⟩ = some (.int .i64 (-1000)) ∧ W.cell? ⟨w4.heap.size, 1, none⟩ = some (.float .f64 9218868437227405312))) (by kernel_rfl) ⟨kb_cell (kb_drew A6) 0, kb_cell (kb_drew A6) 1, kb_cell (kb_drew B6) 0, kb_cell (kb_drew B6) 1, kb_cell (kb_drew C6) 0, kb_cell (kb_drew C6) 1, kb_cell (kb_drew D6) 0, kb_cell (kb_drew D6) 1⟩ (fun hHeld => ?_)
  refine wpAnyH_take (i := 0) (oi := { dst := some 49, op := _, type := _, pos := _, after := _, guard := _ }) (v := ?_) rfl (by kernel_rfl) (by kernel_rfl) (by kernel_rfl) (fun _ _ _ h => h) (Or.inl ⟨by rfl, ?_⟩) hHeld ?_
  rotate_left
  · (intro w hSw; (try dsimp only at hSw); go_simp); all_goals with_reducible rfl
  try simp only [Act.put, List.setIfInBounds_toArray, List.set_cons_zero, List.set_cons_succ]
  refine wpAnyH_take (i := 1) (oi := { dst := some 50, op := _, type := _, pos := _, after := _, guard := _ }) (v := ?_) rfl (by kernel_rfl) (by kernel_rfl) (by kernel_rfl) (fun _ _ _ h => h) (Or.inl ⟨by rfl, ?_⟩) hHeld ?_
  rotate_left
  · (intro w hSw; (try dsimp only at hSw); go_simp); all_goals with_reducible rfl
  try simp only [Act.put, List.setIfInBounds_toArray, List.set_cons_zero, List.set_cons_succ]
  refine wpAnyH_take (i := 2) (oi := { dst := some 51, op := _, type := _, pos := _, after := _, guard := _ }) (v := ?_) rfl (by kernel_rfl) (by kernel_rfl) (by kernel_rfl) (fun _ _ _ h => h) (Or.inl ⟨by rfl, ?_⟩) hHeld ?_
  rotate_left
  · (intro w hSw; (try dsimp only at hSw); go_simp); all_goals with_reducible rfl
  try simp only [Act.put, List.setIfInBounds_toArray, List.set_cons_zero, List.set_cons_succ]
  refine wpAnyH_ready (rs := [3]) (by kernel_rfl) (by simp) (AllReadyH.cons (o := _) rfl (fun K hK => ?_) AllReadyH.nil)
  go_simp
  refine (is_t (-2) r 9221120237041090561 _ (CR.out.trans (by decide +kernel))).mono ?_
  rintro e w8 ⟨rfl, b8⟩
  have A8 := kb_below b8 (kb_drew A6)
  have B8 := kb_below b8 (kb_drew B6)
  have C8 := kb_below b8 (kb_drew C6)
  have D8 := kb_below b8 (kb_drew D6)
  refine hK.out _ _ ⟨kb_cell A8 0, kb_cell A8 1, kb_cell B8 0, kb_cell B8 1, kb_cell C8 0, kb_cell C8 1, kb_cell D8 0, kb_cell D8 1⟩ (fun hHeld => ?_)
  clear hK K
  refine wpAnyH_take (i := 4) (oi := { dst := some 53, op := _, type := _, pos := _, after := _, guard := _ }) (v := ?_) rfl (by kernel_rfl) (by kernel_rfl) (by kernel_rfl) (fun _ _ _ h => h) (Or.inl ⟨by rfl, ?_⟩) hHeld ?_
  rotate_left
  · (intro w hSw; (try dsimp only at hSw); go_simp); all_goals with_reducible rfl
  try simp only [Act.put, List.setIfInBounds_toArray, List.set_cons_zero, List.set_cons_succ]
  refine wpAnyH_take (i := 5) (oi := { dst := some 54, op := _, type := _, pos := _, after := _, guard := _ }) (v := ?_) rfl (by kernel_rfl) (by kernel_rfl) (by kernel_rfl) (fun _ _ _ h => h) (Or.inl ⟨by rfl, ?_⟩) hHeld ?_
  rotate_left
  · (intro w hSw; (try dsimp only at hSw); go_simp); all_goals with_reducible rfl
  try simp only [Act.put, List.setIfInBounds_toArray, List.set_cons_zero, List.set_cons_succ]
  refine wpAnyH_take (i := 6) (oi := { dst := some 55, op := _, type := _, pos := _, after := _, guard := _ }) (v := ?_) rfl (by kernel_rfl) (by kernel_rfl) (by kernel_rfl) (fun _ _ _ h => h) (Or.inl ⟨by rfl, ?_⟩) hHeld ?_
  rotate_left
  · (intro w hSw; (try dsimp only at hSw); go_simp); all_goals with_reducible rfl
  try simp only [Act.put, List.setIfInBounds_toArray, List.set_cons_zero, List.set_cons_succ]
  refine wpAnyH_ready (rs := [7]) (by kernel_rfl) (by simp) (AllReadyH.cons (o := _) rfl (fun K hK => ?_) AllReadyH.nil)
  go_simp
  refine (is_t (-1) 4616189618054758400 4616189618054758400 _ rfl).mono ?_
  rintro e w9 ⟨rfl, b9⟩
  have A9 := kb_below b9 A8
  have B9 := kb_below b9 B8
  have C9 := kb_below b9 C8
  have D9 := kb_below b9 D8
  refine hK.out _ _ ⟨kb_cell A9 0, kb_cell A9 1, kb_cell B9 0, kb_cell B9 1, kb_cell C9 0, kb_cell C9 1, kb_cell D9 0, kb_cell D9 1⟩ (fun hHeld => ?_)
  clear hK K
  refine wpAnyH_take (i := 8) (oi := { dst := some 57, op := _, type := _, pos := _, after := _, guard := _ }) (v := ?_) rfl (by kernel_rfl) (by kernel_rfl) (by kernel_rfl) (fun _ _ _ h => h) (Or.inl ⟨by rfl, ?_⟩) hHeld ?_
  rotate_left
  · (intro w hSw; (try dsimp only at hSw); go_simp); all_goals with_reducible rfl
  try simp only [Act.put, List.setIfInBounds_toArray, List.set_cons_zero, List.set_cons_succ]
  refine wpAnyH_take (i := 9) (oi := { dst := some 58, op := _, type := _, pos := _, after := _, guard := _ }) (v := ?_) rfl (by kernel_rfl) (by kernel_rfl) (by kernel_rfl) (fun _ _ _ h => h) (Or.inl ⟨by rfl, ?_⟩) hHeld ?_
  rotate_left
  · (intro w hSw; (try dsimp only at hSw); go_simp); all_goals with_reducible rfl
  try simp only [Act.put, List.setIfInBounds_toArray, List.set_cons_zero, List.set_cons_succ]
  refine wpAnyH_take (i := 10) (oi := { dst := some 59, op := _, type := _, pos := _, after := _, guard := _ }) (v := ?_) rfl (by kernel_rfl) (by kernel_rfl) (by kernel_rfl) (fun _ _ _ h => h) (Or.inl ⟨by rfl, ?_⟩) hHeld ?_
  rotate_left
  · (intro w hSw; (try dsimp only at hSw); go_simp); all_goals with_reducible rfl
  try simp only [Act.put, List.setIfInBounds_toArray, List.set_cons_zero, List.set_cons_succ]
  refine wpAnyH_take (i := 11) (oi := { dst := some 60, op := _, type := _, pos := _, after := _, guard := _ }) (v := ?_) rfl (by kernel_rfl) (by kernel_rfl) (by kernel_rfl) (fun _ _ _ h => h) (Or.inl ⟨by rfl, ?_⟩) hHeld ?_
  rotate_left
  · (intro w hSw; (try dsimp only at hSw); go_simp); all_goals with_reducible rfl
  try simp only [Act.put, List.setIfInBounds_toArray, List.set_cons_zero, List.set_cons_succ]
  refine wpAnyH_ready (rs := [12]) (by kernel_rfl) (by simp) (AllReadyH.cons (o := _) rfl (fun K hK => ?_) AllReadyH.nil)
  go_simp
  refine (is_t 1000 4607182418800017408 4607182418800017408 _ rfl).mono ?_
  rintro e w10 ⟨rfl, b10⟩
  have A10 := kb_below b10 A9
  have B10 := kb_below b10 B9
  have C10 := kb_below b10 C9
  have D10 := kb_below b10 D9
  refine hK.out _ _ ⟨kb_cell A10 0, kb_cell A10 1, kb_cell B10 0, kb_cell B10 1, kb_cell C10 0, kb_cell C10 1, kb_cell D10 0, kb_cell D10 1⟩ (fun hHeld => ?_)
  clear hK K
  refine wpAnyH_take (i := 13) (oi := { dst := some 62, op := _, type := _, pos := _, after := _, guard := _ }) (v := ?_) rfl (by kernel_rfl) (by kernel_rfl) (by kernel_rfl) (fun _ _ _ h => h) (Or.inl ⟨by rfl, ?_⟩) hHeld ?_
  rotate_left
  · (intro w hSw; (try dsimp only at hSw); go_simp); all_goals with_reducible rfl
  try simp only [Act.put, List.setIfInBounds_toArray, List.set_cons_zero, List.set_cons_succ]
  refine wpAnyH_take (i := 14) (oi := { dst := some 63, op := _, type := _, pos := _, after := _, guard := _ }) (v := ?_) rfl (by kernel_rfl) (by kernel_rfl) (by kernel_rfl) (fun _ _ _ h => h) (Or.inl ⟨by rfl, ?_⟩) hHeld ?_
  rotate_left
  · (intro w hSw; (try dsimp only at hSw); go_simp); all_goals with_reducible rfl
  try simp only [Act.put, List.setIfInBounds_toArray, List.set_cons_zero, List.set_cons_succ]
  refine wpAnyH_take (i := 15) (oi := { dst := some 64, op := _, type := _, pos := _, after := _, guard := _ }) (v := ?_) rfl (by kernel_rfl) (by kernel_rfl) (by kernel_rfl) (fun _ _ _ h => h) (Or.inl ⟨by rfl, ?_⟩) hHeld ?_
  rotate_left
  · (intro w hSw; (try dsimp only at hSw); go_simp); all_goals with_reducible rfl
  try simp only [Act.put, List.setIfInBounds_toArray, List.set_cons_zero, List.set_cons_succ]
  refine wpAnyH_take (i := 16) (oi := { dst := some 65, op := _, type := _, pos := _, after := _, guard := _ }) (v := ?_) rfl (by kernel_rfl) (by kernel_rfl) (by kernel_rfl) (fun _ _ _ h => h) (Or.inl ⟨by rfl, ?_⟩) hHeld ?_
  rotate_left
  · (intro w hSw; (try dsimp only at hSw); go_simp); all_goals with_reducible rfl
  try simp only [Act.put, List.setIfInBounds_toArray, List.set_cons_zero, List.set_cons_succ]
  refine wpAnyH_ready (rs := [17]) (by kernel_rfl) (by simp) (AllReadyH.cons (o := _) rfl (fun K hK => ?_) AllReadyH.nil)
  go_simp
  refine (Inf_any _).mono ?_
  rintro e w11 ⟨rfl, rfl⟩
  refine hK.out _ _ ⟨kb_cell A10 0, kb_cell A10 1, kb_cell B10 0, kb_cell B10 1, kb_cell C10 0, kb_cell C10 1, kb_cell D10 0, kb_cell D10 1⟩ (fun hHeld => ?_)
  clear hK K
  refine wpAnyH_ready (rs := [18]) (by kernel_rfl) (by simp) (AllReadyH.cons (o := _) rfl (fun K hK => ?_) AllReadyH.nil)
  go_simp
  refine (is_t (-1000) 9218868437227405312 9218868437227405312 _ rfl).mono ?_
  rintro e w12 ⟨rfl, b12⟩
  have A12 := kb_below b12 A10
  have B12 := kb_below b12 B10
  have C12 := kb_below b12 C10
  have D12 := kb_below b12 D10
  refine hK.out _ _ ⟨kb_cell A12 0, kb_cell A12 1, kb_cell B12 0, kb_cell B12 1, kb_cell C12 0, kb_cell C12 1, kb_cell D12 0, kb_cell D12 1⟩ (fun hHeld => ?_)
  clear hK K
  refine wpAnyH_take (i := 19) (oi := { dst := some 68, op := _, type := _, pos := _, after := _, guard := _ }) (v := ?_) rfl (by kernel_rfl) (by kernel_rfl) (by kernel_rfl) (fun _ _ _ h => h) (Or.inl ⟨by rfl, ?_⟩) hHeld ?_
  rotate_left
  · (intro w hSw; (try dsimp only at hSw); go_simp); all_goals with_reducible rfl
  try simp only [Act.put, List.setIfInBounds_toArray, List.set_cons_zero, List.set_cons_succ]
  refine wpAnyH_take (i := 20) (oi := { dst := some 69, op := _, type := _, pos := _, after := _, guard := _ }) (v := ?_) rfl (by kernel_rfl) (by kernel_rfl) (by kernel_rfl) (fun _ _ _ h => h) (Or.inl ⟨by rfl, ?_⟩) hHeld ?_
  rotate_left
  · (intro w hSw; (try dsimp only at hSw); go_simp); all_goals with_reducible rfl
  try simp only [Act.put, List.setIfInBounds_toArray, List.set_cons_zero, List.set_cons_succ]
  refine wpAnyH_take (i := 21) (oi := { dst := some 70, op := _, type := _, pos := _, after := _, guard := _ }) (v := ?_) rfl (by kernel_rfl) (by kernel_rfl) (by kernel_rfl) (fun _ _ _ h => h) (Or.inl ⟨by rfl, ?_⟩) hHeld ?_
  rotate_left
  · (intro w hSw; (try dsimp only at hSw); go_simp); all_goals with_reducible rfl
  try simp only [Act.put, List.setIfInBounds_toArray, List.set_cons_zero, List.set_cons_succ]
  refine wpAnyH_take (i := 22) (oi := { dst := some 71, op := _, type := _, pos := _, after := _, guard := _ }) (v := ?_) rfl (by kernel_rfl) (by kernel_rfl) (by kernel_rfl) (fun _ _ _ h => h) (Or.inl ⟨by rfl, ?_⟩) hHeld ?_
  rotate_left
  · (intro w hSw; (try dsimp only at hSw); go_simp); all_goals with_reducible rfl
  try simp only [Act.put, List.setIfInBounds_toArray, List.set_cons_zero, List.set_cons_succ]
  refine wpAnyH_take (i := 23) (oi := { dst := some 72, op := _, type := _, pos := _, after := _, guard := _ }) (v := ?_) rfl (by kernel_rfl) (by kernel_rfl) (by kernel_rfl) (fun _ _ _ h => h) (Or.inl ⟨by rfl, ?_⟩) hHeld ?_
  rotate_left
  · (intro w hSw; (try dsimp only at hSw); go_simp); all_goals with_reducible rfl
  try simp only [Act.put, List.setIfInBounds_toArray, List.set_cons_zero, List.set_cons_succ]
  refine wpAnyH_take (i := 24) (oi := { dst := some 73, op := _, type := _, pos := _, after := _, guard := _ }) (v := ?_) rfl (by kernel_rfl) (by kernel_rfl) (by kernel_rfl) (fun _ _ _ h => h) (Or.inl ⟨by rfl, ?_⟩) hHeld ?_
  rotate_left
  · (intro w hSw; (try dsimp only at hSw); go_simp); all_goals with_reducible rfl
  try simp only [Act.put, List.setIfInBounds_toArray, List.set_cons_zero, List.set_cons_succ]
  refine wpAnyH_take (i := 25) (oi := { dst := some 74, op := _, type := _, pos := _, after := _, guard := _ }) (v := ?_) rfl (by kernel_rfl) (by kernel_rfl) (by kernel_rfl) (fun _ _ _ h => h) (Or.inl ⟨by rfl, ?_⟩) hHeld ?_
  rotate_left
  · (intro w hSw; (try dsimp only at hSw); go_simp); all_goals with_reducible rfl
  try simp only [Act.put, List.setIfInBounds_toArray, List.set_cons_zero, List.set_cons_succ]
  refine wpAnyH_take (i := 26) (oi := { dst := some 75, op := _, type := _, pos := _, after := _, guard := _ }) (v := ?_) rfl (by kernel_rfl) (by kernel_rfl) (by kernel_rfl) (fun _ _ _ h => h) (Or.inl ⟨by rfl, ?_⟩) hHeld ?_
  rotate_left
  · (intro w hSw; (try dsimp only at hSw); go_simp); all_goals with_reducible rfl
  try simp only [Act.put, List.setIfInBounds_toArray, List.set_cons_zero, List.set_cons_succ]
  refine wpAnyH_take (i := 27) (oi := { dst := some 76, op := _, type := _, pos := _, after := _, guard := _ }) (v := ?_) rfl (by kernel_rfl) (by kernel_rfl) (by kernel_rfl) (fun _ _ _ h => h) (Or.inl ⟨by rfl, ?_⟩) hHeld ?_
  rotate_left
  · (intro w hSw; (try dsimp only at hSw); go_simp); all_goals with_reducible rfl
  try simp only [Act.put, List.setIfInBounds_toArray, List.set_cons_zero, List.set_cons_succ]
  refine wpAnyH_take (i := 28) (oi := { dst := some 14, op := _, type := _, pos := _, after := _, guard := _ }) (v := ?_) rfl (by kernel_rfl) (by kernel_rfl) (by kernel_rfl) (fun _ _ _ h => h) (Or.inl ⟨by rfl, ?_⟩) hHeld ?_
  rotate_left
  · (intro w hSw; (try dsimp only at hSw); go_simp); all_goals with_reducible rfl
  try simp only [Act.put, List.setIfInBounds_toArray, List.set_cons_zero, List.set_cons_succ]
  refine wpAnyH_done (by kernel_rfl) ?_ _
  have BC : Below w.heap.size w w12 := by (repeat (with_reducible (first | exact Below.refl _ _ | assumption | refine bl_alloc ?_ _ | refine bl_drew ?_ | refine bl_drewN ?_ _ | (refine bl_set ?_ ?_ _; (focus (first | (simp; done) | (simp; omega) | omega))) | refine bl_then ?_ (by assumption))))
  clear b8 b9 b10 b12 BB A6 A8 A9 A10 A12 B6 B8 B9 B10 B12 C6 C8 C9 C10 C12 D6 D8 D9 D10 D12 hHeld CR
  go_wp2_with (first | (go_at_call 25; (with_reducible refine (k_t1 _).mono ?_); rintro e w1 ⟨rfl, hb1⟩; have hz1 := hb1.size) | (go_at_call 25; (with_reducible refine (k_t2 _).mono ?_); rintro e w1 ⟨rfl, hb1⟩; have hz1 := hb1.size) | (go_at_call 25; (with_reducible refine (k_t3 _).mono ?_); rintro e w1 ⟨rfl, hb1⟩; have hz1 := hb1.size) | (go_at_call 25; (with_reducible refine (k_t4 _).mono ?_); rintro e w1 ⟨rfl, hb1⟩; have hz1 := hb1.size) | (go_at_call 30; (with_reducible refine (Minus_any _).mono ?_); rintro e w1 ⟨rfl, rfl⟩))
  refine (awake_any _).mono ?_
  rintro e w13 ⟨rfl, b13⟩
  have L13 := kb_below b13 (kb_new rfl _)
  go_wp2_with fail
  refine (Best_t (MRow.lit (ms := ms4) L13 rfl rfl) ms4_fit (by decide) ms4_best).mono ?_
  rintro e w14 ⟨rfl, b14⟩
  have L14 := kb_below b14 L13
  go_wp2_with fail
  refine (Rank_any _ ms4 _ (MRow.lit (ms := ms4) L14 rfl rfl) ms4_fit (by decide)).mono ?_
  rintro e w15 ⟨out, M, rfl, m1, m2, m3, b15⟩
  have hM : M = [2, 3, 1, 0] := srt_unique (ltM_strict ms4_fit) (m1.trans ms4_perm.symm) m2 ms4_srt
  subst hM
  have M3 := Lib.hid m3
  obtain ⟨A, cap, rfl, _⟩ := m3
  go_wp2_with fail
  refine (SameIvs_any (M := [2, 3, 1, 0]) (N := [2, 3, 1, 0]) (M3.out.alloc _) (RowOf.lit (kb_new rfl _) rfl) (by decide) (by decide)).mono ?_
  rintro e w16 ⟨rfl, b16⟩
  go_wp2_with fail
  refine (Best_t (ms := []) ⟨none, 0, rfl, fun h => by simp at h⟩ (fun m hm => by cases hm) (by decide) (.inl ⟨rfl, rfl⟩)).mono ?_
  rintro e w17 ⟨rfl, b17⟩
  go_wp2_with fail
  go_ret
  exact ⟨rfl, by (repeat (with_reducible (first | exact Below.refl _ _ | assumption | refine bl_alloc ?_ _ | refine bl_drew ?_ | refine bl_drewN ?_ _ | (refine bl_set ?_ ?_ _; (focus (first | (simp; done) | (simp; omega) | omega))) | refine bl_then ?_ (by assumption))))⟩
end Go.Proofs.Ytockdfhejbbbeaa
