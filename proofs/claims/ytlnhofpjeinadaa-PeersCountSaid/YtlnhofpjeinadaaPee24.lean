/- PeersKnown: the chapter's examples. -/
import Derived.Test.YtlnhofpjeinadaaPee23
import Derived.Test.YtlnhofpjeinadaaSco3
namespace Go.Proofs.Ytlnhofpjeinadaa
open Go.RowKit Go.Proofs.Ytlnhofpjeinadaa.Pc BigFrame
attribute [local go_sem] run_store_float
set_option linter.unusedSimpArgs false
set_option linter.unusedVariables false

def X8 : List Pr := [⟨2, 0, 0, 4617315517961601024⟩, ⟨4, 0, 1, 4621256167635550208⟩, ⟨6, 0, 1, 4620693217682128896⟩, ⟨2, 0, 0, 9221120237041090561⟩]
def X9 : List Pr := [⟨2, 0, 0, 4617315517961601024⟩, ⟨6, 0, 1, 4621256167635550208⟩, ⟨6, 0, 1, 4620693217682128896⟩, ⟨2, 0, 0, 9221120237041090561⟩]
def X10 : List Pr := [⟨2, 1, -5, 9218868437227405312⟩, ⟨6, 0, 1, 4621256167635550208⟩, ⟨6, 0, 1, 4620693217682128896⟩, ⟨2, 0, 0, 9221120237041090561⟩]
def X11 : List Pr := [⟨2, 1, -5, 9218868437227405312⟩, ⟨6, 0, 1, 4621256167635550208⟩, ⟨6, 0, 1, 4620693217682128896⟩, ⟨2, 0, 1, 4616189618054758400⟩]
theorem x4_all : allI X4 1 = [0, 3] := by kernel_rfl
theorem x7_m1 : moveE X7 1 3 = 9 := by decide +kernel
theorem x7_m1L : moveL X7 1 3 = X7 := by kernel_rfl
theorem x7_m2 : moveE X7 0 7 = 2 := by decide +kernel
theorem x7_m2L : moveL X7 0 7 = X7 := by kernel_rfl
theorem x7_m3 : moveE X7 9 4 = 10 := by decide +kernel
theorem x7_m3L : moveL X7 9 4 = X7 := by kernel_rfl
theorem x7_m4 : moveE X7 1 4 = 0 := by decide +kernel
theorem x7_m4L : moveL X7 1 4 = X8 := by kernel_rfl
theorem x8_m5 : moveE X8 1 5 = 9 := by decide +kernel
theorem x8_m5L : moveL X8 1 5 = X8 := by kernel_rfl
theorem x8_m6 : moveE X8 1 6 = 0 := by decide +kernel
theorem x8_m6L : moveL X8 1 6 = X9 := by kernel_rfl
theorem x9_s : strikeI X9 0 = 1 ∧ strikeE X9 0 = 0 := by decide +kernel
theorem x9_sL : strikeL X9 0 = X10 := by kernel_rfl
theorem x10_g : praiseE X10 3 4 = 0 := by decide +kernel
theorem x10_gL : praiseL X10 3 4 = X11 := by kernel_rfl
theorem x11_k : strikesI X11 0 = 1 := by decide +kernel
theorem x11_b : praiseE X11 3 (-1) = 3 := by decide +kernel
theorem x11_bL : praiseL X11 3 (-1) = X11 := by kernel_rfl
theorem x11_n : nextI X11 = 3 := by decide +kernel
theorem x10_i : isP X10 0 = true := by decide +kernel
theorem x10_m : merA X10 0 = ⟨2, 1, -5, 9218868437227405312⟩ := by kernel_rfl
theorem x11_i : isP X11 3 = true := by decide +kernel
theorem x11_m : merA X11 3 = ⟨2, 0, 1, 4616189618054758400⟩ := by kernel_rfl
theorem new_er {T1 T2 : TypeId} {lay : Pr → List Value} {ms : List Mr} {wit : Int} {w w' : World} {e : Ending} (h : okN ms wit = false) (k : NewPost T1 T2 lay ms wit w e w') : e = .returned (.tuple #[.pointer none, .int .i64 3]) ∧ Below w.heap.size w w' := by
  unfold NewPost at k
  rwa [if_neg (by rw [h]; decide)] at k
theorem fit_one {s : Int} {p : Nat} (h : p < 18446744073709551616) : Go.Proofs.Ytlnhofpjeinadaa.Fit [⟨s, p⟩] := by
  intro m hm
  simp at hm
  subst hm
  exact h

set_option maxRecDepth 100000 in
set_option maxHeartbeats 8000000 in
theorem PeersKnown_any (w : World) : Calls Try.prog 3 #[] w fun e w' => e = .returned (.bool true) ∧ Below w.heap.size w w' := by
  go_enter Try.func3, Try.ntmps3
  go_wp2_with fail
  refine (four_any w).mono ?_
  rintro e w1 ⟨q0, g0, rfl, P0, hq0, hg0, b01⟩
  have HP0 := Lib.hid P0
  clear P0
  go_wp2_with fail
  refine (later_any w1).mono ?_
  rintro e w2 ⟨q, g, rfl, P1, hq1, hg1, b12⟩
  have hg' : w.heap.size ≤ g := by have := b01.size; omega
  have b02 := bl_then b01 b12
  have HP0 := Lib.hid (HP0.out.below b12)
  have HP := Lib.hid P1
  clear P1
  go_wp2_with fail
  refine (qAll_q HP0.out 1).mono ?_
  rintro e w3 ⟨v3, rfl, o3, b3⟩
  rw [x4_all] at o3
  have O3 := Lib.hid o3
  have HP := Lib.hid (HP.out.below b3)
  have b03 := bl_then b02 b3
  clear o3
  go_wp2_with fail
  refine (SameInts_any (xs := [0, 3]) (ys := [0, 3]) (rowOf_own O3.out (by (repeat (with_reducible (first | exact Below.refl _ _ | assumption | refine bl_alloc ?_ _ | refine bl_drew ?_ | refine bl_drewN ?_ _ | (refine bl_set ?_ ?_ _; (focus (first | (simp; done) | (simp; omega) | omega))) | refine bl_then ?_ (by assumption)))))) (RowOf.lit (kb_new rfl _) rfl) (by decide) (by decide)).mono ?_
  rintro e w4 ⟨rfl, b4⟩
  rw [show (([0, 3] : List Int) == [0, 3]) = true by decide]
  have HP := Lib.hid (HP.out.below (bl_then (bl_alloc (Below.refl _ _) _) b4) : PQ w4 q g X7)
  have b04 : Below w.heap.size w w4 := by (repeat (with_reducible (first | exact Below.refl _ _ | assumption | refine bl_alloc ?_ _ | refine bl_drew ?_ | refine bl_drewN ?_ _ | (refine bl_set ?_ ?_ _; (focus (first | (simp; done) | (simp; omega) | omega))) | refine bl_then ?_ (by assumption))))
  clear b01 b12 b02 b3 b03 b4 O3 HP0 hq0 hg0 hq1 hg1
  go_wp2_with fail
  refine (qMove_q HP.out 1 3).mono ?_
  rintro e w5 ⟨rfl, P5, k5⟩
  rw [x7_m1]
  rw [x7_m1L] at P5
  have HP := Lib.hid P5
  have b05 := step_bl b04 hg' k5
  clear P5 k5
  go_wp2_with fail
  refine (qMove_q HP.out 0 7).mono ?_
  rintro e w6 ⟨rfl, P6, k6⟩
  rw [x7_m2]
  rw [x7_m2L] at P6
  have HP := Lib.hid P6
  have b06 := step_bl b05 hg' k6
  clear P6 k6
  go_wp2_with fail
  refine (qMove_q HP.out 9 4).mono ?_
  rintro e w7 ⟨rfl, P7, k7⟩
  rw [x7_m3]
  rw [x7_m3L] at P7
  have HP := Lib.hid P7
  have b07 := step_bl b06 hg' k7
  clear P7 k7
  go_wp2_with fail
  refine (qMove_q HP.out 1 4).mono ?_
  rintro e w8 ⟨rfl, P8, k8⟩
  rw [x7_m4]
  rw [x7_m4L] at P8
  have HP := Lib.hid P8
  have b08 := step_bl b07 hg' k8
  clear P8 k8
  go_wp2_with fail
  refine (qMove_q HP.out 1 5).mono ?_
  rintro e w9 ⟨rfl, P9, k9⟩
  rw [x8_m5]
  rw [x8_m5L] at P9
  have HP := Lib.hid P9
  have b09 := step_bl b08 hg' k9
  clear P9 k9
  go_wp2_with fail
  refine (qMove_q HP.out 1 6).mono ?_
  rintro e w10 ⟨rfl, P10, k10⟩
  rw [x8_m6]
  rw [x8_m6L] at P10
  have HP := Lib.hid P10
  have b010 := step_bl b09 hg' k10
  clear P10 k10
  go_wp2_with fail
  refine (qStrike_q HP.out 0).mono ?_
  rintro e w11 ⟨rfl, P11, k11⟩
  rw [x9_s.1, x9_s.2]
  rw [x9_sL] at P11
  have HP := Lib.hid P11
  have b011 := step_bl b010 hg' k11
  clear P11 k11
  clear b04 b05 b06 b07 b08 b09 b010
  go_wp2_with fail
  refine (qMerit_q HP.out 0).mono ?_
  rintro e w12 ⟨v, rfl, ⟨p, rfl, hp⟩, b12⟩
  rw [x10_m] at hp
  rw [x10_m, x10_i]
  have HPA := Lib.hid hp
  have b012 := bl_then b011 b12
  have HP := Lib.hid (HP.out.below b12)
  have hgA := HP.out.ltg
  clear hp b011 b12
  go_wp2_with fail
  have DA : (w12.alloc (.cells #[.int .i64 (-5), .float .f64 p] 33)).heap[w12.heap.size]? = some _ := kb_new rfl _
  have HP := Lib.hid (HP.out.below (bl_alloc (Below.refl _ _) (.cells #[.int .i64 (-5), .float .f64 p] 33)))
  have b013 := bl_alloc b012 (.cells #[.int .i64 (-5), .float .f64 p] 33)
  generalize w12.alloc (.cells #[.int .i64 (-5), .float .f64 p] 33) = w13 at *
  have hzA : w12.heap.size ≠ g := by omega
  generalize w12.heap.size = zA at *
  clear b012 hgA
  refine (qPraise_q HP.out 3 4).mono ?_
  rintro e w14 ⟨rfl, P14, k14⟩
  rw [x10_g]
  rw [x10_gL] at P14
  have HP := Lib.hid P14
  have DA := k14.kb DA hzA
  have b014 := step_bl b013 hg' k14
  clear P14 k14 b013
  go_wp2_with fail
  refine (qMerit_q HP.out 3).mono ?_
  rintro e w15 ⟨v, rfl, ⟨p', rfl, hp'⟩, b15⟩
  rw [x11_m] at hp'
  rw [x11_m, x11_i]
  have HPB := Lib.hid hp'
  have b015 := bl_then b014 b15
  have DA := kb_below b15 DA
  have HP := Lib.hid (HP.out.below b15)
  have hgB := HP.out.ltg
  clear hp' b014 b15
  go_wp2_with fail
  have DB : (w15.alloc (.cells #[.int .i64 1, .float .f64 p'] 33)).heap[w15.heap.size]? = some _ := kb_new rfl _
  have DA := kb_alloc DA (.cells #[.int .i64 1, .float .f64 p'] 33)
  have HP := Lib.hid (HP.out.below (bl_alloc (Below.refl _ _) (.cells #[.int .i64 1, .float .f64 p'] 33)))
  have b016 := bl_alloc b015 (.cells #[.int .i64 1, .float .f64 p'] 33)
  generalize w15.alloc (.cells #[.int .i64 1, .float .f64 p'] 33) = w16 at *
  have hzB : w15.heap.size ≠ g := by omega
  generalize w15.heap.size = zB at *
  clear b015 hgB
  have HDA := Lib.hid DA
  have HDB := Lib.hid DB
  have hb' := Lib.hid b016
  clear DA DB b016
  refine wp_region_held_drew (S := (fun W : World => (W.cell? ⟨zA, 0, none⟩ = some (.int .i64 (-5)) ∧ W.cell? ⟨zA, 1, none⟩ = some (.float .f64 p)) ∧ W.cell? ⟨zB, 0, none⟩ = some (.int .i64 1) ∧ W.cell? ⟨zB, 1, none⟩ = some (.float .f64 p'))) (by kernel_rfl) ⟨⟨kb_cell (kb_drew HDA.out) 0, kb_cell (kb_drew HDA.out) 1⟩, kb_cell (kb_drew HDB.out) 0, kb_cell (kb_drew HDB.out) 1⟩ (fun hHeld => ?_)
  have HP := Lib.hid (HP.out.below (bl_drew (Below.refl _ _)))
  have hb' := Lib.hid (bl_drew hb'.out)
  have HDA := Lib.hid (kb_drew HDA.out)
  have HDB := Lib.hid (kb_drew HDB.out)
  refine wpAnyH_take (i := 0) (oi := { dst := some 78, op := _, type := _, pos := _, after := _, guard := _ }) (v := ?_) rfl (by kernel_rfl) (by kernel_rfl) (by kernel_rfl) (fun _ _ _ h => h) (Or.inl ⟨by rfl, ?_⟩) hHeld ?_
  rotate_left
  · (intro w hSw; (try dsimp only at hSw); go_simp); all_goals with_reducible rfl
  try simp only [Act.put, List.setIfInBounds_toArray, List.set_cons_zero, List.set_cons_succ]
  refine wpAnyH_take (i := 1) (oi := { dst := some 79, op := _, type := _, pos := _, after := _, guard := _ }) (v := ?_) rfl (by kernel_rfl) (by kernel_rfl) (by kernel_rfl) (fun _ _ _ h => h) (Or.inl ⟨by rfl, ?_⟩) hHeld ?_
  rotate_left
  · (intro w hSw; (try dsimp only at hSw); go_simp); all_goals with_reducible rfl
  try simp only [Act.put, List.setIfInBounds_toArray, List.set_cons_zero, List.set_cons_succ]
  refine wpAnyH_take (i := 2) (oi := { dst := some 80, op := _, type := _, pos := _, after := _, guard := _ }) (v := ?_) rfl (by kernel_rfl) (by kernel_rfl) (by kernel_rfl) (fun _ _ _ h => h) (Or.inl ⟨by rfl, ?_⟩) hHeld ?_
  rotate_left
  · (intro w hSw; (try dsimp only at hSw); go_simp); all_goals with_reducible rfl
  try simp only [Act.put, List.setIfInBounds_toArray, List.set_cons_zero, List.set_cons_succ]
  refine wpAnyH_take (i := 3) (oi := { dst := some 81, op := _, type := _, pos := _, after := _, guard := _ }) (v := ?_) rfl (by kernel_rfl) (by kernel_rfl) (by kernel_rfl) (fun _ _ _ h => h) (Or.inl ⟨by rfl, ?_⟩) hHeld ?_
  rotate_left
  · (intro w hSw; (try dsimp only at hSw); go_simp); all_goals with_reducible rfl
  try simp only [Act.put, List.setIfInBounds_toArray, List.set_cons_zero, List.set_cons_succ]
  refine wpAnyH_take (i := 4) (oi := { dst := some 82, op := _, type := _, pos := _, after := _, guard := _ }) (v := ?_) rfl (by kernel_rfl) (by kernel_rfl) (by kernel_rfl) (fun _ _ _ h => h) (Or.inl ⟨by rfl, ?_⟩) hHeld ?_
  rotate_left
  · (intro w hSw; (try dsimp only at hSw); go_simp); all_goals with_reducible rfl
  try simp only [Act.put, List.setIfInBounds_toArray, List.set_cons_zero, List.set_cons_succ]
  refine wpAnyH_take (i := 5) (oi := { dst := some 83, op := _, type := _, pos := _, after := _, guard := _ }) (v := ?_) rfl (by kernel_rfl) (by kernel_rfl) (by kernel_rfl) (fun _ _ _ h => h) (Or.inl ⟨by rfl, ?_⟩) hHeld ?_
  rotate_left
  · (intro w hSw; (try dsimp only at hSw); go_simp); all_goals with_reducible rfl
  try simp only [Act.put, List.setIfInBounds_toArray, List.set_cons_zero, List.set_cons_succ]
  refine wpAnyH_take (i := 6) (oi := { dst := some 84, op := _, type := _, pos := _, after := _, guard := _ }) (v := ?_) rfl (by kernel_rfl) (by kernel_rfl) (by kernel_rfl) (fun _ _ _ h => h) (Or.inl ⟨by rfl, ?_⟩) hHeld ?_
  rotate_left
  · (intro w hSw; (try dsimp only at hSw); go_simp); all_goals with_reducible rfl
  try simp only [Act.put, List.setIfInBounds_toArray, List.set_cons_zero, List.set_cons_succ]
  refine wpAnyH_take (i := 7) (oi := { dst := some 85, op := _, type := _, pos := _, after := _, guard := _ }) (v := ?_) rfl (by kernel_rfl) (by kernel_rfl) (by kernel_rfl) (fun _ _ _ h => h) (Or.inl ⟨by rfl, ?_⟩) hHeld ?_
  rotate_left
  · (intro w hSw; (try dsimp only at hSw); go_simp); all_goals with_reducible rfl
  try simp only [Act.put, List.setIfInBounds_toArray, List.set_cons_zero, List.set_cons_succ]
  refine wpAnyH_ready (rs := [8]) (by kernel_rfl) (by simp) (AllReadyH.cons (o := _) rfl (fun K hK => ?_) AllReadyH.nil)
  go_simp
  refine (qStrikes_q HP.out 0).mono ?_
  rintro e w17 ⟨rfl, rfl⟩
  rw [x11_k]
  refine hK.out _ _ hHeld (fun hHeld => ?_)
  clear hK K
  refine wpAnyH_take (i := 9) (oi := { dst := some 87, op := _, type := _, pos := _, after := _, guard := _ }) (v := ?_) rfl (by kernel_rfl) (by kernel_rfl) (by kernel_rfl) (fun _ _ _ h => h) (Or.inl ⟨by rfl, ?_⟩) hHeld ?_
  rotate_left
  · (intro w hSw; (try dsimp only at hSw); go_simp); all_goals with_reducible rfl
  try simp only [Act.put, List.setIfInBounds_toArray, List.set_cons_zero, List.set_cons_succ]
  refine wpAnyH_take (i := 10) (oi := { dst := some 88, op := _, type := _, pos := _, after := _, guard := _ }) (v := ?_) rfl (by kernel_rfl) (by kernel_rfl) (by kernel_rfl) (fun _ _ _ h => h) (Or.inl ⟨by rfl, ?_⟩) hHeld ?_
  rotate_left
  · (intro w hSw; (try dsimp only at hSw); go_simp); all_goals with_reducible rfl
  try simp only [Act.put, List.setIfInBounds_toArray, List.set_cons_zero, List.set_cons_succ]
  refine wpAnyH_take (i := 11) (oi := { dst := some 89, op := _, type := _, pos := _, after := _, guard := _ }) (v := ?_) rfl (by kernel_rfl) (by kernel_rfl) (by kernel_rfl) (fun _ _ _ h => h) (Or.inl ⟨by rfl, ?_⟩) hHeld ?_
  rotate_left
  · (intro w hSw; (try dsimp only at hSw); go_simp); all_goals with_reducible rfl
  try simp only [Act.put, List.setIfInBounds_toArray, List.set_cons_zero, List.set_cons_succ]
  refine wpAnyH_take (i := 12) (oi := { dst := some 90, op := _, type := _, pos := _, after := _, guard := _ }) (v := ?_) rfl (by kernel_rfl) (by kernel_rfl) (by kernel_rfl) (fun _ _ _ h => h) (Or.inl ⟨by rfl, ?_⟩) hHeld ?_
  rotate_left
  · (intro w hSw; (try dsimp only at hSw); go_simp); all_goals with_reducible rfl
  try simp only [Act.put, List.setIfInBounds_toArray, List.set_cons_zero, List.set_cons_succ]
  refine wpAnyH_take (i := 13) (oi := { dst := some 91, op := _, type := _, pos := _, after := _, guard := _ }) (v := ?_) rfl (by kernel_rfl) (by kernel_rfl) (by kernel_rfl) (fun _ _ _ h => h) (Or.inl ⟨by rfl, ?_⟩) hHeld ?_
  rotate_left
  · (intro w hSw; (try dsimp only at hSw); go_simp); all_goals with_reducible rfl
  try simp only [Act.put, List.setIfInBounds_toArray, List.set_cons_zero, List.set_cons_succ]
  refine wpAnyH_take (i := 14) (oi := { dst := some 92, op := _, type := _, pos := _, after := _, guard := _ }) (v := ?_) rfl (by kernel_rfl) (by kernel_rfl) (by kernel_rfl) (fun _ _ _ h => h) (Or.inl ⟨by rfl, ?_⟩) hHeld ?_
  rotate_left
  · (intro w hSw; (try dsimp only at hSw); go_simp); all_goals with_reducible rfl
  try simp only [Act.put, List.setIfInBounds_toArray, List.set_cons_zero, List.set_cons_succ]
  refine wpAnyH_take (i := 15) (oi := { dst := some 93, op := _, type := _, pos := _, after := _, guard := _ }) (v := ?_) rfl (by kernel_rfl) (by kernel_rfl) (by kernel_rfl) (fun _ _ _ h => h) (Or.inl ⟨by rfl, ?_⟩) hHeld ?_
  rotate_left
  · (intro w hSw; (try dsimp only at hSw); go_simp); all_goals with_reducible rfl
  try simp only [Act.put, List.setIfInBounds_toArray, List.set_cons_zero, List.set_cons_succ]
  refine wpAnyH_ready (rs := [16]) (by kernel_rfl) (by simp) (AllReadyH.cons (o := _) rfl (fun K hK => ?_) AllReadyH.nil)
  go_simp
  refine (Inf_any _).mono ?_
  rintro e w17 ⟨rfl, rfl⟩
  unfold infF
  refine hK.out _ _ hHeld (fun hHeld => ?_)
  clear hK K
  refine wpAnyH_take (i := 17) (oi := { dst := some 95, op := _, type := _, pos := _, after := _, guard := _ }) (v := ?_) rfl (by kernel_rfl) (by kernel_rfl) (by kernel_rfl) (fun _ _ _ h => h) (Or.inl ⟨by rfl, ?_⟩) hHeld ?_
  rotate_left
  · (intro w hSw; (try dsimp only at hSw); go_simp); all_goals with_reducible rfl
  try simp only [Act.put, List.setIfInBounds_toArray, List.set_cons_zero, List.set_cons_succ]
  refine wpAnyH_ready (rs := [18]) (by kernel_rfl) (by simp) (AllReadyH.cons (o := _) rfl (fun K hK => ?_) AllReadyH.nil)
  go_simp
  refine (SameMerit_t (-5) p 9218868437227405312 _ HPA.out).mono ?_
  rintro e w17 ⟨rfl, b17⟩
  have HP := Lib.hid (HP.out.below b17)
  have hb' := Lib.hid (bl_then hb'.out b17)
  have HDA := Lib.hid (kb_below b17 HDA.out)
  have HDB := Lib.hid (kb_below b17 HDB.out)
  refine hK.out _ _ ⟨⟨kb_cell HDA.out 0, kb_cell HDA.out 1⟩, kb_cell HDB.out 0, kb_cell HDB.out 1⟩ (fun hHeld => ?_)
  clear hK K b17
  refine wpAnyH_take (i := 19) (oi := { dst := some 97, op := _, type := _, pos := _, after := _, guard := _ }) (v := ?_) rfl (by kernel_rfl) (by kernel_rfl) (by kernel_rfl) (fun _ _ _ h => h) (Or.inl ⟨by rfl, ?_⟩) hHeld ?_
  rotate_left
  · (intro w hSw; (try dsimp only at hSw); go_simp); all_goals with_reducible rfl
  try simp only [Act.put, List.setIfInBounds_toArray, List.set_cons_zero, List.set_cons_succ]
  refine wpAnyH_take (i := 20) (oi := { dst := some 98, op := _, type := _, pos := _, after := _, guard := _ }) (v := ?_) rfl (by kernel_rfl) (by kernel_rfl) (by kernel_rfl) (fun _ _ _ h => h) (Or.inl ⟨by rfl, ?_⟩) hHeld ?_
  rotate_left
  · (intro w hSw; (try dsimp only at hSw); go_simp); all_goals with_reducible rfl
  try simp only [Act.put, List.setIfInBounds_toArray, List.set_cons_zero, List.set_cons_succ]
  refine wpAnyH_take (i := 21) (oi := { dst := some 99, op := _, type := _, pos := _, after := _, guard := _ }) (v := ?_) rfl (by kernel_rfl) (by kernel_rfl) (by kernel_rfl) (fun _ _ _ h => h) (Or.inl ⟨by rfl, ?_⟩) hHeld ?_
  rotate_left
  · (intro w hSw; (try dsimp only at hSw); go_simp); all_goals with_reducible rfl
  try simp only [Act.put, List.setIfInBounds_toArray, List.set_cons_zero, List.set_cons_succ]
  refine wpAnyH_take (i := 22) (oi := { dst := some 100, op := _, type := _, pos := _, after := _, guard := _ }) (v := ?_) rfl (by kernel_rfl) (by kernel_rfl) (by kernel_rfl) (fun _ _ _ h => h) (Or.inl ⟨by rfl, ?_⟩) hHeld ?_
  rotate_left
  · (intro w hSw; (try dsimp only at hSw); go_simp); all_goals with_reducible rfl
  try simp only [Act.put, List.setIfInBounds_toArray, List.set_cons_zero, List.set_cons_succ]
  refine wpAnyH_take (i := 23) (oi := { dst := some 101, op := _, type := _, pos := _, after := _, guard := _ }) (v := ?_) rfl (by kernel_rfl) (by kernel_rfl) (by kernel_rfl) (fun _ _ _ h => h) (Or.inl ⟨by rfl, ?_⟩) hHeld ?_
  rotate_left
  · (intro w hSw; (try dsimp only at hSw); go_simp); all_goals with_reducible rfl
  try simp only [Act.put, List.setIfInBounds_toArray, List.set_cons_zero, List.set_cons_succ]
  refine wpAnyH_take (i := 24) (oi := { dst := some 102, op := _, type := _, pos := _, after := _, guard := _ }) (v := ?_) rfl (by kernel_rfl) (by kernel_rfl) (by kernel_rfl) (fun _ _ _ h => h) (Or.inl ⟨by rfl, ?_⟩) hHeld ?_
  rotate_left
  · (intro w hSw; (try dsimp only at hSw); go_simp); all_goals with_reducible rfl
  try simp only [Act.put, List.setIfInBounds_toArray, List.set_cons_zero, List.set_cons_succ]
  refine wpAnyH_take (i := 25) (oi := { dst := some 103, op := _, type := _, pos := _, after := _, guard := _ }) (v := ?_) rfl (by kernel_rfl) (by kernel_rfl) (by kernel_rfl) (fun _ _ _ h => h) (Or.inl ⟨by rfl, ?_⟩) hHeld ?_
  rotate_left
  · (intro w hSw; (try dsimp only at hSw); go_simp); all_goals with_reducible rfl
  try simp only [Act.put, List.setIfInBounds_toArray, List.set_cons_zero, List.set_cons_succ]
  refine wpAnyH_take (i := 26) (oi := { dst := some 104, op := _, type := _, pos := _, after := _, guard := _ }) (v := ?_) rfl (by kernel_rfl) (by kernel_rfl) (by kernel_rfl) (fun _ _ _ h => h) (Or.inl ⟨by rfl, ?_⟩) hHeld ?_
  rotate_left
  · (intro w hSw; (try dsimp only at hSw); go_simp); all_goals with_reducible rfl
  try simp only [Act.put, List.setIfInBounds_toArray, List.set_cons_zero, List.set_cons_succ]
  refine wpAnyH_take (i := 27) (oi := { dst := some 105, op := _, type := _, pos := _, after := _, guard := _ }) (v := ?_) rfl (by kernel_rfl) (by kernel_rfl) (by kernel_rfl) (fun _ _ _ h => h) (Or.inl ⟨by rfl, ?_⟩) hHeld ?_
  rotate_left
  · (intro w hSw; (try dsimp only at hSw); go_simp); all_goals with_reducible rfl
  try simp only [Act.put, List.setIfInBounds_toArray, List.set_cons_zero, List.set_cons_succ]
  refine wpAnyH_take (i := 28) (oi := { dst := some 106, op := _, type := _, pos := _, after := _, guard := _ }) (v := ?_) rfl (by kernel_rfl) (by kernel_rfl) (by kernel_rfl) (fun _ _ _ h => h) (Or.inl ⟨by rfl, ?_⟩) hHeld ?_
  rotate_left
  · (intro w hSw; (try dsimp only at hSw); go_simp); all_goals with_reducible rfl
  try simp only [Act.put, List.setIfInBounds_toArray, List.set_cons_zero, List.set_cons_succ]
  refine wpAnyH_take (i := 29) (oi := { dst := some 107, op := _, type := _, pos := _, after := _, guard := _ }) (v := ?_) rfl (by kernel_rfl) (by kernel_rfl) (by kernel_rfl) (fun _ _ _ h => h) (Or.inl ⟨by rfl, ?_⟩) hHeld ?_
  rotate_left
  · (intro w hSw; (try dsimp only at hSw); go_simp); all_goals with_reducible rfl
  try simp only [Act.put, List.setIfInBounds_toArray, List.set_cons_zero, List.set_cons_succ]
  refine wpAnyH_ready (rs := [30]) (by kernel_rfl) (by simp) (AllReadyH.cons (o := _) rfl (fun K hK => ?_) AllReadyH.nil)
  go_simp
  refine (SameMerit_t 1 p' 4616189618054758400 _ HPB.out).mono ?_
  rintro e w18 ⟨rfl, b18⟩
  have HP := Lib.hid (HP.out.below b18)
  have hb' := Lib.hid (bl_then hb'.out b18)
  have HDA := Lib.hid (kb_below b18 HDA.out)
  have HDB := Lib.hid (kb_below b18 HDB.out)
  refine hK.out _ _ ⟨⟨kb_cell HDA.out 0, kb_cell HDA.out 1⟩, kb_cell HDB.out 0, kb_cell HDB.out 1⟩ (fun hHeld => ?_)
  clear hK K b18
  refine wpAnyH_take (i := 31) (oi := { dst := some 109, op := _, type := _, pos := _, after := _, guard := _ }) (v := ?_) rfl (by kernel_rfl) (by kernel_rfl) (by kernel_rfl) (fun _ _ _ h => h) (Or.inl ⟨by rfl, ?_⟩) hHeld ?_
  rotate_left
  · (intro w hSw; (try dsimp only at hSw); go_simp); all_goals with_reducible rfl
  try simp only [Act.put, List.setIfInBounds_toArray, List.set_cons_zero, List.set_cons_succ]
  refine wpAnyH_take (i := 32) (oi := { dst := some 110, op := _, type := _, pos := _, after := _, guard := _ }) (v := ?_) rfl (by kernel_rfl) (by kernel_rfl) (by kernel_rfl) (fun _ _ _ h => h) (Or.inl ⟨by rfl, ?_⟩) hHeld ?_
  rotate_left
  · (intro w hSw; (try dsimp only at hSw); go_simp); all_goals with_reducible rfl
  try simp only [Act.put, List.setIfInBounds_toArray, List.set_cons_zero, List.set_cons_succ]
  refine wpAnyH_take (i := 33) (oi := { dst := some 111, op := _, type := _, pos := _, after := _, guard := _ }) (v := ?_) rfl (by kernel_rfl) (by kernel_rfl) (by kernel_rfl) (fun _ _ _ h => h) (Or.inl ⟨by rfl, ?_⟩) hHeld ?_
  rotate_left
  · (intro w hSw; (try dsimp only at hSw); go_simp); all_goals with_reducible rfl
  try simp only [Act.put, List.setIfInBounds_toArray, List.set_cons_zero, List.set_cons_succ]
  refine wpAnyH_ready (rs := [34]) (by kernel_rfl) (by simp) (AllReadyH.cons (o := _) rfl (fun K hK => ?_) AllReadyH.nil)
  go_simp
  refine (qPraise_q HP.out 3 (-1)).mono ?_
  rintro e w19 ⟨rfl, P19, k19⟩
  rw [x11_b]
  rw [x11_bL] at P19
  have HP := Lib.hid P19
  have hb' := Lib.hid (step_bl hb'.out hg' k19)
  have HDA := Lib.hid (k19.kb HDA.out hzA)
  have HDB := Lib.hid (k19.kb HDB.out hzB)
  refine hK.out _ _ ⟨⟨kb_cell HDA.out 0, kb_cell HDA.out 1⟩, kb_cell HDB.out 0, kb_cell HDB.out 1⟩ (fun hHeld => ?_)
  clear hK K k19 P19
  refine wpAnyH_take (i := 35) (oi := { dst := some 113, op := _, type := _, pos := _, after := _, guard := _ }) (v := ?_) rfl (by kernel_rfl) (by kernel_rfl) (by kernel_rfl) (fun _ _ _ h => h) (Or.inl ⟨by rfl, ?_⟩) hHeld ?_
  rotate_left
  · (intro w hSw; (try dsimp only at hSw); go_simp); all_goals with_reducible rfl
  try simp only [Act.put, List.setIfInBounds_toArray, List.set_cons_zero, List.set_cons_succ]
  refine wpAnyH_take (i := 36) (oi := { dst := some 114, op := _, type := _, pos := _, after := _, guard := _ }) (v := ?_) rfl (by kernel_rfl) (by kernel_rfl) (by kernel_rfl) (fun _ _ _ h => h) (Or.inl ⟨by rfl, ?_⟩) hHeld ?_
  rotate_left
  · (intro w hSw; (try dsimp only at hSw); go_simp); all_goals with_reducible rfl
  try simp only [Act.put, List.setIfInBounds_toArray, List.set_cons_zero, List.set_cons_succ]
  refine wpAnyH_take (i := 37) (oi := { dst := some 115, op := _, type := _, pos := _, after := _, guard := _ }) (v := ?_) rfl (by kernel_rfl) (by kernel_rfl) (by kernel_rfl) (fun _ _ _ h => h) (Or.inl ⟨by rfl, ?_⟩) hHeld ?_
  rotate_left
  · (intro w hSw; (try dsimp only at hSw); go_simp); all_goals with_reducible rfl
  try simp only [Act.put, List.setIfInBounds_toArray, List.set_cons_zero, List.set_cons_succ]
  refine wpAnyH_take (i := 38) (oi := { dst := some 116, op := _, type := _, pos := _, after := _, guard := _ }) (v := ?_) rfl (by kernel_rfl) (by kernel_rfl) (by kernel_rfl) (fun _ _ _ h => h) (Or.inl ⟨by rfl, ?_⟩) hHeld ?_
  rotate_left
  · (intro w hSw; (try dsimp only at hSw); go_simp); all_goals with_reducible rfl
  try simp only [Act.put, List.setIfInBounds_toArray, List.set_cons_zero, List.set_cons_succ]
  refine wpAnyH_ready (rs := [39]) (by kernel_rfl) (by simp) (AllReadyH.cons (o := _) rfl (fun K hK => ?_) AllReadyH.nil)
  go_simp
  refine (qNext_q HP.out).mono ?_
  rintro e w20 ⟨rfl, P20, k20⟩
  rw [x11_n]
  have hb' := Lib.hid (step_bl hb'.out hg' k20)
  have HDA := Lib.hid (k20.kb HDA.out hzA)
  have HDB := Lib.hid (k20.kb HDB.out hzB)
  refine hK.out _ _ ⟨⟨kb_cell HDA.out 0, kb_cell HDA.out 1⟩, kb_cell HDB.out 0, kb_cell HDB.out 1⟩ (fun hHeld => ?_)
  clear hK K k20 P20
  refine wpAnyH_take (i := 40) (oi := { dst := some 118, op := _, type := _, pos := _, after := _, guard := _ }) (v := ?_) rfl (by kernel_rfl) (by kernel_rfl) (by kernel_rfl) (fun _ _ _ h => h) (Or.inl ⟨by rfl, ?_⟩) hHeld ?_
  rotate_left
  · (intro w hSw; (try dsimp only at hSw); go_simp); all_goals with_reducible rfl
  try simp only [Act.put, List.setIfInBounds_toArray, List.set_cons_zero, List.set_cons_succ]
  refine wpAnyH_take (i := 41) (oi := { dst := some 119, op := _, type := _, pos := _, after := _, guard := _ }) (v := ?_) rfl (by kernel_rfl) (by kernel_rfl) (by kernel_rfl) (fun _ _ _ h => h) (Or.inl ⟨by rfl, ?_⟩) hHeld ?_
  rotate_left
  · (intro w hSw; (try dsimp only at hSw); go_simp); all_goals with_reducible rfl
  try simp only [Act.put, List.setIfInBounds_toArray, List.set_cons_zero, List.set_cons_succ]
  refine wpAnyH_take (i := 42) (oi := { dst := some 11, op := _, type := _, pos := _, after := _, guard := _ }) (v := ?_) rfl (by kernel_rfl) (by kernel_rfl) (by kernel_rfl) (fun _ _ _ h => h) (Or.inl ⟨by rfl, ?_⟩) hHeld ?_
  rotate_left
  · (intro w hSw; (try dsimp only at hSw); go_simp); all_goals with_reducible rfl
  try simp only [Act.put, List.setIfInBounds_toArray, List.set_cons_zero, List.set_cons_succ]
  refine wpAnyH_done (by kernel_rfl) ?_ _
  have b020 := hb'.out
  clear hHeld HP HDA HDB hb' HPA HPB hzA hzB hg'
  go_wp2_with fail
  refine (New_any (ms := []) ⟨none, 0, rfl, fun h => by simp at h⟩ (fun m hm => by simp at hm) (by decide) 0).mono ?_
  intro e w21 h
  obtain ⟨rfl, b21⟩ := new_er (by decide +kernel) h
  clear h
  have b021 := bl_then b020 b21
  clear b020 b21
  go_wp2_with fail
  refine (New_any (ms := [⟨0, 4617315517961601024⟩]) (MRow.lit (kb_new rfl _) rfl) (fit_one (by decide)) (by decide) 16).mono ?_
  intro e w22 h
  obtain ⟨rfl, b22⟩ := new_er (by decide +kernel) h
  clear h
  have b022 := bl_then (bl_alloc b021 _) b22
  clear b021 b22
  go_wp2_with fail
  refine (New_any (ms := [⟨1001, 4617315517961601024⟩]) (MRow.lit (kb_new rfl _) rfl) (fit_one (by decide)) (by decide) 0).mono ?_
  intro e w23 h
  obtain ⟨rfl, b23⟩ := new_er (by decide +kernel) h
  clear h
  have b023 := bl_then (bl_alloc b022 _) b23
  clear b022 b23
  go_wp2_with fail
  refine (awake_any _).mono ?_
  rintro e w24 ⟨rfl, b24⟩
  go_wp2
  go_ret
  exact ⟨rfl, bl_then b023 b24⟩
end Go.Proofs.Ytlnhofpjeinadaa
