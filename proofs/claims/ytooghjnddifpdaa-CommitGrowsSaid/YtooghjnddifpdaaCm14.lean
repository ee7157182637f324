/- commit.Add, the rest. -/
import Derived.Test.YtooghjnddifpdaaCmB
namespace Go.Proofs.Ytooghjnddifpdaa
open Go.RowKit Go.Proofs.Ytooghjnddifpdaa.Cm BigFrame
set_option linter.unusedSimpArgs false
set_option linter.unusedVariables false
attribute [local go_sem] cell_alloc_some frozen_alloc_some

theorem rs_of_chk {c : C} (h : chk c = 0) : Rs (-1) c.vs := by
  unfold chk at h
  split at h
  · cases h
  · split at h
    · cases h
    · exact (chkV_rs _ _).1 h

set_option maxRecDepth 100000 in
set_option maxHeartbeats 4000000 in
theorem Add_double {w : World} {c : C} {v : Value} (x : Vt) (hx : c.x.length = 32) (hv : VRow w v c.vs) (hl : c.vs.length ≤ 1000000) (hc : chk c = 0) (hr : ¬ (x.p < 0 ∨ 64 ≤ x.p)) (hf : (findV c.vs x.p).isSome = true) :
    Calls Try.prog 12 #[.agg (ccs c v).toArray, vtV x] w (COut (addC c x) (addE c x) w) := by
  have he : addE c x = 8 := by unfold addE; rw [if_neg (by omega), if_neg hr, if_pos hf]
  have HE := Lib.hid (And.intro he (addC_no (by rw [he]; decide)))
  have HF := Lib.hid hf
  clear hf
  have HV := Lib.hid hv
  have HX := Lib.hid hx
  have hone := hv.one
  have HC := Lib.hid hc
  clear he hv hx hc
  go_enter Try.func12, Try.ntmps12
  go_upto_region 1 with fail
  refine wp_world fun wA hwA => ?_
  have hA : AddIn w wA c v x := by rw [hwA]; exact AddIn.mk' w c v x
  have HA := Lib.hid hA
  clear hwA hA
  go_wp2_with (with_reducible refine wpList_load_cw _ rfl (by kernel_rfl) _ rfl HA.out.e0 HX.out ?_)
  refine (Check_any' HX.out (HV.out.below HA.out.b) hl).mono ?_
  rintro e w1 ⟨rfl, b1⟩
  have HA1 := Lib.hid (HA.out.below b1)
  clear b1
  rw [HC.out]
  go_wp2_with fail
  obtain ⟨hp0, hp1⟩ := vt_boxed (kb_drew HA1.out.e1)
  refine wp_region_held_drew (S := (fun W : World => W.cell? ⟨w.heap.size + 1, 0, none⟩ = some (.int .i64 x.p) ∧ W.cell? ⟨w.heap.size + 1, 1, none⟩ = some (.int .u64 x.g))) (by kernel_rfl) ⟨hp0, hp1⟩ (fun hHeld => ?_)
  refine wpAnyH_take (i := 1) (oi := { dst := some 17, op := _, type := _, pos := _, after := _, guard := _ }) (v := ?_) rfl (by kernel_rfl) (by kernel_rfl) (by kernel_rfl) (fun _ _ _ h => h) (Or.inl ⟨by rfl, ?_⟩) hHeld ?_
  rotate_left
  · (intro w hSw; (try dsimp only at hSw); go_simp); all_goals with_reducible rfl
  try simp only [Act.put, List.setIfInBounds_toArray, List.set_cons_zero, List.set_cons_succ]
  refine wpAnyH_ready (rs := [0]) (by kernel_rfl) (by simp) (AllReadyH.cons (o := _) rfl (fun K hK => ?_) AllReadyH.nil)
  go_simp
  refine (rises_any _).mono ?_
  rintro e w2 ⟨rfl, rfl⟩
  have HA2 := Lib.hid (HA1.out.below (bl_alloc (bl_drew (Below.refl _ _)) (.cells #[.int .i64 (-1)] 3)))
  refine hK.out _ _ (vt_boxed HA2.out.e1) (fun hHeld => ?_)
  clear hK K
  refine wpAnyH_ready (rs := [2]) (by kernel_rfl) (by simp) (AllReadyH.cons (o := _) rfl (fun K hK => ?_) AllReadyH.nil)
  go_simp
  refine (rise_any (last := -1) x (kb_new (w := w1.drew) rfl _)).mono ?_
  rintro e w3 ⟨rfl, h3, k3⟩
  have hsz := HA1.out.size
  have E0 := k3.kb HA2.out.e0 (by simp; omega)
  have E1 := k3.kb HA2.out.e1 (by simp; omega)
  have E2 := k3.kb HA2.out.e2 (by simp; omega)
  have bb : Below w.heap.size w w3 := ((Keep.of_below (S := fun _ => False) HA2.out.b).trans k3 (fun b h e => by have : b = w1.heap.size := e; omega)).below (Nat.le_refl _) (fun b e => e.elim)
  have HA3 := Lib.hid (AddIn.mk E0 E1 E2 bb)
  refine hK.out _ _ (vt_boxed HA3.out.e1) (fun hHeld => ?_)
  clear hK K h3 k3 E0 E1 E2 bb
  generalize hrr : (riseS (-1) x).1 = rr at *
  refine wpAnyH_take (i := 3) (oi := { dst := some 7, op := _, type := _, pos := _, after := _, guard := _ }) (v := ?_) rfl (by kernel_rfl) (by kernel_rfl) (by kernel_rfl) (fun _ _ _ h => h) (Or.inl ⟨by rfl, ?_⟩) hHeld ?_
  rotate_left
  · (intro w hSw; (try dsimp only at hSw); go_simp); all_goals with_reducible rfl
  try simp only [Act.put, List.setIfInBounds_toArray, List.set_cons_zero, List.set_cons_succ]
  refine wpAnyH_done (by kernel_rfl) ?_ _
  have e3 : rr = 0 := by rw [← hrr, rise_0 (by omega) (by omega)]
  subst e3
  have q33 := ccs_33 HX.out v
  have c33 := (kb_cell HA3.out.e0 33).trans (by simpa using q33)
  obtain ⟨hp0, hp1⟩ := vt_boxed HA3.out.e1
  clear hHeld hrr
  obtain ⟨A, cap, hvv⟩ := HV.out.form
  subst hvv
  go_wp2_with fail
  refine (BinarySearch_any x.p (HV.out.below HA3.out.b) (rs_of_chk HC.out) hl).mono ?_
  rintro e w4 ⟨rfl, b4⟩
  have HA4 := Lib.hid (HA3.out.below b4)
  clear b4 c33 hp0 hp1
  rw [HF.out]
  go_wp2_with (refine wpList_store_c (op := ⟨none, _, _, _, _, _⟩) rfl _ _ rfl _ rfl (congrArg Value.agg zeroC) HA4.out.e2 zArr cZ_x rfl ?_)
  intro w5 g2 k2
  have HG := Lib.hid (And.intro g2 k2)
  clear g2 k2
  go_wp2_with fail
  refine bodyPost_ret (results_c rfl _ _ (w.heap.size + 2) cZ_x rfl HG.out.1 rfl) rfl ?_
  exact COut.none HE.out.2 (by rw [HE.out.1]; rfl) rfl (((Keep.of_below (S := fun _ => False) HA4.out.b).trans HG.out.2 (fun b h e => by omega)).below (Nat.le_refl _) (fun b e => e.elim))

theorem add_done {w w8 w9 : World} {c : C} {x : Vt} {A : Option Addr} {n k : Nat} {e : Ending} (he : addE c x = 0) (hC : addC c x = ⟨c.h, c.x, laidV c.vs x⟩) (hf : findV c.vs x.p = none) (hr : Rs (-1) c.vs) {X : List Vt} (hX : c.vs.take (cutN c.vs x.p) ++ x :: c.vs.drop (cutN c.vs x.p) = X)
    (ho : w8.ownsRow (w.heap.size + 3) 29 2 (.slice A n k) X.length (vcs X)) (hb : Below w.heap.size w w8) (hk : Keep (fun b => b = w.heap.size + 2) w8 w9) (hret : e = .returned (.tuple #[.agg (ccs c (.slice A n k)).toArray, .int .i64 0])) :
    COut (addC c x) (addE c x) w e w9 := by
  rw [he, hC]
  have hlc := laid_cut hr hf
  rw [← hX, ← hlc] at ho
  refine ⟨_, hret, owns_mono (hk.row ho (fun b h e => by have := (ho.lt b h).1; omega)) (by omega), ?_⟩
  exact ((Keep.of_below (S := fun _ => False) hb).trans hk (fun b h e => by omega)).below (Nat.le_refl _) (fun b e => e.elim)

set_option maxRecDepth 100000 in
set_option maxHeartbeats 4000000 in
theorem Add_yes {w : World} {c : C} {v : Value} (x : Vt) (hx : c.x.length = 32) (hv : VRow w v c.vs) (hl : c.vs.length ≤ 1000000) (hc : chk c = 0) (hr : ¬ (x.p < 0 ∨ 64 ≤ x.p)) (hf : findV c.vs x.p = none) :
    Calls Try.prog 12 #[.agg (ccs c v).toArray, vtV x] w (COut (addC c x) (addE c x) w) := by
  have he : addE c x = 0 := by unfold addE; rw [if_neg (by omega), if_neg hr, hf]; rfl
  have hC : addC c x = ⟨c.h, c.x, laidV c.vs x⟩ := by unfold addC; rw [if_pos he]
  have HE := Lib.hid (And.intro he hC)
  have HF := Lib.hid hf
  have hcut := cut_le c.vs x.p
  clear hf hC
  have HV := Lib.hid hv
  have HX := Lib.hid hx
  have hone := hv.one
  have HC := Lib.hid hc
  clear he hv hx hc
  go_enter Try.func12, Try.ntmps12
  go_upto_region 1 with fail
  refine wp_world fun wA hwA => ?_
  have hA : AddIn w wA c v x := by rw [hwA]; exact AddIn.mk' w c v x
  have HA := Lib.hid hA
  clear hwA hA
  go_wp2_with (with_reducible refine wpList_load_cw _ rfl (by kernel_rfl) _ rfl HA.out.e0 HX.out ?_)
  refine (Check_any' HX.out (HV.out.below HA.out.b) hl).mono ?_
  rintro e w1 ⟨rfl, b1⟩
  have HA1 := Lib.hid (HA.out.below b1)
  clear b1
  rw [HC.out]
  go_wp2_with fail
  obtain ⟨hp0, hp1⟩ := vt_boxed (kb_drew HA1.out.e1)
  refine wp_region_held_drew (S := (fun W : World => W.cell? ⟨w.heap.size + 1, 0, none⟩ = some (.int .i64 x.p) ∧ W.cell? ⟨w.heap.size + 1, 1, none⟩ = some (.int .u64 x.g))) (by kernel_rfl) ⟨hp0, hp1⟩ (fun hHeld => ?_)
  refine wpAnyH_take (i := 1) (oi := { dst := some 17, op := _, type := _, pos := _, after := _, guard := _ }) (v := ?_) rfl (by kernel_rfl) (by kernel_rfl) (by kernel_rfl) (fun _ _ _ h => h) (Or.inl ⟨by rfl, ?_⟩) hHeld ?_
  rotate_left
  · (intro w hSw; (try dsimp only at hSw); go_simp); all_goals with_reducible rfl
  try simp only [Act.put, List.setIfInBounds_toArray, List.set_cons_zero, List.set_cons_succ]
  refine wpAnyH_ready (rs := [0]) (by kernel_rfl) (by simp) (AllReadyH.cons (o := _) rfl (fun K hK => ?_) AllReadyH.nil)
  go_simp
  refine (rises_any _).mono ?_
  rintro e w2 ⟨rfl, rfl⟩
  have HA2 := Lib.hid (HA1.out.below (bl_alloc (bl_drew (Below.refl _ _)) (.cells #[.int .i64 (-1)] 3)))
  refine hK.out _ _ (vt_boxed HA2.out.e1) (fun hHeld => ?_)
  clear hK K
  refine wpAnyH_ready (rs := [2]) (by kernel_rfl) (by simp) (AllReadyH.cons (o := _) rfl (fun K hK => ?_) AllReadyH.nil)
  go_simp
  refine (rise_any (last := -1) x (kb_new (w := w1.drew) rfl _)).mono ?_
  rintro e w3 ⟨rfl, h3, k3⟩
  have hsz := HA1.out.size
  have E0 := k3.kb HA2.out.e0 (by simp; omega)
  have E1 := k3.kb HA2.out.e1 (by simp; omega)
  have E2 := k3.kb HA2.out.e2 (by simp; omega)
  have bb : Below w.heap.size w w3 := ((Keep.of_below (S := fun _ => False) HA2.out.b).trans k3 (fun b h e => by have : b = w1.heap.size := e; omega)).below (Nat.le_refl _) (fun b e => e.elim)
  have HA3 := Lib.hid (AddIn.mk E0 E1 E2 bb)
  refine hK.out _ _ (vt_boxed HA3.out.e1) (fun hHeld => ?_)
  clear hK K h3 k3 E0 E1 E2 bb
  generalize hrr : (riseS (-1) x).1 = rr at *
  refine wpAnyH_take (i := 3) (oi := { dst := some 7, op := _, type := _, pos := _, after := _, guard := _ }) (v := ?_) rfl (by kernel_rfl) (by kernel_rfl) (by kernel_rfl) (fun _ _ _ h => h) (Or.inl ⟨by rfl, ?_⟩) hHeld ?_
  rotate_left
  · (intro w hSw; (try dsimp only at hSw); go_simp); all_goals with_reducible rfl
  try simp only [Act.put, List.setIfInBounds_toArray, List.set_cons_zero, List.set_cons_succ]
  refine wpAnyH_done (by kernel_rfl) ?_ _
  have e3 : rr = 0 := by rw [← hrr, rise_0 (by omega) (by omega)]
  subst e3
  have q33 := ccs_33 HX.out v
  have c33 := (kb_cell HA3.out.e0 33).trans (by simpa using q33)
  obtain ⟨hp0, hp1⟩ := vt_boxed HA3.out.e1
  clear hHeld hrr
  obtain ⟨A, cap, hvv⟩ := HV.out.form
  subst hvv
  go_wp2_with fail
  refine (BinarySearch_any x.p (HV.out.below HA3.out.b) (rs_of_chk HC.out) hl).mono ?_
  rintro e w4 ⟨rfl, b4⟩
  have HA4 := Lib.hid (HA3.out.below b4)
  clear b4 c33 hp0 hp1
  rw [HF.out]
  have hnb : (Option.none : Option Nat).isSome = false := rfl
  go_upto_region 10 with fail
  obtain ⟨hp0, hp1⟩ := vt_boxed (kb_drew HA4.out.e1)
  have HA5 := Lib.hid (HA4.out.below (bl_drew (Below.refl _ _)))
  have c33 := (kb_cell HA5.out.e0 33).trans (by simpa using q33)
  refine wp_region_held_drew (S := (fun W : World => W.cell? ⟨w.heap.size + 1, 0, none⟩ = some (.int .i64 x.p) ∧ W.cell? ⟨w.heap.size + 1, 1, none⟩ = some (.int .u64 x.g))) (by kernel_rfl) ⟨hp0, hp1⟩ (fun hHeld => ?_)
  generalize w4.drew = w5 at *
  refine wpAnyH_take (i := 0) (oi := { dst := some 33, op := _, type := _, pos := _, after := _, guard := _ }) (v := ?_) rfl (by kernel_rfl) (by kernel_rfl) (by kernel_rfl) (fun _ _ _ h => h) (Or.inl ⟨by rfl, ?_⟩) hHeld ?_
  rotate_left
  · (intro w hSw; (try dsimp only at hSw); go_simp); all_goals with_reducible rfl
  try simp only [Act.put, List.setIfInBounds_toArray, List.set_cons_zero, List.set_cons_succ]
  refine wpAnyH_take (i := 3) (oi := { dst := some 36, op := _, type := _, pos := _, after := _, guard := _ }) (v := ?_) rfl (by kernel_rfl) (by kernel_rfl) (by kernel_rfl) (fun _ _ _ h => h) (Or.inl ⟨by rfl, ?_⟩) hHeld ?_
  rotate_left
  · (intro w hSw; (try dsimp only at hSw); go_simp); all_goals with_reducible rfl
  try simp only [Act.put, List.setIfInBounds_toArray, List.set_cons_zero, List.set_cons_succ]
  refine wpAnyH_take (i := 4) (oi := { dst := some 37, op := _, type := _, pos := _, after := _, guard := _ }) (v := ?_) rfl (by kernel_rfl) (by kernel_rfl) (by kernel_rfl) (fun _ _ _ h => h) (Or.inl ⟨by rfl, ?_⟩) hHeld ?_
  rotate_left
  · (intro w hSw; (try dsimp only at hSw); go_simp); all_goals with_reducible rfl
  try simp only [Act.put, List.setIfInBounds_toArray, List.set_cons_zero, List.set_cons_succ]
  refine wpAnyH_ready (rs := [1, 5]) (by kernel_rfl) (by simp) (AllReadyH.cons (o := _) rfl (fun K hK => ?_) (AllReadyH.cons (o := _) rfl (fun K hK => ?_) AllReadyH.nil))
  · go_simp
    refine hK.out _ _ (vt_boxed HA5.out.e1) (fun hHeld => ?_)
    clear hK K
    refine wpAnyH_ready (rs := [2, 5]) (by kernel_rfl) (by simp) (AllReadyH.cons (o := _) rfl (fun K hK => ?_) (AllReadyH.cons (o := _) rfl (fun K hK => ?_) AllReadyH.nil))
    · go_simp
      refine (CloneV_any (HV.out.below HA5.out.b) hl).mono ?_
      rintro e w6 ⟨v6, rfl, n6⟩
      have HA6 := Lib.hid (HA5.out.below n6.2)
      obtain ⟨A6, c6, rfl⟩ := owns_slice0 n6.1
      have HN6 := Lib.hid n6
      refine hK.out _ _ (vt_boxed HA6.out.e1) (fun hHeld => ?_)
      clear hK K n6
      refine wpAnyH_ready (rs := [5]) (by kernel_rfl) (by simp) (AllReadyH.cons (o := _) rfl (fun K hK => ?_) AllReadyH.nil)
      go_simp
      have HA7 := Lib.hid (HA6.out.below (bl_alloc (Below.refl _ _) (.cells #[.int .i64 x.p, .int .u64 x.g] 29)))
      have HL7 := Lib.hid (show ((w6).alloc (.cells #[.int .i64 x.p, .int .u64 x.g] 29)).heap[(w6).heap.size]? = some _ from kb_new rfl _)
      refine hK.out _ _ (vt_boxed HA7.out.e1) (fun hHeld => ?_)
      clear hK K
      have HT := Lib.hid HA7.out
      have HO := Lib.hid (owns_mono (base' := w.heap.size + 3) (HN6.out.1.alloc (.cells #[.int .i64 x.p, .int .u64 x.g] 29)) (by have := HA5.out.size; omega))
      have HLT := HL7
      have HNe := Lib.hid (show (Value.slice A6 c.vs.length c6).ownBlock ≠ some w6.heap.size from fun h => by have := (HN6.out.1.lt _ h).2; omega)
      refine wpAnyH_ready (rs := [6]) (by kernel_rfl) (by simp) (AllReadyH.cons (o := _) rfl (fun K hK => ?_) AllReadyH.nil)
      go_simp
      refine (Insert_any (x := x) (cutN c.vs x.p) HO.out HLT.out HNe.out hcut (by have := HT.out.size; omega) hl).mono ?_
      rintro e w8 ⟨s', rfl, ho', k', hb'⟩
      generalize hXL : c.vs.take (cutN c.vs x.p) ++ x :: c.vs.drop (cutN c.vs x.p) = X at ho'
      have HXL := Lib.hid hXL
      clear hXL
      have hob := fun b h => (HO.out.lt b h).1
      have E0 := k'.kb HT.out.e0 (fun h => by have := hob _ h; omega)
      have E1 := k'.kb HT.out.e1 (fun h => by have := hob _ h; omega)
      have E2 := k'.kb HT.out.e2 (fun h => by have := hob _ h; omega)
      have bb : Below w.heap.size w w8 := ((Keep.of_below (S := fun _ => False) HT.out.b).trans k' (fun b h e => by have := hob b e; omega)).below (Nat.le_refl _) (fun b e => e.elim)
      obtain ⟨A8, c8, rfl⟩ := owns_slice0 ho'
      have e33 := (kb_cell E0 33).trans (by simpa using q33)
      have z33 := kb_frozen E0 33
      have F0 := kb_set (i := 33) E0 (.slice A8 X.length c8)
      rw [ccs_set HX.out] at F0
      have F1 := kb_far E1 (p := ⟨w.heap.size, 33, none⟩) (by simp) (.slice A8 X.length c8)
      have F2 := kb_far E2 (p := ⟨w.heap.size, 33, none⟩) (by simp) (.slice A8 X.length c8)
      have ho2 := own_set (p := w.heap.size) (i := 33) (u := .slice A8 X.length c8) ho' (fun e => by have := (ho'.lt _ e).1; omega)
      have HQ := Lib.hid (And.intro F0 (And.intro F1 (And.intro F2 (And.intro ho2 bb))))
      refine hK.out _ _ (vt_boxed E1) (fun hHeld => ?_)
      clear hK K E0 E1 E2 bb F0 F1 F2 ho2 hob k' hb'
      refine wpAnyH_take (i := 7) (oi := { dst := some 40, op := _, type := _, pos := _, after := _, guard := _ }) (v := ?_) rfl (by kernel_rfl) (by kernel_rfl) (by kernel_rfl) (fun _ _ _ h => h) (Or.inl ⟨by rfl, ?_⟩) hHeld ?_
      rotate_left
      · (intro w hSw; (try dsimp only at hSw); go_simp); all_goals with_reducible rfl
      try simp only [Act.put, List.setIfInBounds_toArray, List.set_cons_zero, List.set_cons_succ]
      refine wpAnyH_ready (rs := [8]) (by kernel_rfl) (by simp) (AllReadyH.cons (o := _) rfl (fun K hK => ?_) AllReadyH.nil)
      go_simp
      refine hK.out _ _ (vt_boxed HQ.out.2.1) (fun hHeld => ?_)
      clear hK K
      refine wpAnyH_done (by kernel_rfl) ?_ _
      clear hHeld e33 z33
      go_wp2_with (first
        | (with_reducible refine wpList_load_cw _ rfl (by kernel_rfl) _ rfl HQ.out.1 HX.out ?_)
        | (refine wpList_store_c (op := ⟨none, _, _, _, _, _⟩) rfl _ _ rfl _ rfl rfl HQ.out.2.2.1 zArr HX.out rfl ?_))
      intro w9 g9 k9
      have HG := Lib.hid (And.intro g9 k9)
      clear g9 k9
      go_wp2_with fail
      refine bodyPost_ret (results_c rfl _ _ (w.heap.size + 2) HX.out rfl HG.out.1 rfl) rfl ?_
      exact add_done HE.out.1 HE.out.2 HF.out (rs_of_chk HC.out) HXL.out HQ.out.2.2.2.1 (bl_set (p := ⟨w.heap.size, 33, none⟩) (Nat.le_refl _) HQ.out.2.2.2.2 _) HG.out.2 (by rfl)
    · go_simp
      have HA7 := Lib.hid (HA5.out.below (bl_alloc (Below.refl _ _) (.cells #[.int .i64 x.p, .int .u64 x.g] 29)))
      have HL7 := Lib.hid (show ((w5).alloc (.cells #[.int .i64 x.p, .int .u64 x.g] 29)).heap[(w5).heap.size]? = some _ from kb_new rfl _)
      refine hK.out _ _ (vt_boxed HA7.out.e1) (fun hHeld => ?_)
      clear hK K
      refine wpAnyH_ready (rs := [2]) (by kernel_rfl) (by simp) (AllReadyH.cons (o := _) rfl (fun K hK => ?_) AllReadyH.nil)
      go_simp
      refine (CloneV_any (HV.out.below HA7.out.b) hl).mono ?_
      rintro e w6 ⟨v6, rfl, n6⟩
      have HA6 := Lib.hid (HA7.out.below n6.2)
      obtain ⟨A6, c6, rfl⟩ := owns_slice0 n6.1
      have HN6 := Lib.hid n6
      refine hK.out _ _ (vt_boxed HA6.out.e1) (fun hHeld => ?_)
      clear hK K n6
      have HT := Lib.hid HA6.out
      have HO := Lib.hid (owns_mono (base' := w.heap.size + 3) HN6.out.1 (by have := HA7.out.size; omega))
      have HLT := Lib.hid (kb_below HN6.out.2 HL7.out)
      have HNe := Lib.hid (show (Value.slice A6 c.vs.length c6).ownBlock ≠ some w5.heap.size from fun h => by have := (HN6.out.1.lt _ h).1; simp at this; omega)
      refine wpAnyH_ready (rs := [6]) (by kernel_rfl) (by simp) (AllReadyH.cons (o := _) rfl (fun K hK => ?_) AllReadyH.nil)
      go_simp
      refine (Insert_any (x := x) (cutN c.vs x.p) HO.out HLT.out HNe.out hcut (by have := HT.out.size; omega) hl).mono ?_
      rintro e w8 ⟨s', rfl, ho', k', hb'⟩
      generalize hXL : c.vs.take (cutN c.vs x.p) ++ x :: c.vs.drop (cutN c.vs x.p) = X at ho'
      have HXL := Lib.hid hXL
      clear hXL
      have hob := fun b h => (HO.out.lt b h).1
      have E0 := k'.kb HT.out.e0 (fun h => by have := hob _ h; omega)
      have E1 := k'.kb HT.out.e1 (fun h => by have := hob _ h; omega)
      have E2 := k'.kb HT.out.e2 (fun h => by have := hob _ h; omega)
      have bb : Below w.heap.size w w8 := ((Keep.of_below (S := fun _ => False) HT.out.b).trans k' (fun b h e => by have := hob b e; omega)).below (Nat.le_refl _) (fun b e => e.elim)
      obtain ⟨A8, c8, rfl⟩ := owns_slice0 ho'
      have e33 := (kb_cell E0 33).trans (by simpa using q33)
      have z33 := kb_frozen E0 33
      have F0 := kb_set (i := 33) E0 (.slice A8 X.length c8)
      rw [ccs_set HX.out] at F0
      have F1 := kb_far E1 (p := ⟨w.heap.size, 33, none⟩) (by simp) (.slice A8 X.length c8)
      have F2 := kb_far E2 (p := ⟨w.heap.size, 33, none⟩) (by simp) (.slice A8 X.length c8)
      have ho2 := own_set (p := w.heap.size) (i := 33) (u := .slice A8 X.length c8) ho' (fun e => by have := (ho'.lt _ e).1; omega)
      have HQ := Lib.hid (And.intro F0 (And.intro F1 (And.intro F2 (And.intro ho2 bb))))
      refine hK.out _ _ (vt_boxed E1) (fun hHeld => ?_)
      clear hK K E0 E1 E2 bb F0 F1 F2 ho2 hob k' hb'
      refine wpAnyH_take (i := 7) (oi := { dst := some 40, op := _, type := _, pos := _, after := _, guard := _ }) (v := ?_) rfl (by kernel_rfl) (by kernel_rfl) (by kernel_rfl) (fun _ _ _ h => h) (Or.inl ⟨by rfl, ?_⟩) hHeld ?_
      rotate_left
      · (intro w hSw; (try dsimp only at hSw); go_simp); all_goals with_reducible rfl
      try simp only [Act.put, List.setIfInBounds_toArray, List.set_cons_zero, List.set_cons_succ]
      refine wpAnyH_ready (rs := [8]) (by kernel_rfl) (by simp) (AllReadyH.cons (o := _) rfl (fun K hK => ?_) AllReadyH.nil)
      go_simp
      refine hK.out _ _ (vt_boxed HQ.out.2.1) (fun hHeld => ?_)
      clear hK K
      refine wpAnyH_done (by kernel_rfl) ?_ _
      clear hHeld e33 z33
      go_wp2_with (first
        | (with_reducible refine wpList_load_cw _ rfl (by kernel_rfl) _ rfl HQ.out.1 HX.out ?_)
        | (refine wpList_store_c (op := ⟨none, _, _, _, _, _⟩) rfl _ _ rfl _ rfl rfl HQ.out.2.2.1 zArr HX.out rfl ?_))
      intro w9 g9 k9
      have HG := Lib.hid (And.intro g9 k9)
      clear g9 k9
      go_wp2_with fail
      refine bodyPost_ret (results_c rfl _ _ (w.heap.size + 2) HX.out rfl HG.out.1 rfl) rfl ?_
      exact add_done HE.out.1 HE.out.2 HF.out (rs_of_chk HC.out) HXL.out HQ.out.2.2.2.1 (bl_set (p := ⟨w.heap.size, 33, none⟩) (Nat.le_refl _) HQ.out.2.2.2.2 _) HG.out.2 (by rfl)
  · go_simp
    have HA7 := Lib.hid (HA5.out.below (bl_alloc (Below.refl _ _) (.cells #[.int .i64 x.p, .int .u64 x.g] 29)))
    have HL7 := Lib.hid (show ((w5).alloc (.cells #[.int .i64 x.p, .int .u64 x.g] 29)).heap[(w5).heap.size]? = some _ from kb_new rfl _)
    refine hK.out _ _ (vt_boxed HA7.out.e1) (fun hHeld => ?_)
    clear hK K
    have c33' := (kb_cell HA7.out.e0 33).trans (by simpa using q33)
    refine wpAnyH_ready (rs := [1]) (by kernel_rfl) (by simp) (AllReadyH.cons (o := _) rfl (fun K hK => ?_) AllReadyH.nil)
    go_simp
    refine hK.out _ _ (vt_boxed HA7.out.e1) (fun hHeld => ?_)
    clear hK K
    refine wpAnyH_ready (rs := [2]) (by kernel_rfl) (by simp) (AllReadyH.cons (o := _) rfl (fun K hK => ?_) AllReadyH.nil)
    go_simp
    refine (CloneV_any (HV.out.below HA7.out.b) hl).mono ?_
    rintro e w6 ⟨v6, rfl, n6⟩
    have HA6 := Lib.hid (HA7.out.below n6.2)
    obtain ⟨A6, c6, rfl⟩ := owns_slice0 n6.1
    have HN6 := Lib.hid n6
    refine hK.out _ _ (vt_boxed HA6.out.e1) (fun hHeld => ?_)
    clear hK K n6
    have HT := Lib.hid HA6.out
    have HO := Lib.hid (owns_mono (base' := w.heap.size + 3) HN6.out.1 (by have := HA7.out.size; omega))
    have HLT := Lib.hid (kb_below HN6.out.2 HL7.out)
    have HNe := Lib.hid (show (Value.slice A6 c.vs.length c6).ownBlock ≠ some w5.heap.size from fun h => by have := (HN6.out.1.lt _ h).1; simp at this; omega)
    refine wpAnyH_ready (rs := [6]) (by kernel_rfl) (by simp) (AllReadyH.cons (o := _) rfl (fun K hK => ?_) AllReadyH.nil)
    go_simp
    refine (Insert_any (x := x) (cutN c.vs x.p) HO.out HLT.out HNe.out hcut (by have := HT.out.size; omega) hl).mono ?_
    rintro e w8 ⟨s', rfl, ho', k', hb'⟩
    generalize hXL : c.vs.take (cutN c.vs x.p) ++ x :: c.vs.drop (cutN c.vs x.p) = X at ho'
    have HXL := Lib.hid hXL
    clear hXL
    have hob := fun b h => (HO.out.lt b h).1
    have E0 := k'.kb HT.out.e0 (fun h => by have := hob _ h; omega)
    have E1 := k'.kb HT.out.e1 (fun h => by have := hob _ h; omega)
    have E2 := k'.kb HT.out.e2 (fun h => by have := hob _ h; omega)
    have bb : Below w.heap.size w w8 := ((Keep.of_below (S := fun _ => False) HT.out.b).trans k' (fun b h e => by have := hob b e; omega)).below (Nat.le_refl _) (fun b e => e.elim)
    obtain ⟨A8, c8, rfl⟩ := owns_slice0 ho'
    have e33 := (kb_cell E0 33).trans (by simpa using q33)
    have z33 := kb_frozen E0 33
    have F0 := kb_set (i := 33) E0 (.slice A8 X.length c8)
    rw [ccs_set HX.out] at F0
    have F1 := kb_far E1 (p := ⟨w.heap.size, 33, none⟩) (by simp) (.slice A8 X.length c8)
    have F2 := kb_far E2 (p := ⟨w.heap.size, 33, none⟩) (by simp) (.slice A8 X.length c8)
    have ho2 := own_set (p := w.heap.size) (i := 33) (u := .slice A8 X.length c8) ho' (fun e => by have := (ho'.lt _ e).1; omega)
    have HQ := Lib.hid (And.intro F0 (And.intro F1 (And.intro F2 (And.intro ho2 bb))))
    refine hK.out _ _ (vt_boxed E1) (fun hHeld => ?_)
    clear hK K E0 E1 E2 bb F0 F1 F2 ho2 hob k' hb'
    refine wpAnyH_take (i := 7) (oi := { dst := some 40, op := _, type := _, pos := _, after := _, guard := _ }) (v := ?_) rfl (by kernel_rfl) (by kernel_rfl) (by kernel_rfl) (fun _ _ _ h => h) (Or.inl ⟨by rfl, ?_⟩) hHeld ?_
    rotate_left
    · (intro w hSw; (try dsimp only at hSw); go_simp); all_goals with_reducible rfl
    try simp only [Act.put, List.setIfInBounds_toArray, List.set_cons_zero, List.set_cons_succ]
    refine wpAnyH_ready (rs := [8]) (by kernel_rfl) (by simp) (AllReadyH.cons (o := _) rfl (fun K hK => ?_) AllReadyH.nil)
    go_simp
    refine hK.out _ _ (vt_boxed HQ.out.2.1) (fun hHeld => ?_)
    clear hK K
    refine wpAnyH_done (by kernel_rfl) ?_ _
    clear hHeld e33 z33
    go_wp2_with (first
      | (with_reducible refine wpList_load_cw _ rfl (by kernel_rfl) _ rfl HQ.out.1 HX.out ?_)
      | (refine wpList_store_c (op := ⟨none, _, _, _, _, _⟩) rfl _ _ rfl _ rfl rfl HQ.out.2.2.1 zArr HX.out rfl ?_))
    intro w9 g9 k9
    have HG := Lib.hid (And.intro g9 k9)
    clear g9 k9
    go_wp2_with fail
    refine bodyPost_ret (results_c rfl _ _ (w.heap.size + 2) HX.out rfl HG.out.1 rfl) rfl ?_
    exact add_done HE.out.1 HE.out.2 HF.out (rs_of_chk HC.out) HXL.out HQ.out.2.2.2.1 (bl_set (p := ⟨w.heap.size, 33, none⟩) (Nat.le_refl _) HQ.out.2.2.2.2 _) HG.out.2 (by rfl)

theorem Add_any {w : World} {c : C} {v : Value} (x : Vt) (hx : c.x.length = 32) (hv : VRow w v c.vs) (hl : c.vs.length ≤ 1000000) :
    Calls Try.prog 12 #[.agg (ccs c v).toArray, vtV x] w (COut (addC c x) (addE c x) w) := by
  by_cases hc : chk c = 0
  · by_cases hr : x.p < 0 ∨ 64 ≤ x.p
    · exact Add_range x hx hv hl hc hr
    · cases hf : findV c.vs x.p with
      | none => exact Add_yes x hx hv hl hc hr hf
      | some g => exact Add_double x hx hv hl hc hr (by rw [hf]; rfl)
  · exact Add_bad x hx hv hl hc
end Go.Proofs.Ytooghjnddifpdaa
