/- The walk of CommitGrows. -/
import Derived.Test.YtooghjnddifpdaaCm36
import Derived.Deep.Cut
import Derived.Deep.DeepCutAuto
namespace Go.Proofs.Ytooghjnddifpdaa
open Go.RowKit Go.Proofs.Ytooghjnddifpdaa.Cm BigFrame
set_option linter.unusedSimpArgs false
set_option linter.unusedVariables false
attribute [local go_sem] cell_alloc_some frozen_alloc_some

def sliceLen : Value → Nat
  | .slice _ n _ => n
  | _ => 0
/-- Ahead of the loop. -/
structure In9 (w W : World) (c : C) (u : Value) (q9 : Nat) (lv : Value) : Prop where
  c0 : Cb W w.heap.size c u
  e9 : Cb W q9 ⟨c.h, c.x, []⟩ vZ
  rl : Vown w.heap.size W lv c.vs
  k : Below w.heap.size w W
  lt : w.heap.size < q9
theorem In9.below {w W W' : World} {c : C} {u : Value} {q9 : Nat} {lv : Value} (H : In9 w W c u q9 lv) (k : Below W.heap.size W W') : In9 w W' c u q9 lv :=
  ⟨kb_below k H.c0, kb_below k H.e9, H.rl.below' k, bl_then H.k k, H.lt⟩
theorem In9.keep {w W W' : World} {c c' : C} {u u' : Value} {q9 q : Nat} {lv : Value} (H : In9 w W c u q9 lv) (hq : Cb W q c' u') (k : Keep (fun x => x = q) W W') (h1 : w.heap.size < q) (h2 : q ≠ q9) : In9 w W' c u q9 lv :=
  ⟨k.kb H.c0 (fun e => by omega), k.kb H.e9 (fun e => h2 e.symm), H.rl.keep' hq k, ((Keep.of_below (S := fun _ => False) H.k).trans k (fun b hb e => by omega)).below (Nat.le_refl _) (fun b e => e.elim), H.lt⟩
set_option maxRecDepth 100000 in
set_option maxHeartbeats 2000000 in
theorem CommitGrows_walk {w : World} {c : C} {u : Value} {A2 A3 : Option Addr} {cap2 cap3 : Nat} {zs : List Int} {ps : List Bool} (hx : c.x.length = 32) (hu : VRow w u c.vs) (hz : IntRow w A2 zs) (hp : BoolRow w A3 ps) :
    Calls Try.prog 5 #[.agg (ccs c u).toArray, .slice A2 zs.length cap2, .slice A3 ps.length cap3] w fun e w' => e = .returned (.bool true) ∧ Below w.heap.size w w' := by
  have HX := Lib.hid hx
  have HU := Lib.hid hu
  have HZ := Lib.hid hz
  have HP := Lib.hid hp
  have honu := hu.one
  have q0 := ccs_0 c u
  clear hu hz hp
  go_enter Try.func5, Try.ntmps5
  go_upto_region 1 with fail
  refine wp_world fun w1 hw => ?_
  have H1 : Hid (Cb w1 w.heap.size c u ∧ Below w.heap.size w w1) := by rw [hw]; exact Lib.hid ⟨kb_new rfl _, bl_alloc (Below.refl _ _) _⟩
  clear hw
  go_wp2_with fail
  refine (CommitKnown_walk _).mono ?_
  rintro e w2 ⟨rfl, b2⟩
  have H2 := Lib.hid (And.intro (kb_below b2 H1.out.1) (bl_then H1.out.2 b2))
  clear b2 H1
  go_wp2_with (with_reducible refine wpList_load_cw _ rfl (by kernel_rfl) _ rfl H2.out.1 HX.out ?_)
  refine (long_any' HX.out (HU.out.below H2.out.2)).mono ?_
  rintro e w3 ⟨rfl, b3⟩
  have H3 := Lib.hid (And.intro (kb_below b3 H2.out.1) (bl_then H2.out.2 b3))
  clear b3 H2
  by_cases hl : 70 < c.vs.length
  · rw [decide_eq_true hl]
    clear hl
    go_wp2_with fail
    go_ret
    exact ⟨rfl, H3.out.2⟩
  · rw [decide_eq_false hl]
    have HL := Lib.hid hl
    clear hl
    by_cases h1 : 100 < zs.length
    · have i1 : decide ((100 : Int) < (zs.length : Int)) = true := by simp; omega
      go_wp2_with fail
      go_ret
      exact ⟨rfl, H3.out.2⟩
    · by_cases h2 : 100 < ps.length
      · have i1 : decide ((100 : Int) < (zs.length : Int)) = false := by simp; omega
        have i2 : decide ((100 : Int) < (ps.length : Int)) = true := by simp; omega
        go_wp2_with fail
        go_ret
        exact ⟨rfl, H3.out.2⟩
      · have i1 : decide ((100 : Int) < (zs.length : Int)) = false := by simp; omega
        have i2 : decide ((100 : Int) < (ps.length : Int)) = false := by simp; omega
        go_wp2_with (with_reducible refine wpList_load_cw _ rfl (by kernel_rfl) _ rfl H3.out.1 HX.out ?_)
        refine (Check_any' HX.out (HU.out.below H3.out.2) (by have := HL.out; omega)).mono ?_
        rintro e w4 ⟨rfl, b4⟩
        have H4 := Lib.hid (And.intro (kb_below b4 H3.out.1) (bl_then H3.out.2 b4))
        clear b4 H3
        by_cases hc : chk c = 0
        · rw [hc]
          obtain ⟨c1, c2, c3, hvr⟩ := chk_zero hc
          have HC := Lib.hid (And.intro c1 (And.intro c2 (And.intro c3 hvr)))
          clear c1 c2 c3 hvr hc
          have hzl : Hid (zs.length ≤ 100 ∧ ps.length ≤ 100) := Lib.hid (by omega)
          clear h1 h2 i1 i2
          go_wp2_with (first
            | (with_reducible refine wpList_load_cw _ rfl (by kernel_rfl) _ rfl H4.out.1 HX.out ?_))
          refine (CopyCommit_any HX.out (HU.out.below H4.out.2) (by have := HC.out.2.2.1; omega)).mono ?_
          rintro e w5 ⟨v5, rfl, n5⟩
          have H5 := Lib.hid (And.intro (kb_below n5.2 H4.out.1) (And.intro (bl_then H4.out.2 n5.2) (show Vown w.heap.size w5 v5 c.vs from owns_mono n5.1 H4.out.2.size)))
          obtain ⟨A5, cap5, hv5⟩ := owns_slice0 n5.1
          subst hv5
          have d0 : w5.cell? ⟨w.heap.size, 0, none⟩ = some (.int .i64 c.h) := (kb_cell H5.out.1 0).trans (by simpa using q0)
          clear n5 H4
          go_upto_region 6 with (first
            | (refine wpList_field2 (op := ⟨some 41, _, _, _, _, _⟩) rfl _ rfl rfl HX.out rfl ?_)
            | (refine wpList_load_hw (op := ⟨some 45, _, _, _, _, _⟩) _ rfl rfl w.heap.size rfl H5.out.1 HX.out ?_)
            | (refine wpList_build_h (op := ⟨some 46, _, _, _, _, _⟩) rfl _ _ rfl rfl rfl HX.out ?_)
            | (refine wpList_store_cn (op := ⟨none, .store 26 _ _, _, _, _, _⟩) (c := ⟨c.h, c.x, []⟩) (v := vZ) rfl _ _ rfl rfl rfl rfl HX.out rfl ?_))
          have H6 := Lib.hid (show In9 w (w5.alloc (.cells (ccs ⟨c.h, c.x, []⟩ vZ).toArray 26)) c u w5.heap.size (.slice A5 c.vs.length cap5) from
            (⟨kb_alloc H5.out.1 _, kb_new rfl _, H5.out.2.2.alloc _, bl_alloc H5.out.2.1 _, kb_lt H5.out.1⟩))
          have hq9 : w5.heap.size < (w5.alloc (.cells (ccs ⟨c.h, c.x, []⟩ vZ).toArray 26)).heap.size := by simp
          clear H5 d0
          generalize w5.alloc (.cells (ccs ⟨c.h, c.x, []⟩ vZ).toArray 26) = w6 at *
          generalize w5.heap.size = q9 at *
          try simp only [Act.put, List.setIfInBounds_toArray, List.set_cons_zero, List.set_cons_succ]
          go_cut [10, 11, 12] from 20 to 49 (fun s10 s11 s12 wx => ∃ (q1 q2 q3 : Nat), s10 = .pointer (some ⟨q1, 0, none⟩) ∧ s11 = .pointer (some ⟨q2, 0, none⟩) ∧ s12 = .pointer (some ⟨q3, 0, none⟩) ∧ Hid (Gw w wx c u q1 q2 q3 (.slice A5 c.vs.length cap5) vZ vZ vZ c.vs [] [] []))
          case first =>
            have HA := Lib.hid (H6.out.below (bl_drew (Below.refl _ _)))
            have hq9' : q9 < w6.drew.heap.size := hq9
            clear H6 hq9
            refine wp_region_held_drew (S := (fun W : World => W.rangeAt q9 0 (ccs ⟨c.h, c.x, []⟩ vZ))) (by kernel_rfl) (range_of_kb HA.out.e9) (fun hHeld => ?_)
            generalize w6.drew = w7 at *
            refine wpAnyH_take (i := 0) (oi := { dst := some 47, op := _, type := _, pos := _, after := _, guard := _ }) (v := _) rfl (by kernel_rfl) (by kernel_rfl) (by kernel_rfl) (fun _ _ _ h => h) (yieldsIf_load_mid (by rfl) 26 _ rfl q9 0 rfl (ccs ⟨c.h, c.x, []⟩ vZ) _ (fun _ h => h) Try.underlying26 rfl (sizeC.trans (ccs_lenA HX.out).symm)) hHeld ?_
            try simp only [Act.put, List.setIfInBounds_toArray, List.set_cons_zero, List.set_cons_succ]
            refine wpAnyH_take (i := 1) (oi := { dst := some 48, op := _, type := _, pos := _, after := _, guard := _ }) (v := _) rfl (by kernel_rfl) (by kernel_rfl) (by kernel_rfl) (fun _ _ _ h => h) (yieldsIf_load_mid (by rfl) 26 _ rfl q9 0 rfl (ccs ⟨c.h, c.x, []⟩ vZ) _ (fun _ h => h) Try.underlying26 rfl (sizeC.trans (ccs_lenA HX.out).symm)) hHeld ?_
            try simp only [Act.put, List.setIfInBounds_toArray, List.set_cons_zero, List.set_cons_succ]
            refine wpAnyH_take (i := 2) (oi := { dst := some 49, op := _, type := _, pos := _, after := _, guard := _ }) (v := _) rfl (by kernel_rfl) (by kernel_rfl) (by kernel_rfl) (fun _ _ _ h => h) (yieldsIf_load_mid (by rfl) 26 _ rfl q9 0 rfl (ccs ⟨c.h, c.x, []⟩ vZ) _ (fun _ h => h) Try.underlying26 rfl (sizeC.trans (ccs_lenA HX.out).symm)) hHeld ?_
            try simp only [Act.put, List.setIfInBounds_toArray, List.set_cons_zero, List.set_cons_succ]
            refine wpAnyH_ready (rs := [3, 4, 5]) (by kernel_rfl) (by simp) (AllReadyH.cons (o := _) rfl (fun K hK => ?_) (AllReadyH.cons (o := _) rfl (fun K hK => ?_) (AllReadyH.cons (o := _) rfl (fun K hK => ?_) AllReadyH.nil)))
            · go_simp
              have HA := Lib.hid (HA.out.below (bl_alloc (Below.refl _ (w7)) (.cells (ccs cZ vZ).toArray 26)))
              have HO3 := Lib.hid (show Cb ((w7).alloc (.cells (ccs cZ vZ).toArray 26)) (w7.heap.size) cZ vZ from kb_new (by simp) _)
              refine hK.out _ _ (range_of_kb HA.out.e9) (fun hHeld => ?_)
              clear hK K
              refine wpAnyH_ready (rs := [4, 5]) (by kernel_rfl) (by simp) (AllReadyH.cons (o := _) rfl (fun K hK => ?_) (AllReadyH.cons (o := _) rfl (fun K hK => ?_) AllReadyH.nil))
              · go_simp
                have HO3 := Lib.hid (kb_below (bl_alloc (Below.refl _ ((w7).alloc (.cells (ccs cZ vZ).toArray 26))) (.cells (ccs cZ vZ).toArray 26)) HO3.out)
                have HA := Lib.hid (HA.out.below (bl_alloc (Below.refl _ ((w7).alloc (.cells (ccs cZ vZ).toArray 26))) (.cells (ccs cZ vZ).toArray 26)))
                have HO4 := Lib.hid (show Cb (((w7).alloc (.cells (ccs cZ vZ).toArray 26)).alloc (.cells (ccs cZ vZ).toArray 26)) (w7.heap.size + 1) cZ vZ from kb_new (by simp) _)
                refine hK.out _ _ (range_of_kb HA.out.e9) (fun hHeld => ?_)
                clear hK K
                refine wpAnyH_ready (rs := [5]) (by kernel_rfl) (by simp) (AllReadyH.cons (o := _) rfl (fun K hK => ?_) AllReadyH.nil)
                go_simp
                have HO3 := Lib.hid (kb_below (bl_alloc (Below.refl _ (((w7).alloc (.cells (ccs cZ vZ).toArray 26)).alloc (.cells (ccs cZ vZ).toArray 26))) (.cells (ccs cZ vZ).toArray 26)) HO3.out)
                have HO4 := Lib.hid (kb_below (bl_alloc (Below.refl _ (((w7).alloc (.cells (ccs cZ vZ).toArray 26)).alloc (.cells (ccs cZ vZ).toArray 26))) (.cells (ccs cZ vZ).toArray 26)) HO4.out)
                have HA := Lib.hid (HA.out.below (bl_alloc (Below.refl _ (((w7).alloc (.cells (ccs cZ vZ).toArray 26)).alloc (.cells (ccs cZ vZ).toArray 26))) (.cells (ccs cZ vZ).toArray 26)))
                have HO5 := Lib.hid (show Cb ((((w7).alloc (.cells (ccs cZ vZ).toArray 26)).alloc (.cells (ccs cZ vZ).toArray 26)).alloc (.cells (ccs cZ vZ).toArray 26)) (w7.heap.size + 1 + 1) cZ vZ from kb_new (by simp) _)
                refine hK.out _ _ (range_of_kb HA.out.e9) (fun hHeld => ?_)
                clear hK K
                refine wpAnyH_ready (rs := [6]) (by kernel_rfl) (by simp) (AllReadyH.cons (o := _) rfl (fun K hK => ?_) AllReadyH.nil)
                refine step_store_c rfl _ _ rfl (w7.heap.size) rfl rfl HO3.out zArr HX.out rfl ?_
                intro v6 g6 k6
                have HA := Lib.hid (HA.out.keep HO3.out k6 (by have := HA.out.lt; omega) (by omega))
                have HO4 := Lib.hid (k6.kb HO4.out (by omega))
                have HO5 := Lib.hid (k6.kb HO5.out (by omega))
                have G3 := Lib.hid g6
                refine hK.out _ _ (range_of_kb HA.out.e9) (fun hHeld => ?_)
                clear hK K
                refine wpAnyH_ready (rs := [7]) (by kernel_rfl) (by simp) (AllReadyH.cons (o := _) rfl (fun K hK => ?_) AllReadyH.nil)
                refine step_store_c rfl _ _ rfl (w7.heap.size + 1) rfl rfl HO4.out zArr HX.out rfl ?_
                intro v7 g7 k7
                have HA := Lib.hid (HA.out.keep HO4.out k7 (by have := HA.out.lt; omega) (by omega))
                have G3 := Lib.hid (k7.kb G3.out (by omega))
                have HO5 := Lib.hid (k7.kb HO5.out (by omega))
                have G4 := Lib.hid g7
                refine hK.out _ _ (range_of_kb HA.out.e9) (fun hHeld => ?_)
                clear hK K
                refine wpAnyH_ready (rs := [8]) (by kernel_rfl) (by simp) (AllReadyH.cons (o := _) rfl (fun K hK => ?_) AllReadyH.nil)
                refine step_store_c rfl _ _ rfl (w7.heap.size + 1 + 1) rfl rfl HO5.out zArr HX.out rfl ?_
                intro v8 g8 k8
                have HA := Lib.hid (HA.out.keep HO5.out k8 (by have := HA.out.lt; omega) (by omega))
                have G3 := Lib.hid (k8.kb G3.out (by omega))
                have G4 := Lib.hid (k8.kb G4.out (by omega))
                have G5 := Lib.hid g8
                refine hK.out _ _ (range_of_kb HA.out.e9) (fun hHeld => ?_)
                clear hK K
                refine wpAnyH_done (by kernel_rfl) ?_ _
                clear hHeld
                go_wp2_with fail
                go_meet
                case rel => exact ⟨_, _, _, rfl, rfl, rfl, Lib.hid ⟨HA.out.c0, G3.out, G4.out, G5.out, HA.out.rl, World.ownsRow_nil _ _ _ _, World.ownsRow_nil _ _ _ _, World.ownsRow_nil _ _ _ _, HA.out.k, by have := HA.out.lt; omega, by have := HA.out.lt; omega, by have := HA.out.lt; omega, by omega, by omega, by omega⟩⟩
              · go_simp
                have HO3 := Lib.hid (kb_below (bl_alloc (Below.refl _ ((w7).alloc (.cells (ccs cZ vZ).toArray 26))) (.cells (ccs cZ vZ).toArray 26)) HO3.out)
                have HA := Lib.hid (HA.out.below (bl_alloc (Below.refl _ ((w7).alloc (.cells (ccs cZ vZ).toArray 26))) (.cells (ccs cZ vZ).toArray 26)))
                have HO5 := Lib.hid (show Cb (((w7).alloc (.cells (ccs cZ vZ).toArray 26)).alloc (.cells (ccs cZ vZ).toArray 26)) (w7.heap.size + 1) cZ vZ from kb_new (by simp) _)
                refine hK.out _ _ (range_of_kb HA.out.e9) (fun hHeld => ?_)
                clear hK K
                refine wpAnyH_ready (rs := [4]) (by kernel_rfl) (by simp) (AllReadyH.cons (o := _) rfl (fun K hK => ?_) AllReadyH.nil)
                go_simp
                have HO3 := Lib.hid (kb_below (bl_alloc (Below.refl _ (((w7).alloc (.cells (ccs cZ vZ).toArray 26)).alloc (.cells (ccs cZ vZ).toArray 26))) (.cells (ccs cZ vZ).toArray 26)) HO3.out)
                have HO5 := Lib.hid (kb_below (bl_alloc (Below.refl _ (((w7).alloc (.cells (ccs cZ vZ).toArray 26)).alloc (.cells (ccs cZ vZ).toArray 26))) (.cells (ccs cZ vZ).toArray 26)) HO5.out)
                have HA := Lib.hid (HA.out.below (bl_alloc (Below.refl _ (((w7).alloc (.cells (ccs cZ vZ).toArray 26)).alloc (.cells (ccs cZ vZ).toArray 26))) (.cells (ccs cZ vZ).toArray 26)))
                have HO4 := Lib.hid (show Cb ((((w7).alloc (.cells (ccs cZ vZ).toArray 26)).alloc (.cells (ccs cZ vZ).toArray 26)).alloc (.cells (ccs cZ vZ).toArray 26)) (w7.heap.size + 1 + 1) cZ vZ from kb_new (by simp) _)
                refine hK.out _ _ (range_of_kb HA.out.e9) (fun hHeld => ?_)
                clear hK K
                refine wpAnyH_ready (rs := [6]) (by kernel_rfl) (by simp) (AllReadyH.cons (o := _) rfl (fun K hK => ?_) AllReadyH.nil)
                refine step_store_c rfl _ _ rfl (w7.heap.size) rfl rfl HO3.out zArr HX.out rfl ?_
                intro v6 g6 k6
                have HA := Lib.hid (HA.out.keep HO3.out k6 (by have := HA.out.lt; omega) (by omega))
                have HO4 := Lib.hid (k6.kb HO4.out (by omega))
                have HO5 := Lib.hid (k6.kb HO5.out (by omega))
                have G3 := Lib.hid g6
                refine hK.out _ _ (range_of_kb HA.out.e9) (fun hHeld => ?_)
                clear hK K
                refine wpAnyH_ready (rs := [7]) (by kernel_rfl) (by simp) (AllReadyH.cons (o := _) rfl (fun K hK => ?_) AllReadyH.nil)
                refine step_store_c rfl _ _ rfl (w7.heap.size + 1 + 1) rfl rfl HO4.out zArr HX.out rfl ?_
                intro v7 g7 k7
                have HA := Lib.hid (HA.out.keep HO4.out k7 (by have := HA.out.lt; omega) (by omega))
                have G3 := Lib.hid (k7.kb G3.out (by omega))
                have HO5 := Lib.hid (k7.kb HO5.out (by omega))
                have G4 := Lib.hid g7
                refine hK.out _ _ (range_of_kb HA.out.e9) (fun hHeld => ?_)
                clear hK K
                refine wpAnyH_ready (rs := [8]) (by kernel_rfl) (by simp) (AllReadyH.cons (o := _) rfl (fun K hK => ?_) AllReadyH.nil)
                refine step_store_c rfl _ _ rfl (w7.heap.size + 1) rfl rfl HO5.out zArr HX.out rfl ?_
                intro v8 g8 k8
                have HA := Lib.hid (HA.out.keep HO5.out k8 (by have := HA.out.lt; omega) (by omega))
                have G3 := Lib.hid (k8.kb G3.out (by omega))
                have G4 := Lib.hid (k8.kb G4.out (by omega))
                have G5 := Lib.hid g8
                refine hK.out _ _ (range_of_kb HA.out.e9) (fun hHeld => ?_)
                clear hK K
                refine wpAnyH_done (by kernel_rfl) ?_ _
                clear hHeld
                go_wp2_with fail
                go_meet
                case rel => exact ⟨_, _, _, rfl, rfl, rfl, Lib.hid ⟨HA.out.c0, G3.out, G4.out, G5.out, HA.out.rl, World.ownsRow_nil _ _ _ _, World.ownsRow_nil _ _ _ _, World.ownsRow_nil _ _ _ _, HA.out.k, by have := HA.out.lt; omega, by have := HA.out.lt; omega, by have := HA.out.lt; omega, by omega, by omega, by omega⟩⟩
            · go_simp
              have HA := Lib.hid (HA.out.below (bl_alloc (Below.refl _ (w7)) (.cells (ccs cZ vZ).toArray 26)))
              have HO4 := Lib.hid (show Cb ((w7).alloc (.cells (ccs cZ vZ).toArray 26)) (w7.heap.size) cZ vZ from kb_new (by simp) _)
              refine hK.out _ _ (range_of_kb HA.out.e9) (fun hHeld => ?_)
              clear hK K
              refine wpAnyH_ready (rs := [3, 5]) (by kernel_rfl) (by simp) (AllReadyH.cons (o := _) rfl (fun K hK => ?_) (AllReadyH.cons (o := _) rfl (fun K hK => ?_) AllReadyH.nil))
              · go_simp
                have HO4 := Lib.hid (kb_below (bl_alloc (Below.refl _ ((w7).alloc (.cells (ccs cZ vZ).toArray 26))) (.cells (ccs cZ vZ).toArray 26)) HO4.out)
                have HA := Lib.hid (HA.out.below (bl_alloc (Below.refl _ ((w7).alloc (.cells (ccs cZ vZ).toArray 26))) (.cells (ccs cZ vZ).toArray 26)))
                have HO3 := Lib.hid (show Cb (((w7).alloc (.cells (ccs cZ vZ).toArray 26)).alloc (.cells (ccs cZ vZ).toArray 26)) (w7.heap.size + 1) cZ vZ from kb_new (by simp) _)
                refine hK.out _ _ (range_of_kb HA.out.e9) (fun hHeld => ?_)
                clear hK K
                refine wpAnyH_ready (rs := [5]) (by kernel_rfl) (by simp) (AllReadyH.cons (o := _) rfl (fun K hK => ?_) AllReadyH.nil)
                go_simp
                have HO4 := Lib.hid (kb_below (bl_alloc (Below.refl _ (((w7).alloc (.cells (ccs cZ vZ).toArray 26)).alloc (.cells (ccs cZ vZ).toArray 26))) (.cells (ccs cZ vZ).toArray 26)) HO4.out)
                have HO3 := Lib.hid (kb_below (bl_alloc (Below.refl _ (((w7).alloc (.cells (ccs cZ vZ).toArray 26)).alloc (.cells (ccs cZ vZ).toArray 26))) (.cells (ccs cZ vZ).toArray 26)) HO3.out)
                have HA := Lib.hid (HA.out.below (bl_alloc (Below.refl _ (((w7).alloc (.cells (ccs cZ vZ).toArray 26)).alloc (.cells (ccs cZ vZ).toArray 26))) (.cells (ccs cZ vZ).toArray 26)))
                have HO5 := Lib.hid (show Cb ((((w7).alloc (.cells (ccs cZ vZ).toArray 26)).alloc (.cells (ccs cZ vZ).toArray 26)).alloc (.cells (ccs cZ vZ).toArray 26)) (w7.heap.size + 1 + 1) cZ vZ from kb_new (by simp) _)
                refine hK.out _ _ (range_of_kb HA.out.e9) (fun hHeld => ?_)
                clear hK K
                refine wpAnyH_ready (rs := [6]) (by kernel_rfl) (by simp) (AllReadyH.cons (o := _) rfl (fun K hK => ?_) AllReadyH.nil)
                refine step_store_c rfl _ _ rfl (w7.heap.size + 1) rfl rfl HO3.out zArr HX.out rfl ?_
                intro v6 g6 k6
                have HA := Lib.hid (HA.out.keep HO3.out k6 (by have := HA.out.lt; omega) (by omega))
                have HO4 := Lib.hid (k6.kb HO4.out (by omega))
                have HO5 := Lib.hid (k6.kb HO5.out (by omega))
                have G3 := Lib.hid g6
                refine hK.out _ _ (range_of_kb HA.out.e9) (fun hHeld => ?_)
                clear hK K
                refine wpAnyH_ready (rs := [7]) (by kernel_rfl) (by simp) (AllReadyH.cons (o := _) rfl (fun K hK => ?_) AllReadyH.nil)
                refine step_store_c rfl _ _ rfl (w7.heap.size) rfl rfl HO4.out zArr HX.out rfl ?_
                intro v7 g7 k7
                have HA := Lib.hid (HA.out.keep HO4.out k7 (by have := HA.out.lt; omega) (by omega))
                have G3 := Lib.hid (k7.kb G3.out (by omega))
                have HO5 := Lib.hid (k7.kb HO5.out (by omega))
                have G4 := Lib.hid g7
                refine hK.out _ _ (range_of_kb HA.out.e9) (fun hHeld => ?_)
                clear hK K
                refine wpAnyH_ready (rs := [8]) (by kernel_rfl) (by simp) (AllReadyH.cons (o := _) rfl (fun K hK => ?_) AllReadyH.nil)
                refine step_store_c rfl _ _ rfl (w7.heap.size + 1 + 1) rfl rfl HO5.out zArr HX.out rfl ?_
                intro v8 g8 k8
                have HA := Lib.hid (HA.out.keep HO5.out k8 (by have := HA.out.lt; omega) (by omega))
                have G3 := Lib.hid (k8.kb G3.out (by omega))
                have G4 := Lib.hid (k8.kb G4.out (by omega))
                have G5 := Lib.hid g8
                refine hK.out _ _ (range_of_kb HA.out.e9) (fun hHeld => ?_)
                clear hK K
                refine wpAnyH_done (by kernel_rfl) ?_ _
                clear hHeld
                go_wp2_with fail
                go_meet
                case rel => exact ⟨_, _, _, rfl, rfl, rfl, Lib.hid ⟨HA.out.c0, G3.out, G4.out, G5.out, HA.out.rl, World.ownsRow_nil _ _ _ _, World.ownsRow_nil _ _ _ _, World.ownsRow_nil _ _ _ _, HA.out.k, by have := HA.out.lt; omega, by have := HA.out.lt; omega, by have := HA.out.lt; omega, by omega, by omega, by omega⟩⟩
              · go_simp
                have HO4 := Lib.hid (kb_below (bl_alloc (Below.refl _ ((w7).alloc (.cells (ccs cZ vZ).toArray 26))) (.cells (ccs cZ vZ).toArray 26)) HO4.out)
                have HA := Lib.hid (HA.out.below (bl_alloc (Below.refl _ ((w7).alloc (.cells (ccs cZ vZ).toArray 26))) (.cells (ccs cZ vZ).toArray 26)))
                have HO5 := Lib.hid (show Cb (((w7).alloc (.cells (ccs cZ vZ).toArray 26)).alloc (.cells (ccs cZ vZ).toArray 26)) (w7.heap.size + 1) cZ vZ from kb_new (by simp) _)
                refine hK.out _ _ (range_of_kb HA.out.e9) (fun hHeld => ?_)
                clear hK K
                refine wpAnyH_ready (rs := [3]) (by kernel_rfl) (by simp) (AllReadyH.cons (o := _) rfl (fun K hK => ?_) AllReadyH.nil)
                go_simp
                have HO4 := Lib.hid (kb_below (bl_alloc (Below.refl _ (((w7).alloc (.cells (ccs cZ vZ).toArray 26)).alloc (.cells (ccs cZ vZ).toArray 26))) (.cells (ccs cZ vZ).toArray 26)) HO4.out)
                have HO5 := Lib.hid (kb_below (bl_alloc (Below.refl _ (((w7).alloc (.cells (ccs cZ vZ).toArray 26)).alloc (.cells (ccs cZ vZ).toArray 26))) (.cells (ccs cZ vZ).toArray 26)) HO5.out)
                have HA := Lib.hid (HA.out.below (bl_alloc (Below.refl _ (((w7).alloc (.cells (ccs cZ vZ).toArray 26)).alloc (.cells (ccs cZ vZ).toArray 26))) (.cells (ccs cZ vZ).toArray 26)))
                have HO3 := Lib.hid (show Cb ((((w7).alloc (.cells (ccs cZ vZ).toArray 26)).alloc (.cells (ccs cZ vZ).toArray 26)).alloc (.cells (ccs cZ vZ).toArray 26)) (w7.heap.size + 1 + 1) cZ vZ from kb_new (by simp) _)
                refine hK.out _ _ (range_of_kb HA.out.e9) (fun hHeld => ?_)
                clear hK K
                refine wpAnyH_ready (rs := [6]) (by kernel_rfl) (by simp) (AllReadyH.cons (o := _) rfl (fun K hK => ?_) AllReadyH.nil)
                refine step_store_c rfl _ _ rfl (w7.heap.size + 1 + 1) rfl rfl HO3.out zArr HX.out rfl ?_
                intro v6 g6 k6
                have HA := Lib.hid (HA.out.keep HO3.out k6 (by have := HA.out.lt; omega) (by omega))
                have HO4 := Lib.hid (k6.kb HO4.out (by omega))
                have HO5 := Lib.hid (k6.kb HO5.out (by omega))
                have G3 := Lib.hid g6
                refine hK.out _ _ (range_of_kb HA.out.e9) (fun hHeld => ?_)
                clear hK K
                refine wpAnyH_ready (rs := [7]) (by kernel_rfl) (by simp) (AllReadyH.cons (o := _) rfl (fun K hK => ?_) AllReadyH.nil)
                refine step_store_c rfl _ _ rfl (w7.heap.size) rfl rfl HO4.out zArr HX.out rfl ?_
                intro v7 g7 k7
                have HA := Lib.hid (HA.out.keep HO4.out k7 (by have := HA.out.lt; omega) (by omega))
                have G3 := Lib.hid (k7.kb G3.out (by omega))
                have HO5 := Lib.hid (k7.kb HO5.out (by omega))
                have G4 := Lib.hid g7
                refine hK.out _ _ (range_of_kb HA.out.e9) (fun hHeld => ?_)
                clear hK K
                refine wpAnyH_ready (rs := [8]) (by kernel_rfl) (by simp) (AllReadyH.cons (o := _) rfl (fun K hK => ?_) AllReadyH.nil)
                refine step_store_c rfl _ _ rfl (w7.heap.size + 1) rfl rfl HO5.out zArr HX.out rfl ?_
                intro v8 g8 k8
                have HA := Lib.hid (HA.out.keep HO5.out k8 (by have := HA.out.lt; omega) (by omega))
                have G3 := Lib.hid (k8.kb G3.out (by omega))
                have G4 := Lib.hid (k8.kb G4.out (by omega))
                have G5 := Lib.hid g8
                refine hK.out _ _ (range_of_kb HA.out.e9) (fun hHeld => ?_)
                clear hK K
                refine wpAnyH_done (by kernel_rfl) ?_ _
                clear hHeld
                go_wp2_with fail
                go_meet
                case rel => exact ⟨_, _, _, rfl, rfl, rfl, Lib.hid ⟨HA.out.c0, G3.out, G4.out, G5.out, HA.out.rl, World.ownsRow_nil _ _ _ _, World.ownsRow_nil _ _ _ _, World.ownsRow_nil _ _ _ _, HA.out.k, by have := HA.out.lt; omega, by have := HA.out.lt; omega, by have := HA.out.lt; omega, by omega, by omega, by omega⟩⟩
            · go_simp
              have HA := Lib.hid (HA.out.below (bl_alloc (Below.refl _ (w7)) (.cells (ccs cZ vZ).toArray 26)))
              have HO5 := Lib.hid (show Cb ((w7).alloc (.cells (ccs cZ vZ).toArray 26)) (w7.heap.size) cZ vZ from kb_new (by simp) _)
              refine hK.out _ _ (range_of_kb HA.out.e9) (fun hHeld => ?_)
              clear hK K
              refine wpAnyH_ready (rs := [3, 4]) (by kernel_rfl) (by simp) (AllReadyH.cons (o := _) rfl (fun K hK => ?_) (AllReadyH.cons (o := _) rfl (fun K hK => ?_) AllReadyH.nil))
              · go_simp
                have HO5 := Lib.hid (kb_below (bl_alloc (Below.refl _ ((w7).alloc (.cells (ccs cZ vZ).toArray 26))) (.cells (ccs cZ vZ).toArray 26)) HO5.out)
                have HA := Lib.hid (HA.out.below (bl_alloc (Below.refl _ ((w7).alloc (.cells (ccs cZ vZ).toArray 26))) (.cells (ccs cZ vZ).toArray 26)))
                have HO3 := Lib.hid (show Cb (((w7).alloc (.cells (ccs cZ vZ).toArray 26)).alloc (.cells (ccs cZ vZ).toArray 26)) (w7.heap.size + 1) cZ vZ from kb_new (by simp) _)
                refine hK.out _ _ (range_of_kb HA.out.e9) (fun hHeld => ?_)
                clear hK K
                refine wpAnyH_ready (rs := [4]) (by kernel_rfl) (by simp) (AllReadyH.cons (o := _) rfl (fun K hK => ?_) AllReadyH.nil)
                go_simp
                have HO5 := Lib.hid (kb_below (bl_alloc (Below.refl _ (((w7).alloc (.cells (ccs cZ vZ).toArray 26)).alloc (.cells (ccs cZ vZ).toArray 26))) (.cells (ccs cZ vZ).toArray 26)) HO5.out)
                have HO3 := Lib.hid (kb_below (bl_alloc (Below.refl _ (((w7).alloc (.cells (ccs cZ vZ).toArray 26)).alloc (.cells (ccs cZ vZ).toArray 26))) (.cells (ccs cZ vZ).toArray 26)) HO3.out)
                have HA := Lib.hid (HA.out.below (bl_alloc (Below.refl _ (((w7).alloc (.cells (ccs cZ vZ).toArray 26)).alloc (.cells (ccs cZ vZ).toArray 26))) (.cells (ccs cZ vZ).toArray 26)))
                have HO4 := Lib.hid (show Cb ((((w7).alloc (.cells (ccs cZ vZ).toArray 26)).alloc (.cells (ccs cZ vZ).toArray 26)).alloc (.cells (ccs cZ vZ).toArray 26)) (w7.heap.size + 1 + 1) cZ vZ from kb_new (by simp) _)
                refine hK.out _ _ (range_of_kb HA.out.e9) (fun hHeld => ?_)
                clear hK K
                refine wpAnyH_ready (rs := [6]) (by kernel_rfl) (by simp) (AllReadyH.cons (o := _) rfl (fun K hK => ?_) AllReadyH.nil)
                refine step_store_c rfl _ _ rfl (w7.heap.size + 1) rfl rfl HO3.out zArr HX.out rfl ?_
                intro v6 g6 k6
                have HA := Lib.hid (HA.out.keep HO3.out k6 (by have := HA.out.lt; omega) (by omega))
                have HO4 := Lib.hid (k6.kb HO4.out (by omega))
                have HO5 := Lib.hid (k6.kb HO5.out (by omega))
                have G3 := Lib.hid g6
                refine hK.out _ _ (range_of_kb HA.out.e9) (fun hHeld => ?_)
                clear hK K
                refine wpAnyH_ready (rs := [7]) (by kernel_rfl) (by simp) (AllReadyH.cons (o := _) rfl (fun K hK => ?_) AllReadyH.nil)
                refine step_store_c rfl _ _ rfl (w7.heap.size + 1 + 1) rfl rfl HO4.out zArr HX.out rfl ?_
                intro v7 g7 k7
                have HA := Lib.hid (HA.out.keep HO4.out k7 (by have := HA.out.lt; omega) (by omega))
                have G3 := Lib.hid (k7.kb G3.out (by omega))
                have HO5 := Lib.hid (k7.kb HO5.out (by omega))
                have G4 := Lib.hid g7
                refine hK.out _ _ (range_of_kb HA.out.e9) (fun hHeld => ?_)
                clear hK K
                refine wpAnyH_ready (rs := [8]) (by kernel_rfl) (by simp) (AllReadyH.cons (o := _) rfl (fun K hK => ?_) AllReadyH.nil)
                refine step_store_c rfl _ _ rfl (w7.heap.size) rfl rfl HO5.out zArr HX.out rfl ?_
                intro v8 g8 k8
                have HA := Lib.hid (HA.out.keep HO5.out k8 (by have := HA.out.lt; omega) (by omega))
                have G3 := Lib.hid (k8.kb G3.out (by omega))
                have G4 := Lib.hid (k8.kb G4.out (by omega))
                have G5 := Lib.hid g8
                refine hK.out _ _ (range_of_kb HA.out.e9) (fun hHeld => ?_)
                clear hK K
                refine wpAnyH_done (by kernel_rfl) ?_ _
                clear hHeld
                go_wp2_with fail
                go_meet
                case rel => exact ⟨_, _, _, rfl, rfl, rfl, Lib.hid ⟨HA.out.c0, G3.out, G4.out, G5.out, HA.out.rl, World.ownsRow_nil _ _ _ _, World.ownsRow_nil _ _ _ _, World.ownsRow_nil _ _ _ _, HA.out.k, by have := HA.out.lt; omega, by have := HA.out.lt; omega, by have := HA.out.lt; omega, by omega, by omega, by omega⟩⟩
              · go_simp
                have HO5 := Lib.hid (kb_below (bl_alloc (Below.refl _ ((w7).alloc (.cells (ccs cZ vZ).toArray 26))) (.cells (ccs cZ vZ).toArray 26)) HO5.out)
                have HA := Lib.hid (HA.out.below (bl_alloc (Below.refl _ ((w7).alloc (.cells (ccs cZ vZ).toArray 26))) (.cells (ccs cZ vZ).toArray 26)))
                have HO4 := Lib.hid (show Cb (((w7).alloc (.cells (ccs cZ vZ).toArray 26)).alloc (.cells (ccs cZ vZ).toArray 26)) (w7.heap.size + 1) cZ vZ from kb_new (by simp) _)
                refine hK.out _ _ (range_of_kb HA.out.e9) (fun hHeld => ?_)
                clear hK K
                refine wpAnyH_ready (rs := [3]) (by kernel_rfl) (by simp) (AllReadyH.cons (o := _) rfl (fun K hK => ?_) AllReadyH.nil)
                go_simp
                have HO5 := Lib.hid (kb_below (bl_alloc (Below.refl _ (((w7).alloc (.cells (ccs cZ vZ).toArray 26)).alloc (.cells (ccs cZ vZ).toArray 26))) (.cells (ccs cZ vZ).toArray 26)) HO5.out)
                have HO4 := Lib.hid (kb_below (bl_alloc (Below.refl _ (((w7).alloc (.cells (ccs cZ vZ).toArray 26)).alloc (.cells (ccs cZ vZ).toArray 26))) (.cells (ccs cZ vZ).toArray 26)) HO4.out)
                have HA := Lib.hid (HA.out.below (bl_alloc (Below.refl _ (((w7).alloc (.cells (ccs cZ vZ).toArray 26)).alloc (.cells (ccs cZ vZ).toArray 26))) (.cells (ccs cZ vZ).toArray 26)))
                have HO3 := Lib.hid (show Cb ((((w7).alloc (.cells (ccs cZ vZ).toArray 26)).alloc (.cells (ccs cZ vZ).toArray 26)).alloc (.cells (ccs cZ vZ).toArray 26)) (w7.heap.size + 1 + 1) cZ vZ from kb_new (by simp) _)
                refine hK.out _ _ (range_of_kb HA.out.e9) (fun hHeld => ?_)
                clear hK K
                refine wpAnyH_ready (rs := [6]) (by kernel_rfl) (by simp) (AllReadyH.cons (o := _) rfl (fun K hK => ?_) AllReadyH.nil)
                refine step_store_c rfl _ _ rfl (w7.heap.size + 1 + 1) rfl rfl HO3.out zArr HX.out rfl ?_
                intro v6 g6 k6
                have HA := Lib.hid (HA.out.keep HO3.out k6 (by have := HA.out.lt; omega) (by omega))
                have HO4 := Lib.hid (k6.kb HO4.out (by omega))
                have HO5 := Lib.hid (k6.kb HO5.out (by omega))
                have G3 := Lib.hid g6
                refine hK.out _ _ (range_of_kb HA.out.e9) (fun hHeld => ?_)
                clear hK K
                refine wpAnyH_ready (rs := [7]) (by kernel_rfl) (by simp) (AllReadyH.cons (o := _) rfl (fun K hK => ?_) AllReadyH.nil)
                refine step_store_c rfl _ _ rfl (w7.heap.size + 1) rfl rfl HO4.out zArr HX.out rfl ?_
                intro v7 g7 k7
                have HA := Lib.hid (HA.out.keep HO4.out k7 (by have := HA.out.lt; omega) (by omega))
                have G3 := Lib.hid (k7.kb G3.out (by omega))
                have HO5 := Lib.hid (k7.kb HO5.out (by omega))
                have G4 := Lib.hid g7
                refine hK.out _ _ (range_of_kb HA.out.e9) (fun hHeld => ?_)
                clear hK K
                refine wpAnyH_ready (rs := [8]) (by kernel_rfl) (by simp) (AllReadyH.cons (o := _) rfl (fun K hK => ?_) AllReadyH.nil)
                refine step_store_c rfl _ _ rfl (w7.heap.size) rfl rfl HO5.out zArr HX.out rfl ?_
                intro v8 g8 k8
                have HA := Lib.hid (HA.out.keep HO5.out k8 (by have := HA.out.lt; omega) (by omega))
                have G3 := Lib.hid (k8.kb G3.out (by omega))
                have G4 := Lib.hid (k8.kb G4.out (by omega))
                have G5 := Lib.hid g8
                refine hK.out _ _ (range_of_kb HA.out.e9) (fun hHeld => ?_)
                clear hK K
                refine wpAnyH_done (by kernel_rfl) ?_ _
                clear hHeld
                go_wp2_with fail
                go_meet
                case rel => exact ⟨_, _, _, rfl, rfl, rfl, Lib.hid ⟨HA.out.c0, G3.out, G4.out, G5.out, HA.out.rl, World.ownsRow_nil _ _ _ _, World.ownsRow_nil _ _ _ _, World.ownsRow_nil _ _ _ _, HA.out.k, by have := HA.out.lt; omega, by have := HA.out.lt; omega, by have := HA.out.lt; omega, by omega, by omega, by omega⟩⟩
          case rest =>
            obtain ⟨q1, q2, q3, rfl, rfl, rfl, HG⟩ := hcut
            clear H6 hq9
            go_wp2_with fail
            go_loopw [8, 13, 14, 15, 16, 17, 18, 19, 50, 51, 52, 53, 54, 55, 56, 57, 58, 59, 60, 61, 62, 63, 64, 65, 66, 67, 68, 69, 70, 71, 72, 73, 74, 75, 76, 77, 78, 79, 80, 81, 82, 83, 84, 85, 86, 87, 88, 89, 90, 91, 92, 93, 94, 95, 96, 97, 98, 99, 100, 101, 102, 103, 104, 105, 106, 107, 108, 109, 110, 111, 112, 113, 114, 115, 116, 117, 118, 119, 120, 121, 122, 123, 124, 125, 126, 127, 128, 129] (fun s8 s13 _ _ _ _ _ _ _ _ _ _ _ _ _ _ _ _ _ _ _ _ _ _ _ _ _ _ _ _ _ _ _ _ _ _ _ _ _ _ _ _ _ _ _ _ _ _ _ _ _ _ _ _ _ _ _ _ _ _ _ _ _ _ _ _ _ _ _ _ _ _ _ _ _ _ _ _ _ _ _ _ _ _ _ _ _ _ wr => ∃ (i : Nat) (left al a b : List Vt) (A : Option Addr) (cp : Nat) (va vb vd : Value), s8 = .slice A left.length cp ∧ s13 = .int .i64 i ∧ Hid (i + left.length = c.vs.length) ∧ Hid (Gr c.vs left al a b) ∧ Hid (Gw w wr c u q1 q2 q3 (.slice A left.length cp) va vb vd left al a b)) (fun s8 _ _ _ _ _ _ _ _ _ _ _ _ _ _ _ _ _ _ _ _ _ _ _ _ _ _ _ _ _ _ _ _ _ _ _ _ _ _ _ _ _ _ _ _ _ _ _ _ _ _ _ _ _ _ _ _ _ _ _ _ _ _ _ _ _ _ _ _ _ _ _ _ _ _ _ _ _ _ _ _ _ _ _ _ _ _ _ _ => sliceLen s8)
            case atStart => exact ⟨0, c.vs, [], [], [], A5, cap5, vZ, vZ, vZ, rfl, rfl, Lib.hid (by simp), Lib.hid (Gr.start HC.out.2.2.2), HG⟩
            case round =>
              clear HG
              obtain ⟨i, left, al, a, b, A, cp, va, vb, vd, rfl, rfl, HI, HR, HG⟩ := hrel
              by_cases h0 : 0 < left.length
              · have h0' : (0 : Int) < (left.length : Int) := by omega
                have hi64 : i ≤ 64 := by have := HI.out; have := HC.out.2.2.1; omega
                have hl64 : left.length ≤ 64 := by have := HI.out; have := HC.out.2.2.1; omega
                have hz1 : zs.length ≤ 100 := hzl.out.1
                go_upto_if 58 with fail
                go_cut [14] from 50 to 65 (fun s14 wx => ∃ at_ : Nat, s14 = .int .i64 at_ ∧ at_ < left.length ∧ wr = wx)
                case first =>
                  by_cases hiz : i < zs.length
                  · have hlt : (i : Int) < (zs.length : Int) := by omega
                    obtain ⟨gb, ob, hB, hgb, hcell⟩ := HZ.out.below HG.out.k (by omega)
                    have c0 := hcell i _ (List.getElem?_eq_getElem hiz)
                    clear hcell
                    subst hB
                    generalize zs[i] = z at c0
                    have hpk := pick_bd (x := z) (n := (left.length : Int)) (by omega)
                    go_wp2_with fail
                    refine (Pick_any z (left.length : Int) _ (by omega)).mono ?_
                    rintro e w4 ⟨rfl, hw4⟩
                    subst hw4
                    obtain ⟨n, hn⟩ := Int.eq_ofNat_of_zero_le hpk.1
                    rw [hn]
                    have hnm : n < left.length := by have := hpk.2; omega
                    clear c0 hn hpk
                    go_wp2_with fail
                    go_meet
                    case rel => exact ⟨n, rfl, hnm, rfl⟩
                  · have hlt : ¬ (i : Int) < (zs.length : Int) := by omega
                    go_wp2_with fail
                    go_meet
                    case rel => exact ⟨0, rfl, h0, rfl⟩
                case rest =>
                  obtain ⟨at_, rfl, hat, rfl⟩ := hcut
                  have hvat := HR.out.vote HC.out.2.2.2 hat
                  have HNX := Lib.hid (HR.out.next HC.out.2.2.2 hat)
                  have HLN := Lib.hid (show al.length + left.length ≤ 64 by have := HR.out.l; have := HC.out.2.2.1; omega)
                  obtain ⟨b1, off1, cap1, hv1, hb1, e0, e1⟩ := (VRow.of_own HG.out.rl).at hat
                  injection hv1 with r1 _ r2
                  subst r1
                  subst r2
                  have hcp := own_cap HG.out.rl
                  have HRL := Lib.hid (VRow.of_own HG.out.rl)
                  have HWO := Lib.hid (without_len hat)
                  have hvcs := Lib.hid (show vcs (left.take at_) ++ vcs (left.drop (at_ + 1)) = vcs (without left at_) from (vcs_append _ _).symm)
                  have hdl : (left.drop (at_ + 1)).take (left.length - (at_ + 1)) = left.drop (at_ + 1) := List.take_of_length_le (by rw [List.length_drop]; exact Nat.le_refl _)
                  have hall : Hid ((left.take at_).length = at_ ∧ (left.drop (at_ + 1)).length = left.length - (at_ + 1)) := Lib.hid ⟨by rw [List.length_take]; omega, List.length_drop⟩
                  generalize hvt : vAt left at_ = vt at *
                  clear hvt
                  have HVT := Lib.hid hvat
                  clear hvat
                  have hat' : (at_ : Int) < (left.length : Int) := by omega
                  go_upto_region 14 with fail
                  have hqv : Hid ((wr.alloc (.cells #[.int .i64 vt.p, .int .u64 (vt.g : Int)] 29)).heap[wr.heap.size]? = some (.cells #[.int .i64 vt.p, .int .u64 (vt.g : Int)] 29 (0, 0))) := Lib.hid (kb_new rfl _)
                  have HG2 := Lib.hid (HG.out.below (bl_alloc (Below.refl _ _) (.cells #[.int .i64 vt.p, .int .u64 (vt.g : Int)] 29)))
                  have HRL2 := Lib.hid (HRL.out.below (bl_alloc (Below.refl _ _) (.cells #[.int .i64 vt.p, .int .u64 (vt.g : Int)] 29)))
                  clear e0 e1 HG HRL hb1
                  generalize wr.alloc (.cells #[.int .i64 vt.p, .int .u64 (vt.g : Int)] 29) = w8 at *
                  generalize wr.heap.size = qv at *
                  have hcutA := Lib.hid (cut_votes HRL2.out hcp (lo := 0) (hi := at_) (by omega) (by omega))
                  have hcutB := cut_votes HRL2.out hcp (lo := at_ + 1) (hi := left.length) (by omega) (by omega)
                  rw [hdl] at hcutB
                  have HCB := Lib.hid hcutB
                  clear hcutB hdl HRL2
                  have f1 : IntKind.i64.wrap ((at_ : Int) + 1) = ((at_ + 1 : Nat) : Int) := by rw [IntKind.wrap_i64]; omega
                  refine wp_region_held_drew (S := (fun W : World => True)) (by kernel_rfl) trivial (fun hHeld => ?_)
                  refine wpAnyH_take (i := 1) (oi := { dst := some 71, op := _, type := _, pos := _, after := _, guard := _ }) (v := ?_) rfl (by kernel_rfl) (by kernel_rfl) (by kernel_rfl) (fun _ _ _ h => h) (Or.inl ⟨by rfl, ?_⟩) hHeld ?_
                  rotate_left
                  · (intro w hSw; (try dsimp only at hSw); go_simp); all_goals with_reducible rfl
                  try simp only [Act.put, List.setIfInBounds_toArray, List.set_cons_zero, List.set_cons_succ]
                  refine wpAnyH_take (i := 2) (oi := { dst := some 72, op := _, type := _, pos := _, after := _, guard := _ }) (v := ?_) rfl (by kernel_rfl) (by kernel_rfl) (by kernel_rfl) (fun _ _ _ h => h) (Or.inl ⟨by rfl, ?_⟩) hHeld ?_
                  rotate_left
                  · (intro w hSw; (try dsimp only at hSw); go_simp); all_goals with_reducible rfl
                  try simp only [Act.put, List.setIfInBounds_toArray, List.set_cons_zero, List.set_cons_succ]
                  refine wpAnyH_take (i := 3) (oi := { dst := some 73, op := _, type := _, pos := _, after := _, guard := _ }) (v := _) rfl (by kernel_rfl) (by kernel_rfl) (by kernel_rfl) (fun _ _ _ h => h) (yieldsIf_cuth (by rfl) _ _ rfl (hi := at_) rfl rfl (by omega)) hHeld ?_
                  try simp only [Act.put, List.setIfInBounds_toArray, List.set_cons_zero, List.set_cons_succ]
                  refine wpAnyH_take (i := 5) (oi := { dst := some 75, op := _, type := _, pos := _, after := _, guard := _ }) (v := ?_) rfl (by kernel_rfl) (by kernel_rfl) (by kernel_rfl) (fun _ _ _ h => h) (Or.inl ⟨by rfl, ?_⟩) hHeld ?_
                  rotate_left
                  · (intro w hSw; (try dsimp only at hSw); go_simp); all_goals with_reducible rfl
                  try simp only [Act.put, List.setIfInBounds_toArray, List.set_cons_zero, List.set_cons_succ]
                  refine wpAnyH_take (i := 6) (oi := { dst := some 76, op := _, type := _, pos := _, after := _, guard := _ }) (v := ?_) rfl (by kernel_rfl) (by kernel_rfl) (by kernel_rfl) (fun _ _ _ h => h) (Or.inl ⟨by rfl, ?_⟩) hHeld ?_
                  rotate_left
                  · (intro w hSw; (try dsimp only at hSw); go_simp); all_goals with_reducible rfl
                  try simp only [Act.put, List.setIfInBounds_toArray, List.set_cons_zero, List.set_cons_succ]
                  refine wpAnyH_take (i := 7) (oi := { dst := some 77, op := _, type := _, pos := _, after := _, guard := _ }) (v := ?_) rfl (by kernel_rfl) (by kernel_rfl) (by kernel_rfl) (fun _ _ _ h => h) (Or.inl ⟨by rfl, ?_⟩) hHeld ?_
                  rotate_left
                  · (intro w hSw; (try dsimp only at hSw); go_simp); all_goals with_reducible rfl
                  try simp only [Act.put, List.setIfInBounds_toArray, List.set_cons_zero, List.set_cons_succ]
                  refine wpAnyH_take (i := 8) (oi := { dst := some 78, op := _, type := _, pos := _, after := _, guard := _ }) (v := _) rfl (by kernel_rfl) (by kernel_rfl) (by kernel_rfl) (fun _ _ _ h => h) (yieldsIf_cutl (by rfl) _ _ rfl (lo := at_ + 1) rfl rfl (by omega)) hHeld ?_
                  try simp only [Act.put, List.setIfInBounds_toArray, List.set_cons_zero, List.set_cons_succ]
                  refine wpAnyH_ready (rs := [0]) (by kernel_rfl) (by simp) (AllReadyH.cons (o := _) rfl (fun K hK => ?_) AllReadyH.nil)
                  go_simp
                  refine hK.out _ _ trivial (fun hHeld => ?_)
                  clear hK K
                  refine wpAnyH_ready (rs := [4]) (by kernel_rfl) (by simp) (AllReadyH.cons (o := _) rfl (fun K hK => ?_) AllReadyH.nil)
                  have hsz8 : w.heap.size ≤ w8.heap.size := HG2.out.k.size
                  have hown0 := owns_lit0v (w := w8.drew.alloc (.cells #[] 29)) (base := w.heap.size) (b := w8.heap.size) (e := 29) (cap := 0) (kb_new rfl _) hsz8 rfl
                  have bA := bl_alloc (bl_drew (Below.refl w8.heap.size w8)) (.cells #[] 29)
                  refine step_append_v rfl _ _ rfl w.heap.size (.slice (some ⟨w8.heap.size, 0, none⟩) 0 0) 0 [] rfl hown0 _ (left.take at_) rfl (hcutA.out.below bA) ?c3 ?c4 ?_
                  case c3 => rw [hall.out.1]; omega
                  case c4 => simp; omega
                  intro v9 w9 o9 g9 own9
                  have b9 : Below w8.heap.size w8 w9 := bA.grown g9 (by simp) (fun j hj => Nat.le_of_eq (by simpa [Value.ownBlock] using hj))
                  have hw9 : w8.heap.size ≤ w9.heap.size := b9.size
                  have hlo9 : ∀ j, v9.ownBlock = some j → w8.heap.size ≤ j := fun j hj => by
                    rcases own9 with h | h
                    · have e : w8.heap.size = j := by simpa [Value.ownBlock] using h.symm.trans hj
                      omega
                    · have e : w8.heap.size + 1 = j := by simpa using h.symm.trans hj
                      omega
                  rw [Nat.zero_add, List.nil_append] at o9
                  obtain ⟨A9, cap9, hv9⟩ := owns_slice0 o9
                  subst hv9
                  clear g9 own9 hown0 bA
                  refine hK.out _ _ trivial (fun hHeld => ?_)
                  clear hK K
                  refine wpAnyH_ready (rs := [9]) (by kernel_rfl) (by simp) (AllReadyH.cons (o := _) rfl (fun K hK => ?_) AllReadyH.nil)
                  refine step_append_v rfl _ _ rfl w.heap.size (.slice A9 (left.take at_).length cap9) _ _ rfl o9 _ (left.drop (at_ + 1)) rfl (HCB.out.below b9) ?c3 ?c4 ?_
                  case c3 => rw [hall.out.1, hall.out.2]; omega
                  case c4 => omega
                  intro v10 w10 o10 g10 _
                  have b10 : Below w8.heap.size w8 w10 := b9.grown g10 (by omega) hlo9
                  rw [hvcs.out] at o10
                  have HO10 : Hid (Vown w.heap.size w10 v10 (without left at_)) := Lib.hid (by
                    have e : (left.take at_).length + (left.drop (at_ + 1)).length = (without left at_).length := by unfold without; rw [List.length_append]
                    rw [e] at o10; exact o10)
                  obtain ⟨A10, cap10, hv10⟩ := owns_slice0 HO10.out
                  subst hv10
                  have HG3 := Lib.hid ((HG2.out.below b10).left HO10.out)
                  have hqv3 := Lib.hid (kb_below b10 hqv.out)
                  clear o10 g10 b10 o9 b9 hlo9 HO10 HG2 hqv HCB hcutA f1
                  refine hK.out _ _ trivial (fun hHeld => ?_)
                  clear hK K
                  refine wpAnyH_take (i := 10) (oi := { dst := some 8, op := _, type := _, pos := _, after := _, guard := _ }) (v := ?_) rfl (by kernel_rfl) (by kernel_rfl) (by kernel_rfl) (fun _ _ _ h => h) (Or.inl ⟨by rfl, ?_⟩) hHeld ?_
                  rotate_left
                  · (intro w hSw; (try dsimp only at hSw); go_simp); all_goals with_reducible rfl
                  try simp only [Act.put, List.setIfInBounds_toArray, List.set_cons_zero, List.set_cons_succ]
                  refine wpAnyH_done (by kernel_rfl) ?_ _
                  clear hHeld
                  have hcv := vt_boxed hqv3.out
                  have k0 := hcv.1
                  have k1 := hcv.2
                  clear hcv
                  go_wp2_with (first
                    | (with_reducible show wpList _ _ _ (⟨some 81, _, _, _, _, _⟩ :: _) _ _; refine wpList_load_c rfl _ rfl q1 rfl HG3.out.e1 HX.out ?_))
                  refine (Add_any (c := ⟨c.h, c.x, al⟩) vt HX.out (VRow.of_own HG3.out.r1) (by show al.length ≤ 1000000; have := HLN.out; omega)).mono ?_
                  rintro e w11 ⟨v11, rfl, n11⟩
                  have hadd := add_of (c := c) HC.out.1 HC.out.2.1 (L := al) (by have := HLN.out; omega) HR.out.ral HVT.out.1 HVT.out.2.1 HVT.out.2.2.1
                  rw [hadd.1, hadd.2]
                  rw [hadd.2] at n11
                  clear hadd k0 k1
                  obtain ⟨A11, cap11, hv11⟩ := owns_slice0 n11.1
                  subst hv11
                  have HG4 := Lib.hid (HG3.out.below n11.2)
                  have HN11 := Lib.hid (show Vown w.heap.size w11 _ (laidV al vt) from owns_mono n11.1 HG3.out.k.size)
                  have hqv4 := Lib.hid (kb_below n11.2 hqv3.out)
                  clear n11 HG3 hqv3
                  have kA := bl_alloc (Below.refl w11.heap.size w11) (.cells (ccs ⟨c.h, c.x, laidV al vt⟩ (.slice A11 (laidV al vt).length cap11)).toArray 26)
                  have HG5 := Lib.hid (HG4.out.below kA)
                  have HN5 := Lib.hid (Vown.below' HN11.out kA)
                  have hqv5 := Lib.hid (kb_below kA hqv4.out)
                  have hq16 : Hid (Cb (w11.alloc (.cells (ccs ⟨c.h, c.x, laidV al vt⟩ (.slice A11 (laidV al vt).length cap11)).toArray 26)) w11.heap.size ⟨c.h, c.x, laidV al vt⟩ (.slice A11 (laidV al vt).length cap11)) := Lib.hid (kb_new rfl _)
                  have hsig := sig_of HR.out.ral HVT.out.1 HVT.out.2.1 HVT.out.2.2.1
                  go_upto_region 16 with (first
                    | (refine wpList_store_cn (op := ⟨none, .store 26 _ _, _, _, _, _⟩) (c := ⟨c.h, c.x, laidV al vt⟩) rfl _ _ rfl rfl rfl rfl HX.out rfl ?_))
                  clear HG4 HN11 hqv4 kA
                  generalize w11.alloc (.cells (ccs ⟨c.h, c.x, laidV al vt⟩ (.slice A11 (laidV al vt).length cap11)).toArray 26) = w12 at *
                  generalize w11.heap.size = q16 at *
                  have k0 := (vt_boxed hqv5.out).1
                  go_wp2_with (first
                    | (with_reducible show wpList _ _ _ (⟨some 87, _, _, _, _, _⟩ :: _) _ _; refine wpList_load_c rfl _ rfl q16 rfl hq16.out HX.out ?_))
                  refine (Of_any' (c := ⟨c.h, c.x, laidV al vt⟩) vt.p HX.out (VRow.of_own HN5.out) (by rw [laid_len]; have := HLN.out; omega)).mono ?_
                  rintro e w13 ⟨rfl, b13⟩
                  rw [hsig]
                  have HG6 := Lib.hid (HG5.out.below b13)
                  have HN6 := Lib.hid (Vown.below' HN5.out b13)
                  have hqv6 := Lib.hid (kb_below b13 hqv5.out)
                  have hq16' := Lib.hid (kb_below b13 hq16.out)
                  clear b13 HG5 HN5 hqv5 hq16 hsig k0
                  have k1 := (vt_boxed hqv6.out).2
                  go_upto_region 20 with (first
                    | (with_reducible show wpList _ _ _ (⟨some 105, _, _, _, _, _⟩ :: _) _ _; refine wpList_load_c rfl _ rfl q16 rfl hq16'.out HX.out ?_)
                    | (refine wpList_store_c (op := ⟨none, .store 26 _ _, _, _, _, _⟩) (c := ⟨c.h, c.x, laidV al vt⟩) rfl _ _ rfl q1 rfl rfl HG6.out.e1 (size34 _ _ HX.out) HX.out rfl ?_; intro w14 g14 k14))
                  have hne : qv ≠ q1 := fun e => by
                    have h1 := hqv6.out
                    rw [e] at h1
                    have h2 : w13.heap[q1]? = _ := HG6.out.e1
                    rw [h1] at h2
                    injection h2 with h2
                    injection h2 with _ h2
                    exact absurd h2 (by decide)
                  have HG9 := Lib.hid (HG6.out.set1 g14 HN6.out k14)
                  have hqv9 := Lib.hid (k14.kb hqv6.out hne)
                  clear g14 k14 k1 HG6 HN6 hqv6 hq16' hne
                  have hpl : ps.length ≤ 100 := hzl.out.2
                  try simp only [Act.put, List.setIfInBounds_toArray, List.set_cons_zero, List.set_cons_succ]
                  go_cut [115] from 106 to 115 (fun s115 wx => ∃ pb : Bool, s115 = .bool pb ∧ w14 = wx)
                  case first =>
                    by_cases hip : i < ps.length
                    · have hlt : (i : Int) < (ps.length : Int) := by omega
                      obtain ⟨gb, ob, hB, hgb, hcell⟩ := HP.out.below HG9.out.k (by omega)
                      have c0 := hcell i _ (List.getElem?_eq_getElem hip)
                      clear hcell
                      subst hB
                      generalize ps[i] = pb at c0
                      go_wp2_with fail
                      go_meet
                      case rel => exact ⟨pb, rfl, rfl⟩
                    · have hlt : ¬ (i : Int) < (ps.length : Int) := by omega
                      go_wp2_with fail
                      go_meet
                      case rel => exact ⟨false, rfl, rfl⟩
                  case rest =>
                    obtain ⟨pb, rfl, hwx⟩ := hcut
                    subst hwx
                    go_upto_if 115 with fail
                    try simp only [Act.put, List.setIfInBounds_toArray, List.set_cons_zero, List.set_cons_succ]
                    go_cut [17] from 115 to 127 (fun s17 wx => ∃ (a' b' : List Vt) (vb' vd' : Value), s17 = .int .i64 0 ∧ Hid (Gr c.vs (without left at_) (laidV al vt) a' b') ∧ Hid (Gw w wx c u q1 q2 q3 (.slice A10 (without left at_).length cap10) (.slice A11 (laidV al vt).length cap11) vb' vd' (without left at_) (laidV al vt) a' b'))
                    case first =>
                      have k0 := (vt_boxed hqv9.out).1
                      have k1 := (vt_boxed hqv9.out).2
                      cases pb with
                      | true =>
                        go_wp2_with (first
                          | (with_reducible show wpList _ _ _ (⟨some 117, _, _, _, _, _⟩ :: _) _ _; refine wpList_load_c rfl _ rfl q2 rfl HG9.out.e2 HX.out ?_))
                        refine (Add_any (c := ⟨c.h, c.x, a⟩) vt HX.out (VRow.of_own HG9.out.r2) (by show a.length ≤ 1000000; have := HLN.out; have := HR.out.la; omega)).mono ?_
                        rintro e w13 ⟨v13, rfl, n13⟩
                        have hadd2 := add_of (c := c) HC.out.1 HC.out.2.1 (L := a) (by have := HLN.out; have := HR.out.la; omega) HR.out.ra HVT.out.1 HVT.out.2.1 HVT.out.2.2.2.1
                        rw [hadd2.1, hadd2.2]
                        rw [hadd2.2] at n13
                        clear hadd2
                        obtain ⟨A13, cap13, hv13⟩ := owns_slice0 n13.1
                        subst hv13
                        have HG10 := Lib.hid (HG9.out.below n13.2)
                        have HN13 := Lib.hid (owns_mono n13.1 HG9.out.k.size)
                        clear n13
                        go_wp2_with (first
                          | (refine wpList_store_c (op := ⟨none, .store 26 _ _, _, _, _, _⟩) (c := ⟨c.h, c.x, laidV a vt⟩) rfl _ _ rfl q2 rfl rfl HG10.out.e2 (size34 _ _ HX.out) HX.out rfl ?_; intro w14 g14 k14))
                        have HG11 := Lib.hid (HG10.out.set2 g14 HN13.out k14)
                        go_meet
                        case rel => exact ⟨laidV a vt, b, _, _, rfl, Lib.hid HNX.out.1, HG11⟩
                      | false =>
                        go_wp2_with (first
                          | (with_reducible show wpList _ _ _ (⟨some 123, _, _, _, _, _⟩ :: _) _ _; refine wpList_load_c rfl _ rfl q3 rfl HG9.out.e3 HX.out ?_))
                        refine (Add_any (c := ⟨c.h, c.x, b⟩) vt HX.out (VRow.of_own HG9.out.r3) (by show b.length ≤ 1000000; have := HLN.out; have := HR.out.la; omega)).mono ?_
                        rintro e w13 ⟨v13, rfl, n13⟩
                        have hadd2 := add_of (c := c) HC.out.1 HC.out.2.1 (L := b) (by have := HLN.out; have := HR.out.la; omega) HR.out.rb HVT.out.1 HVT.out.2.1 HVT.out.2.2.2.2
                        rw [hadd2.1, hadd2.2]
                        rw [hadd2.2] at n13
                        clear hadd2
                        obtain ⟨A13, cap13, hv13⟩ := owns_slice0 n13.1
                        subst hv13
                        have HG10 := Lib.hid (HG9.out.below n13.2)
                        have HN13 := Lib.hid (owns_mono n13.1 HG9.out.k.size)
                        clear n13
                        go_wp2_with (first
                          | (refine wpList_store_c (op := ⟨none, .store 26 _ _, _, _, _, _⟩) (c := ⟨c.h, c.x, laidV b vt⟩) rfl _ _ rfl q3 rfl rfl HG10.out.e3 (size34 _ _ HX.out) HX.out rfl ?_; intro w14 g14 k14))
                        have HG11 := Lib.hid (HG10.out.set3 g14 HN13.out k14)
                        go_meet
                        case rel => exact ⟨a, laidV b vt, _, _, rfl, Lib.hid HNX.out.2, HG11⟩
                    case rest =>
                      obtain ⟨a', b', vb', vd', rfl, HR', HG'⟩ := hcut
                      go_wp2_with fail
                      go_roundw
                      case rel => exact ⟨i + 1, without left at_, laidV al vt, a', b', A10, cap10, _, vb', vd', rfl, by go_num, Lib.hid (by have := HI.out; have := HWO.out; omega), HR', HG'⟩
                      case measure =>
                        show (without left at_).length < left.length
                        have := HWO.out
                        omega
              · skip
                have hl0 : left = [] := List.eq_nil_of_length_eq_zero (by omega)
                subst hl0
                have hal := HR.out.end HC.out.2.2.2
                subst hal
                have hvr := HC.out.2.2.2
                have h64 := HC.out.2.2.1
                have hla := HR.out.la
                have hpm := HR.out.p
                have J1 := Lib.hid (join_of (c := c) HC.out.1 HC.out.2.1 HR.out.ra HR.out.rb hvr hvr (by omega) (by omega) (fun x hx => (hpm x).2 (.inl hx)) (fun x hx => (hpm x).2 (.inr hx)) hpm)
                have J2 := Lib.hid (join_of (c := c) HC.out.1 HC.out.2.1 HR.out.rb HR.out.ra hvr hvr (by omega) (by omega) (fun x hx => (hpm x).2 (.inr hx)) (fun x hx => (hpm x).2 (.inl hx)) (fun x => by rw [hpm]; exact Or.comm))
                have J3 := Lib.hid (join_of (c := c) HC.out.1 HC.out.2.1 hvr HR.out.ra hvr hvr (by omega) (by omega) (fun x hx => hx) (fun x hx => (hpm x).2 (.inl hx)) (fun x => ⟨fun h => .inl h, fun h => h.elim id (fun h => (hpm x).2 (.inl h))⟩))
                have J4 := Lib.hid (join_of (c := c) HC.out.1 HC.out.2.1 HR.out.ra HR.out.ra HR.out.ra hvr (by omega) (by omega) (fun x hx => (hpm x).2 (.inl hx)) (fun x hx => (hpm x).2 (.inl hx)) (fun x => ⟨fun h => .inl h, fun h => h.elim id id⟩))
                have HLs := Lib.hid (show a.length ≤ 1000 ∧ b.length ≤ 1000 ∧ c.vs.length ≤ 1000 by omega)
                clear hvr h64 hla hpm HR
                go_wp2_with (first
                  | (with_reducible show wpList _ _ _ (⟨some 132, _, _, _, _, _⟩ :: _) _ _; refine wpList_load_cw _ rfl rfl q1 rfl HG.out.e1 HX.out ?_)
                  | (with_reducible show wpList _ _ _ (⟨some 133, _, _, _, _, _⟩ :: _) _ _; refine wpList_load_cw _ rfl rfl w.heap.size rfl HG.out.c0 HX.out ?_))
                refine (SameCommit_any (c := ⟨c.h, c.x, c.vs⟩) (d := c) HX.out HX.out (VRow.of_own HG.out.r1) (HU.out.below HG.out.k) (by have := HLs.out; show c.vs.length ≤ 1000000; omega) (by have := HLs.out; omega)).mono ?_
                rintro e w6 ⟨rfl, b6⟩
                rw [show sameC ⟨c.h, c.x, c.vs⟩ c = true from sameC_refl c]
                have HGa := Lib.hid (HG.out.below b6)
                clear b6 HG
                go_wp2_with (first
                  | (with_reducible show wpList _ _ _ (⟨some 137, _, _, _, _, _⟩ :: _) _ _; refine wpList_load_cw _ rfl rfl q2 rfl HGa.out.e2 HX.out ?_)
                  | (with_reducible show wpList _ _ _ (⟨some 138, _, _, _, _, _⟩ :: _) _ _; refine wpList_load_cw _ rfl rfl q3 rfl HGa.out.e3 HX.out ?_)
                  | (with_reducible show wpList _ _ _ (⟨some 139, _, _, _, _, _⟩ :: _) _ _; refine wpList_load_cw _ rfl rfl w.heap.size rfl HGa.out.c0 HX.out ?_))
                refine (joins_yes (a := ⟨c.h, c.x, a⟩) (b := ⟨c.h, c.x, b⟩) (d := c) 0 HX.out HX.out HX.out (VRow.of_own HGa.out.r2) (VRow.of_own HGa.out.r3) (HU.out.below HGa.out.k) HLs.out.1 HLs.out.2.1 HLs.out.2.2 (by rw [J1.out.1]; rfl) J1.out.2).mono ?_
                rintro e w7 ⟨rfl, b7⟩
                have HGb := Lib.hid (HGa.out.below b7)
                clear b7 HGa
                go_wp2_with (first
                  | (with_reducible show wpList _ _ _ (⟨some 143, _, _, _, _, _⟩ :: _) _ _; refine wpList_load_cw _ rfl rfl q3 rfl HGb.out.e3 HX.out ?_)
                  | (with_reducible show wpList _ _ _ (⟨some 144, _, _, _, _, _⟩ :: _) _ _; refine wpList_load_cw _ rfl rfl q2 rfl HGb.out.e2 HX.out ?_)
                  | (with_reducible show wpList _ _ _ (⟨some 145, _, _, _, _, _⟩ :: _) _ _; refine wpList_load_cw _ rfl rfl w.heap.size rfl HGb.out.c0 HX.out ?_))
                refine (joins_yes (a := ⟨c.h, c.x, b⟩) (b := ⟨c.h, c.x, a⟩) (d := c) 0 HX.out HX.out HX.out (VRow.of_own HGb.out.r3) (VRow.of_own HGb.out.r2) (HU.out.below HGb.out.k) HLs.out.2.1 HLs.out.1 HLs.out.2.2 (by rw [J2.out.1]; rfl) J2.out.2).mono ?_
                rintro e w8 ⟨rfl, b8⟩
                have HGc := Lib.hid (HGb.out.below b8)
                clear b8 HGb
                go_wp2_with (first
                  | (with_reducible show wpList _ _ _ (⟨some 149, _, _, _, _, _⟩ :: _) _ _; refine wpList_load_cw _ rfl rfl w.heap.size rfl HGc.out.c0 HX.out ?_)
                  | (with_reducible show wpList _ _ _ (⟨some 150, _, _, _, _, _⟩ :: _) _ _; refine wpList_load_cw _ rfl rfl q2 rfl HGc.out.e2 HX.out ?_)
                  | (with_reducible show wpList _ _ _ (⟨some 151, _, _, _, _, _⟩ :: _) _ _; refine wpList_load_cw _ rfl rfl w.heap.size rfl HGc.out.c0 HX.out ?_))
                refine (joins_yes (a := c) (b := ⟨c.h, c.x, a⟩) (d := c) 0 HX.out HX.out HX.out (HU.out.below HGc.out.k) (VRow.of_own HGc.out.r2) (HU.out.below HGc.out.k) HLs.out.2.2 HLs.out.1 HLs.out.2.2 (by have := J3.out.1; show ((joinE ⟨c.h, c.x, c.vs⟩ ⟨c.h, c.x, a⟩ : Nat) : Int) = 0; rw [this]; rfl) J3.out.2).mono ?_
                rintro e w9 ⟨rfl, b9⟩
                have HGd := Lib.hid (HGc.out.below b9)
                clear b9 HGc
                go_wp2_with (first
                  | (with_reducible show wpList _ _ _ (⟨some 155, _, _, _, _, _⟩ :: _) _ _; refine wpList_load_cw _ rfl rfl q2 rfl HGd.out.e2 HX.out ?_)
                  | (with_reducible show wpList _ _ _ (⟨some 156, _, _, _, _, _⟩ :: _) _ _; refine wpList_load_cw _ rfl rfl q2 rfl HGd.out.e2 HX.out ?_)
                  | (with_reducible show wpList _ _ _ (⟨some 157, _, _, _, _, _⟩ :: _) _ _; refine wpList_load_cw _ rfl rfl q2 rfl HGd.out.e2 HX.out ?_))
                refine (joins_yes (a := ⟨c.h, c.x, a⟩) (b := ⟨c.h, c.x, a⟩) (d := ⟨c.h, c.x, a⟩) 0 HX.out HX.out HX.out (VRow.of_own HGd.out.r2) (VRow.of_own HGd.out.r2) (VRow.of_own HGd.out.r2) HLs.out.1 HLs.out.1 HLs.out.1 (by rw [J4.out.1]; rfl) J4.out.2).mono ?_
                rintro e w10 ⟨rfl, b10⟩
                go_wp2_with fail
                go_ret
                exact ⟨rfl, bl_then HGd.out.k b10⟩
        · have hc' : ¬ ((chk c : Nat) : Int) = 0 := by omega
          have hc2 : (((chk c : Nat) : Int) != 0) = true := by simp; omega
          generalize chk c = m at *
          go_wp2_with fail
          go_ret
          exact ⟨rfl, H4.out.2⟩
end Go.Proofs.Ytooghjnddifpdaa
