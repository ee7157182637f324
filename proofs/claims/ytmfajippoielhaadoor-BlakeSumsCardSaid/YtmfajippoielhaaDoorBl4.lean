/- The document's mix. Printed by wip/mkbl3.py. -/
import Derived.Test.YtmfajippoielhaaDoorBl3
namespace Go.Proofs.YtmfajippoielhaaDoor
open Go.RowKit Go.Proofs.YtmfajippoielhaaDoor.Bl
set_option linter.unusedSimpArgs false
set_option linter.unusedVariables false
attribute [local go_sem] cell_alloc_some frozen_alloc_some

set_option maxRecDepth 100000 in
set_option maxHeartbeats 4000000 in
theorem mixr_any {w0 : World} {i j k l : Nat} {V : List W} (x y : W) (hV : V.length = 16) (hi : i < 16) (hj : j < 16) (hk : k < 16) (hl : l < 16) :
    Calls Tryd.prog 41 #[.agg (wvs V).toArray, .int .i64 (i : Int), .int .i64 (j : Int), .int .i64 (k : Int), .int .i64 (l : Int), wv x, wv y] w0 fun e w' => e = .returned (.agg (wvs (mixL V i j k l x y)).toArray) ∧ Below w0.heap.size w0 w' := by
  have qi := hi
  rw [← hV] at hi
  have hi0 := hi
  have qj := hj
  rw [← hV] at hj
  have hj0 := hj
  have qk := hk
  rw [← hV] at hk
  have hk0 := hk
  have ql := hl
  rw [← hV] at hl
  have hl0 := hl
  go_enter Tryd.func41, Tryd.ntmps41
  go_upto_region 1 with fail
  generalize hb : w0.heap.size = b
  refine wp_world fun w hw => ?_
  have H0 := Lib.hid (show Mx w b 65 V w by
    rw [hw]
    exact ⟨kb_alloc (kb_new hb.symm _) _, Keep.refl _ _⟩)
  have H9 := Lib.hid (show Below w0.heap.size w0 w ∧ Cs w (b + 1) 65 (wvs (List.replicate 16 0)) by
    rw [hw]
    exact ⟨by (repeat (with_reducible (first | exact Below.refl _ _ | assumption | refine bl_alloc ?_ _ | refine bl_drew ?_ | refine bl_drewN ?_ _ | (refine bl_set ?_ ?_ _; (focus (first | (simp; done) | (simp; omega) | omega))) | refine bl_then ?_ (by assumption)))), kb_new (by simp [hb]) _⟩)
  have HV := Lib.hid hV
  clear hw hV
  go_upto_region 1 with fail
  go_cut [] from 15 (fun wx => Hid (Mx w b 65 (mx1 V i j x) wx))
  case first =>
    have c1 := (H0.out.1.at (i := i) (by simpa using hi))
    have c2 := (H0.out.1.at (i := j) (by simpa using hj))
    have zz := H0.out.1.fz i
    go_region
    all_goals
      (try go_wp2_with fail)
      go_meet
      case rel => rw [w_add3']; first | exact Lib.hid (H0.out.put i (wAt V i + (wAt V j + x))) | exact Lib.hid (H0.out.put' i (wAt V i + (wAt V j + x)))
  have H1 := hcut
  clear hcut H0
  generalize hV1 : (mx1 V i j x) = V1 at H1
  have hl1 : V1.length = V.length := by rw [← hV1]; simp [mx1, mx2, mx3]
  have hi : i < V1.length := by rw [hl1]; exact hi0
  have hj : j < V1.length := by rw [hl1]; exact hj0
  have hk : k < V1.length := by rw [hl1]; exact hk0
  have hl : l < V1.length := by rw [hl1]; exact hl0
  go_upto_region 2 with fail
  go_cut [] from 15 (fun wx => Hid (Mx w b 65 (mx2 r16 V1 l i) wx))
  case first =>
    have c1 := (H1.out.1.at (i := l) (by simpa using hl))
    have c2 := (H1.out.1.at (i := i) (by simpa using hi))
    have zz := H1.out.1.fz l
    go_region_with (go_at_call 53; rw [w_xor]; (with_reducible refine (turn16 _ _).mono ?_); rintro e w1 ⟨rfl, rfl⟩)
    all_goals
      (try go_wp2_with fail)
      go_meet
      case rel => first | exact Lib.hid (H1.out.put l (r16 (wAt V1 l ^^^ wAt V1 i))) | exact Lib.hid (H1.out.put' l (r16 (wAt V1 l ^^^ wAt V1 i)))
  have H2 := hcut
  clear hcut H1
  generalize hV2 : (mx2 r16 V1 l i) = V2 at H2
  have hl2 : V2.length = V.length := by rw [← hV2]; simp [mx1, mx2, mx3, hl1]
  have hi : i < V2.length := by rw [hl2]; exact hi0
  have hj : j < V2.length := by rw [hl2]; exact hj0
  have hk : k < V2.length := by rw [hl2]; exact hk0
  have hl : l < V2.length := by rw [hl2]; exact hl0
  go_upto_region 3 with fail
  go_cut [] from 15 (fun wx => Hid (Mx w b 65 (mx3 V2 k l) wx))
  case first =>
    have c1 := (H2.out.1.at (i := k) (by simpa using hk))
    have c2 := (H2.out.1.at (i := l) (by simpa using hl))
    have zz := H2.out.1.fz k
    go_region
    all_goals
      (try go_wp2_with fail)
      go_meet
      case rel => rw [w_add]; first | exact Lib.hid (H2.out.put k (wAt V2 k + wAt V2 l)) | exact Lib.hid (H2.out.put' k (wAt V2 k + wAt V2 l))
  have H3 := hcut
  clear hcut H2
  generalize hV3 : (mx3 V2 k l) = V3 at H3
  have hl3 : V3.length = V.length := by rw [← hV3]; simp [mx1, mx2, mx3, hl2]
  have hi : i < V3.length := by rw [hl3]; exact hi0
  have hj : j < V3.length := by rw [hl3]; exact hj0
  have hk : k < V3.length := by rw [hl3]; exact hk0
  have hl : l < V3.length := by rw [hl3]; exact hl0
  go_upto_region 4 with fail
  go_cut [] from 15 (fun wx => Hid (Mx w b 65 (mx2 r12 V3 j k) wx))
  case first =>
    have c1 := (H3.out.1.at (i := j) (by simpa using hj))
    have c2 := (H3.out.1.at (i := k) (by simpa using hk))
    have zz := H3.out.1.fz j
    go_region_with (go_at_call 53; rw [w_xor]; (with_reducible refine (turn12 _ _).mono ?_); rintro e w1 ⟨rfl, rfl⟩)
    all_goals
      (try go_wp2_with fail)
      go_meet
      case rel => first | exact Lib.hid (H3.out.put j (r12 (wAt V3 j ^^^ wAt V3 k))) | exact Lib.hid (H3.out.put' j (r12 (wAt V3 j ^^^ wAt V3 k)))
  have H4 := hcut
  clear hcut H3
  generalize hV4 : (mx2 r12 V3 j k) = V4 at H4
  have hl4 : V4.length = V.length := by rw [← hV4]; simp [mx1, mx2, mx3, hl3]
  have hi : i < V4.length := by rw [hl4]; exact hi0
  have hj : j < V4.length := by rw [hl4]; exact hj0
  have hk : k < V4.length := by rw [hl4]; exact hk0
  have hl : l < V4.length := by rw [hl4]; exact hl0
  go_upto_region 5 with fail
  go_cut [] from 15 (fun wx => Hid (Mx w b 65 (mx1 V4 i j y) wx))
  case first =>
    have c1 := (H4.out.1.at (i := i) (by simpa using hi))
    have c2 := (H4.out.1.at (i := j) (by simpa using hj))
    have zz := H4.out.1.fz i
    go_region
    all_goals
      (try go_wp2_with fail)
      go_meet
      case rel => rw [w_add3']; first | exact Lib.hid (H4.out.put i (wAt V4 i + (wAt V4 j + y))) | exact Lib.hid (H4.out.put' i (wAt V4 i + (wAt V4 j + y)))
  have H5 := hcut
  clear hcut H4
  generalize hV5 : (mx1 V4 i j y) = V5 at H5
  have hl5 : V5.length = V.length := by rw [← hV5]; simp [mx1, mx2, mx3, hl4]
  have hi : i < V5.length := by rw [hl5]; exact hi0
  have hj : j < V5.length := by rw [hl5]; exact hj0
  have hk : k < V5.length := by rw [hl5]; exact hk0
  have hl : l < V5.length := by rw [hl5]; exact hl0
  go_upto_region 6 with fail
  go_cut [] from 15 (fun wx => Hid (Mx w b 65 (mx2 r8 V5 l i) wx))
  case first =>
    have c1 := (H5.out.1.at (i := l) (by simpa using hl))
    have c2 := (H5.out.1.at (i := i) (by simpa using hi))
    have zz := H5.out.1.fz l
    go_region_with (go_at_call 53; rw [w_xor]; (with_reducible refine (turn8 _ _).mono ?_); rintro e w1 ⟨rfl, rfl⟩)
    all_goals
      (try go_wp2_with fail)
      go_meet
      case rel => first | exact Lib.hid (H5.out.put l (r8 (wAt V5 l ^^^ wAt V5 i))) | exact Lib.hid (H5.out.put' l (r8 (wAt V5 l ^^^ wAt V5 i)))
  have H6 := hcut
  clear hcut H5
  generalize hV6 : (mx2 r8 V5 l i) = V6 at H6
  have hl6 : V6.length = V.length := by rw [← hV6]; simp [mx1, mx2, mx3, hl5]
  have hi : i < V6.length := by rw [hl6]; exact hi0
  have hj : j < V6.length := by rw [hl6]; exact hj0
  have hk : k < V6.length := by rw [hl6]; exact hk0
  have hl : l < V6.length := by rw [hl6]; exact hl0
  go_upto_region 7 with fail
  go_cut [] from 15 (fun wx => Hid (Mx w b 65 (mx3 V6 k l) wx))
  case first =>
    have c1 := (H6.out.1.at (i := k) (by simpa using hk))
    have c2 := (H6.out.1.at (i := l) (by simpa using hl))
    have zz := H6.out.1.fz k
    go_region
    all_goals
      (try go_wp2_with fail)
      go_meet
      case rel => rw [w_add]; first | exact Lib.hid (H6.out.put k (wAt V6 k + wAt V6 l)) | exact Lib.hid (H6.out.put' k (wAt V6 k + wAt V6 l))
  have H7 := hcut
  clear hcut H6
  generalize hV7 : (mx3 V6 k l) = V7 at H7
  have hl7 : V7.length = V.length := by rw [← hV7]; simp [mx1, mx2, mx3, hl6]
  have hi : i < V7.length := by rw [hl7]; exact hi0
  have hj : j < V7.length := by rw [hl7]; exact hj0
  have hk : k < V7.length := by rw [hl7]; exact hk0
  have hl : l < V7.length := by rw [hl7]; exact hl0
  go_upto_region 8 with fail
  go_cut [] from 15 (fun wx => Hid (Mx w b 65 (mx2 r7 V7 j k) wx))
  case first =>
    have c1 := (H7.out.1.at (i := j) (by simpa using hj))
    have c2 := (H7.out.1.at (i := k) (by simpa using hk))
    have zz := H7.out.1.fz j
    go_region_with (go_at_call 53; rw [w_xor]; (with_reducible refine (turn7 _ _).mono ?_); rintro e w1 ⟨rfl, rfl⟩)
    all_goals
      (try go_wp2_with fail)
      go_meet
      case rel => first | exact Lib.hid (H7.out.put j (r7 (wAt V7 j ^^^ wAt V7 k))) | exact Lib.hid (H7.out.put' j (r7 (wAt V7 j ^^^ wAt V7 k)))
  have H8 := hcut
  clear hcut H7
  generalize hV8 : (mx2 r7 V7 j k) = V8 at H8
  have hl8 : V8.length = V.length := by rw [← hV8]; simp [mx1, mx2, mx3, hl7]
  have hi : i < V8.length := by rw [hl8]; exact hi0
  have hj : j < V8.length := by rw [hl8]; exact hj0
  have hk : k < V8.length := by rw [hl8]; exact hk0
  have hl : l < V8.length := by rw [hl8]; exact hl0
  rw [show V8 = mixL V i j k l x y by unfold mixL; rw [hV1, hV2, hV3, hV4, hV5, hV6, hV7, hV8]] at H8
  clear hV1 hV2 hV3 hV4 hV5 hV6 hV7 hV8 hl1 hl2 hl3 hl4 hl5 hl6 hl7 hl8
  go_upto_region 9 with fail
  have hR := H9.out.2.keep H8.out.2 (by omega)
  have hm : (wvs (mixL V i j k l x y)).length = 16 := by rw [wvs_len, mixL_len, HV.out]
  have HR := Lib.hid hR
  clear hR
  generalize hM : mixL V i j k l x y = M at *
  go_wp2_with (first
    | (refine wpList_load_16 _ rfl (by kernel_rfl) _ _ rfl H8.out.1.cs.range hm ?_)
    | (refine wpList_store_16 (op := ⟨none, .store 65 _ _, _, _, _, _⟩) rfl _ _ rfl _ rfl rfl HR.out (by simp [wvs_len]) hm (wvs_one _) ?_))
  intro w9 g9 k9
  have HG := Lib.hid (And.intro g9 k9)
  clear g9 k9
  go_wp2_with fail
  refine bodyPost_ret (results_16 rfl _ _ (b + 1) hm rfl HG.out.1) rfl ⟨by rw [hM], ?_⟩
  exact (((Keep.of_below (S := fun _ => False) H9.out.1).trans H8.out.2 (fun c hc e => by omega)).trans HG.out.2 (fun c hc e => by omega)).below (Nat.le_refl _) (fun c e => e.elim)
end Go.Proofs.YtmfajippoielhaaDoor
