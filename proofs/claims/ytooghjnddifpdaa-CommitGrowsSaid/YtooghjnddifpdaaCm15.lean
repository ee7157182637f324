/- The document's Add. -/
import Derived.Test.YtooghjnddifpdaaCm14
import Derived.Laws.Tables
namespace Go.Proofs.Ytooghjnddifpdaa
open Go.RowKit Go.Proofs.Ytooghjnddifpdaa.Cm BigFrame
set_option linter.unusedSimpArgs false
set_option linter.unusedVariables false
attribute [local go_sem] cell_alloc_some frozen_alloc_some

set_option maxRecDepth 100000 in
theorem built_c (h : Int) (A : Option Addr) (n c : Nat) : ∀ (x : List UInt8), x.length = 32 → Try.prog.built 26 [(0, .int .i64 h), (1, .agg (u8s x).toArray), (2, .slice A n c)] = some (ccs ⟨h, x, []⟩ (.slice A n c)).toArray
  | [x0, x1, x2, x3, x4, x5, x6, x7, x8, x9, x10, x11, x12, x13, x14, x15, x16, x17, x18, x19, x20, x21, x22, x23, x24, x25, x26, x27, x28, x29, x30, x31], _ => by kernel_rfl
theorem run_build_c (h : Int) (x : List UInt8) (hx : x.length = 32) (A : Option Addr) (n c : Nat) (w : World) : (Instr.build 26 #[(0, .int .i64 h), (1, .agg (u8s x).toArray), (2, .slice A n c)]).run Try.prog w = .ok (.agg (ccs ⟨h, x, []⟩ (.slice A n c)).toArray) w :=
  run_build w _ _ _ (built_c h A n c x hx)
theorem exec_build_c {o : Oper} {a : Act} {p q r : Operand} {h : Int} {x : List UInt8} {A : Option Addr} {n c : Nat} (ho : o.op = .build 26 #[(0, p), (1, q), (2, r)]) (hp : a.eval p = .int .i64 h) (hq : a.eval q = .agg (u8s x).toArray) (hr : a.eval r = .slice A n c) (hx : x.length = 32) (w : World) :
    (execOp a.eval o).run Try.prog w = .ok (.value (.agg (ccs ⟨h, x, []⟩ (.slice A n c)).toArray)) w := by
  unfold execOp
  simp only [ho, List.map_toArray, List.map_cons, List.map_nil, hp, hq, hr, Sem.run_bind, run_build_c h x hx A n c w, Result.andThen_ok]
  rfl
theorem yieldsIf_build_c {ops : Array Oper} {S : World → Prop} {o : Oper} {a : Act} (hw : Region.wanted o (yielded ops a.tmps) = true) (p q r : Operand) {h : Int} {x : List UInt8} {A : Option Addr} {n c : Nat} (ho : o.op = .build 26 #[(0, p), (1, q), (2, r)]) (hp : a.eval p = .int .i64 h) (hq : a.eval q = .agg (u8s x).toArray) (hr : a.eval r = .slice A n c) (hx : x.length = 32) :
    YieldsIf Try.prog ops S o (.agg (ccs ⟨h, x, []⟩ (.slice A n c)).toArray) a := .inl ⟨hw, fun w _ => exec_build_c ho hp hq hr hx w⟩
theorem step_store_c {ops : Array Oper} {o : Oper} {a : Act} {w : World} {K : Act → World → Prop} {Q : Exit → Act → World → Prop} {E : Prop} (hg : o.guard = none) (x y : Operand) (ho : o.op = .store 26 x y) (b : Nat) (hx : a.eval x = .pointer (some ⟨b, 0, none⟩)) {c : C} {v : Value} (hy : a.eval y = .agg (ccs c v).toArray)
    {cur : Array Value} (h : w.heap[b]? = some (.cells cur 26 (0, 0))) (hs : cur.size = 34) (hl : c.x.length = 32) (hv : v.oneCell' = true)
    (hk : ∀ w', w'.heap[b]? = some (.cells (ccs c v).toArray 26 (0, 0)) → Keep (fun x => x = b) w w' → K (a.put o.dst undef) w') : if Region.wanted o (yielded ops a.tmps) = true then Oper.wp Try.prog o a w K Q else E := by
  have hw : Region.wanted o (yielded ops a.tmps) = true := by simp [Region.wanted, hg]
  rw [if_pos hw]
  have hL : (ccs c v).toArray.size = 34 := by simpa using ccs_len hl v
  refine wp_store_mid 26 x y ho b 0 (ccs c v).toArray hx hy (by rw [hL]; exact there_kb h hs) (sizeC.trans (by rw [hL])) (ccs_one hv) (hk _ ?_ (keep_cells _ 0 (Keep.refl _ _) (fun _ => rfl)))
  exact setCells_kb (ccs c v) h (by rw [hs, ccs_len hl])
set_option maxRecDepth 100000 in
set_option maxHeartbeats 4000000 in
theorem rAdd_bad {w : World} {c : C} {v : Value} (x : Vt) (hx : c.x.length = 32) (hv : VRow w v c.vs) (hl : c.vs.length ≤ 1000000) (hc : chk c ≠ 0) :
    Calls Try.prog 13 #[.agg (ccs c v).toArray, vtV x] w (COut (addC c x) (addE c x) w) := by
  have he : addE c x = chk c := by unfold addE; rw [if_pos hc]
  have HE := Lib.hid (And.intro he (addC_no (by rw [he]; exact hc)))
  have HC := Lib.hid hc
  clear he hc
  have HV := Lib.hid hv
  have HX := Lib.hid hx
  have hone := hv.one
  clear hv hx
  go_enter Try.func13, Try.ntmps13
  go_upto_region 1 with fail
  refine wp_world fun wA hwA => ?_
  have hA : AddIn w wA c v x := by rw [hwA]; exact AddIn.mk' w c v x
  have HA := Lib.hid hA
  clear hwA hA
  go_wp2_with (with_reducible refine wpList_load_cw _ rfl (by kernel_rfl) _ rfl HA.out.e0 HX.out ?_)
  refine (rCheck_any' HX.out (HV.out.below HA.out.b) hl).mono ?_
  rintro e w1 ⟨rfl, b1⟩
  have HA1 := Lib.hid (HA.out.below b1)
  clear b1
  obtain ⟨hp0, hp1⟩ := vt_boxed HA1.out.e1
  go_wp2_with (with_reducible refine wpList_load_cw _ rfl (by kernel_rfl) _ rfl HA1.out.e0 HX.out ?_)
  refine (rOf_any' x.p HX.out (HV.out.below HA1.out.b) hl).mono ?_
  rintro e w2 ⟨rfl, b2⟩
  have HA2 := Lib.hid (HA1.out.below b2)
  clear b2 hp0 hp1
  have hn : ((chk c : Int) == 0) = false := by have := HC.out; simpa using this
  have hn' : ¬ ((chk c : Int) = 0) := by have := HC.out; omega
  go_wp2_with (refine wpList_store_c (op := ⟨none, _, _, _, _, _⟩) rfl _ _ rfl _ rfl (congrArg Value.agg zeroC) HA2.out.e2 zArr cZ_x rfl ?_)
  intro w3 g2 k2
  have HG := Lib.hid (And.intro g2 k2)
  clear g2 k2
  go_wp2_with fail
  refine bodyPost_ret (results_c rfl _ _ (w.heap.size + 2) cZ_x rfl HG.out.1 rfl) rfl ?_
  exact COut.none HE.out.2 (by rw [HE.out.1]) rfl (((Keep.of_below (S := fun _ => False) HA2.out.b).trans HG.out.2 (fun b h e => by omega)).below (Nat.le_refl _) (fun b e => e.elim))
set_option maxRecDepth 100000 in
set_option maxHeartbeats 4000000 in
theorem rAdd_low {w : World} {c : C} {v : Value} (x : Vt) (hx : c.x.length = 32) (hv : VRow w v c.vs) (hl : c.vs.length ≤ 1000000) (hc : chk c = 0) (hr : x.p < 0) :
    Calls Try.prog 13 #[.agg (ccs c v).toArray, vtV x] w (COut (addC c x) (addE c x) w) := by
  have he : addE c x = 3 := by unfold addE; rw [if_neg (by omega), if_pos (by omega)]
  have HE := Lib.hid (And.intro he (addC_no (by rw [he]; decide)))
  have HC := Lib.hid hc
  clear he hc
  have HV := Lib.hid hv
  have HX := Lib.hid hx
  have hone := hv.one
  clear hv hx
  go_enter Try.func13, Try.ntmps13
  go_upto_region 1 with fail
  refine wp_world fun wA hwA => ?_
  have hA : AddIn w wA c v x := by rw [hwA]; exact AddIn.mk' w c v x
  have HA := Lib.hid hA
  clear hwA hA
  go_wp2_with (with_reducible refine wpList_load_cw _ rfl (by kernel_rfl) _ rfl HA.out.e0 HX.out ?_)
  refine (rCheck_any' HX.out (HV.out.below HA.out.b) hl).mono ?_
  rintro e w1 ⟨rfl, b1⟩
  have HA1 := Lib.hid (HA.out.below b1)
  clear b1
  obtain ⟨hp0, hp1⟩ := vt_boxed HA1.out.e1
  go_wp2_with (with_reducible refine wpList_load_cw _ rfl (by kernel_rfl) _ rfl HA1.out.e0 HX.out ?_)
  refine (rOf_any' x.p HX.out (HV.out.below HA1.out.b) hl).mono ?_
  rintro e w2 ⟨rfl, b2⟩
  have HA2 := Lib.hid (HA1.out.below b2)
  clear b2 hp0 hp1
  rw [HC.out]
  obtain ⟨hp0, hp1⟩ := vt_boxed HA2.out.e1
  go_wp2_with (refine wpList_store_c (op := ⟨none, _, _, _, _, _⟩) rfl _ _ rfl _ rfl (congrArg Value.agg zeroC) HA2.out.e2 zArr cZ_x rfl ?_)
  intro w3 g2 k2
  have HG := Lib.hid (And.intro g2 k2)
  clear g2 k2
  go_wp2_with fail
  refine bodyPost_ret (results_c rfl _ _ (w.heap.size + 2) cZ_x rfl HG.out.1 rfl) rfl ?_
  exact COut.none HE.out.2 (by rw [HE.out.1]; rfl) rfl (((Keep.of_below (S := fun _ => False) HA2.out.b).trans HG.out.2 (fun b h e => by omega)).below (Nat.le_refl _) (fun b e => e.elim))
set_option maxRecDepth 100000 in
set_option maxHeartbeats 4000000 in
theorem rAdd_high {w : World} {c : C} {v : Value} (x : Vt) (hx : c.x.length = 32) (hv : VRow w v c.vs) (hl : c.vs.length ≤ 1000000) (hc : chk c = 0) (hr0 : ¬ x.p < 0) (hr : 64 ≤ x.p) :
    Calls Try.prog 13 #[.agg (ccs c v).toArray, vtV x] w (COut (addC c x) (addE c x) w) := by
  have he : addE c x = 3 := by unfold addE; rw [if_neg (by omega), if_pos (by omega)]
  have HE := Lib.hid (And.intro he (addC_no (by rw [he]; decide)))
  have HC := Lib.hid hc
  clear he hc
  have HV := Lib.hid hv
  have HX := Lib.hid hx
  have hone := hv.one
  clear hv hx
  go_enter Try.func13, Try.ntmps13
  go_upto_region 1 with fail
  refine wp_world fun wA hwA => ?_
  have hA : AddIn w wA c v x := by rw [hwA]; exact AddIn.mk' w c v x
  have HA := Lib.hid hA
  clear hwA hA
  go_wp2_with (with_reducible refine wpList_load_cw _ rfl (by kernel_rfl) _ rfl HA.out.e0 HX.out ?_)
  refine (rCheck_any' HX.out (HV.out.below HA.out.b) hl).mono ?_
  rintro e w1 ⟨rfl, b1⟩
  have HA1 := Lib.hid (HA.out.below b1)
  clear b1
  obtain ⟨hp0, hp1⟩ := vt_boxed HA1.out.e1
  go_wp2_with (with_reducible refine wpList_load_cw _ rfl (by kernel_rfl) _ rfl HA1.out.e0 HX.out ?_)
  refine (rOf_any' x.p HX.out (HV.out.below HA1.out.b) hl).mono ?_
  rintro e w2 ⟨rfl, b2⟩
  have HA2 := Lib.hid (HA1.out.below b2)
  clear b2 hp0 hp1
  rw [HC.out]
  obtain ⟨hp0, hp1⟩ := vt_boxed HA2.out.e1
  go_wp2_with (refine wpList_store_c (op := ⟨none, _, _, _, _, _⟩) rfl _ _ rfl _ rfl (congrArg Value.agg zeroC) HA2.out.e2 zArr cZ_x rfl ?_)
  intro w3 g2 k2
  have HG := Lib.hid (And.intro g2 k2)
  clear g2 k2
  go_wp2_with fail
  refine bodyPost_ret (results_c rfl _ _ (w.heap.size + 2) cZ_x rfl HG.out.1 rfl) rfl ?_
  exact COut.none HE.out.2 (by rw [HE.out.1]; rfl) rfl (((Keep.of_below (S := fun _ => False) HA2.out.b).trans HG.out.2 (fun b h e => by omega)).below (Nat.le_refl _) (fun b e => e.elim))
set_option maxRecDepth 100000 in
set_option maxHeartbeats 4000000 in
theorem rAdd_double {w : World} {c : C} {v : Value} (x : Vt) (hx : c.x.length = 32) (hv : VRow w v c.vs) (hl : c.vs.length ≤ 1000000) (hc : chk c = 0) (hr1 : ¬ x.p < 0) (hr2 : ¬ 64 ≤ x.p) {g : Nat} (hf : findV c.vs x.p = some g) :
    Calls Try.prog 13 #[.agg (ccs c v).toArray, vtV x] w (COut (addC c x) (addE c x) w) := by
  have he : addE c x = 8 := by unfold addE; rw [if_neg (by omega), if_neg (by omega), hf]; rfl
  have HE := Lib.hid (And.intro he (addC_no (by rw [he]; decide)))
  have HC := Lib.hid hc
  have HF := Lib.hid (show sigR c.vs x.p = (g, true) by simp [sigR, hf])
  have hr3 : x.p < 64 := by omega
  clear he hc hf
  have HV := Lib.hid hv
  have HX := Lib.hid hx
  have hone := hv.one
  clear hv hx
  go_enter Try.func13, Try.ntmps13
  go_upto_region 1 with fail
  refine wp_world fun wA hwA => ?_
  have hA : AddIn w wA c v x := by rw [hwA]; exact AddIn.mk' w c v x
  have HA := Lib.hid hA
  clear hwA hA
  go_wp2_with (with_reducible refine wpList_load_cw _ rfl (by kernel_rfl) _ rfl HA.out.e0 HX.out ?_)
  refine (rCheck_any' HX.out (HV.out.below HA.out.b) hl).mono ?_
  rintro e w1 ⟨rfl, b1⟩
  have HA1 := Lib.hid (HA.out.below b1)
  clear b1
  obtain ⟨hp0, hp1⟩ := vt_boxed HA1.out.e1
  go_wp2_with (with_reducible refine wpList_load_cw _ rfl (by kernel_rfl) _ rfl HA1.out.e0 HX.out ?_)
  refine (rOf_any' x.p HX.out (HV.out.below HA1.out.b) hl).mono ?_
  rintro e w2 ⟨rfl, b2⟩
  have HA2 := Lib.hid (HA1.out.below b2)
  clear b2 hp0 hp1
  rw [HC.out, HF.out]
  obtain ⟨hp0, hp1⟩ := vt_boxed HA2.out.e1
  go_wp2_with (refine wpList_store_c (op := ⟨none, _, _, _, _, _⟩) rfl _ _ rfl _ rfl (congrArg Value.agg zeroC) HA2.out.e2 zArr cZ_x rfl ?_)
  intro w3 g2 k2
  have HG := Lib.hid (And.intro g2 k2)
  clear g2 k2
  go_wp2_with fail
  refine bodyPost_ret (results_c rfl _ _ (w.heap.size + 2) cZ_x rfl HG.out.1 rfl) rfl ?_
  exact COut.none HE.out.2 (by rw [HE.out.1]; rfl) rfl (((Keep.of_below (S := fun _ => False) HA2.out.b).trans HG.out.2 (fun b h e => by omega)).below (Nat.le_refl _) (fun b e => e.elim))
set_option maxRecDepth 100000 in
set_option maxHeartbeats 4000000 in
theorem rAdd_yes {w : World} {c : C} {v : Value} (x : Vt) (hx : c.x.length = 32) (hv : VRow w v c.vs) (hl : c.vs.length ≤ 1000000) (hc : chk c = 0) (hr1 : ¬ x.p < 0) (hr2 : ¬ 64 ≤ x.p) (hf : findV c.vs x.p = none) :
    Calls Try.prog 13 #[.agg (ccs c v).toArray, vtV x] w (COut (addC c x) (addE c x) w) := by
  have he : addE c x = 0 := by unfold addE; rw [if_neg (by omega), if_neg (by omega), hf]; rfl
  have hC : addC c x = ⟨c.h, c.x, laidV c.vs x⟩ := by unfold addC; rw [if_pos he]
  have HE := Lib.hid (And.intro he hC)
  have HC := Lib.hid hc
  have HF := Lib.hid (show sigR c.vs x.p = (0, false) by simp [sigR, hf])
  have hr3 : x.p < 64 := by omega
  clear he hc hf hC
  have HV := Lib.hid hv
  have HX := Lib.hid hx
  have hone := hv.one
  clear hv hx
  go_enter Try.func13, Try.ntmps13
  go_upto_region 1 with fail
  refine wp_world fun wA hwA => ?_
  have hA : AddIn w wA c v x := by rw [hwA]; exact AddIn.mk' w c v x
  have HA := Lib.hid hA
  clear hwA hA
  go_wp2_with (with_reducible refine wpList_load_cw _ rfl (by kernel_rfl) _ rfl HA.out.e0 HX.out ?_)
  refine (rCheck_any' HX.out (HV.out.below HA.out.b) hl).mono ?_
  rintro e w1 ⟨rfl, b1⟩
  have HA1 := Lib.hid (HA.out.below b1)
  clear b1
  obtain ⟨hp0, hp1⟩ := vt_boxed HA1.out.e1
  go_wp2_with (with_reducible refine wpList_load_cw _ rfl (by kernel_rfl) _ rfl HA1.out.e0 HX.out ?_)
  refine (rOf_any' x.p HX.out (HV.out.below HA1.out.b) hl).mono ?_
  rintro e w2 ⟨rfl, b2⟩
  have HA2 := Lib.hid (HA1.out.below b2)
  clear b2 hp0 hp1
  rw [HC.out, HF.out]
  obtain ⟨hp0, hp1⟩ := vt_boxed HA2.out.e1
  go_wp2_with fail
  have HA3 := Lib.hid (HA2.out.below (bl_drew (Below.refl _ _)))
  have q33 := ccs_33 HX.out v
  have q0 := ccs_0 c v
  have S33 := Lib.hid (fun (W : World) (h : AddIn w W c v x) => (kb_cell h.e0 33).trans (by simpa using q33))
  have S0 := Lib.hid (fun (W : World) (h : AddIn w W c v x) => (kb_cell h.e0 0).trans (by simpa using q0))
  refine wp_region_held_drew (S := (fun W : World => W.rangeAt w.heap.size 1 (u8s c.x) ∧ W.cell? ⟨w.heap.size, 0, none⟩ = some (.int .i64 c.h) ∧ W.cell? ⟨w.heap.size, 33, none⟩ = some v ∧ W.cell? ⟨w.heap.size + 1, 0, none⟩ = some (.int .i64 x.p) ∧ W.cell? ⟨w.heap.size + 1, 1, none⟩ = some (.int .u64 x.g))) (by kernel_rfl) ⟨ccs_range HA3.out.e0 HX.out, S0.out _ HA3.out, S33.out _ HA3.out, vt_boxed HA3.out.e1⟩ (fun hHeld => ?_)
  generalize w2.drew = w3 at *
  obtain ⟨A, cap, hvv⟩ := HV.out.form
  subst hvv
  refine wpAnyH_take (i := 0) (oi := { dst := some 36, op := _, type := _, pos := _, after := _, guard := _ }) (v := ?_) rfl (by kernel_rfl) (by kernel_rfl) (by kernel_rfl) (fun _ _ _ h => h) (Or.inl ⟨by rfl, ?_⟩) hHeld ?_
  rotate_left
  · (intro w hSw; (try dsimp only at hSw); go_simp); all_goals with_reducible rfl
  try simp only [Act.put, List.setIfInBounds_toArray, List.set_cons_zero, List.set_cons_succ]
  refine wpAnyH_take (i := 1) (oi := { dst := some 37, op := _, type := _, pos := _, after := _, guard := _ }) (v := ?_) rfl (by kernel_rfl) (by kernel_rfl) (by kernel_rfl) (fun _ _ _ h => h) (Or.inl ⟨by rfl, ?_⟩) hHeld ?_
  rotate_left
  · (intro w hSw; (try dsimp only at hSw); go_simp); all_goals with_reducible rfl
  try simp only [Act.put, List.setIfInBounds_toArray, List.set_cons_zero, List.set_cons_succ]
  refine wpAnyH_take (i := 2) (oi := { dst := some 38, op := _, type := _, pos := _, after := _, guard := _ }) (v := ?_) rfl (by kernel_rfl) (by kernel_rfl) (by kernel_rfl) (fun _ _ _ h => h) (Or.inl ⟨by rfl, ?_⟩) hHeld ?_
  rotate_left
  · (intro w hSw; (try dsimp only at hSw); go_simp); all_goals with_reducible rfl
  try simp only [Act.put, List.setIfInBounds_toArray, List.set_cons_zero, List.set_cons_succ]
  refine wpAnyH_take (i := 3) (oi := { dst := some 39, op := _, type := _, pos := _, after := _, guard := _ }) (v := _) rfl (by kernel_rfl) (by kernel_rfl) (by kernel_rfl) (fun _ _ _ h => h) (yieldsIf_load_mid (by rfl) 23 _ rfl w.heap.size 1 rfl (u8s c.x) _ (fun _ h => h.1) Try.underlying23 rfl (sizeH.trans (by rw [u8s_len, HX.out]))) hHeld ?_
  try simp only [Act.put, List.setIfInBounds_toArray, List.set_cons_zero, List.set_cons_succ]
  refine wpAnyH_take (i := 4) (oi := { dst := some 40, op := _, type := _, pos := _, after := _, guard := _ }) (v := ?_) rfl (by kernel_rfl) (by kernel_rfl) (by kernel_rfl) (fun _ _ _ h => h) (Or.inl ⟨by rfl, ?_⟩) hHeld ?_
  rotate_left
  · (intro w hSw; (try dsimp only at hSw); go_simp); all_goals with_reducible rfl
  try simp only [Act.put, List.setIfInBounds_toArray, List.set_cons_zero, List.set_cons_succ]
  refine wpAnyH_take (i := 5) (oi := { dst := some 41, op := _, type := _, pos := _, after := _, guard := _ }) (v := ?_) rfl (by kernel_rfl) (by kernel_rfl) (by kernel_rfl) (fun _ _ _ h => h) (Or.inl ⟨by rfl, ?_⟩) hHeld ?_
  rotate_left
  · (intro w hSw; (try dsimp only at hSw); go_simp); all_goals with_reducible rfl
  try simp only [Act.put, List.setIfInBounds_toArray, List.set_cons_zero, List.set_cons_succ]
  refine wpAnyH_take (i := 6) (oi := { dst := some 42, op := _, type := _, pos := _, after := _, guard := _ }) (v := ?_) rfl (by kernel_rfl) (by kernel_rfl) (by kernel_rfl) (fun _ _ _ h => h) (Or.inl ⟨by rfl, ?_⟩) hHeld ?_
  rotate_left
  · (intro w hSw; (try dsimp only at hSw); go_simp); all_goals with_reducible rfl
  try simp only [Act.put, List.setIfInBounds_toArray, List.set_cons_zero, List.set_cons_succ]
  refine wpAnyH_ready (rs := [7]) (by kernel_rfl) (by simp) (AllReadyH.cons (o := _) rfl (fun K hK => ?_) AllReadyH.nil)
  go_simp
  refine (laid_any x (HV.out.below HA3.out.b) hl).mono ?_
  rintro e w4 ⟨v4, rfl, n4⟩
  have HA4 := Lib.hid (HA3.out.below n4.2)
  have HN4 := Lib.hid n4
  obtain ⟨A4, c4, rfl⟩ := owns_slice0 n4.1
  refine hK.out _ _ ⟨ccs_range HA4.out.e0 HX.out, S0.out _ HA4.out, S33.out _ HA4.out, vt_boxed HA4.out.e1⟩ (fun hHeld => ?_)
  clear hK K n4
  refine wpAnyH_take (i := 8) (oi := { dst := some 44, op := _, type := _, pos := _, after := _, guard := _ }) (v := _) rfl (by kernel_rfl) (by kernel_rfl) (by kernel_rfl) (fun _ _ _ h => h) (yieldsIf_build_c (by rfl) _ _ _ rfl rfl rfl rfl HX.out) hHeld ?_
  try simp only [Act.put, List.setIfInBounds_toArray, List.set_cons_zero, List.set_cons_succ]
  refine wpAnyH_ready (rs := [9]) (by kernel_rfl) (by simp) (AllReadyH.cons (o := _) rfl (fun K hK => ?_) AllReadyH.nil)
  refine step_store_c rfl _ _ rfl _ rfl rfl HA4.out.e2 zArr HX.out rfl ?_
  intro w5 g5 k5
  have E0 := k5.kb HA4.out.e0 (by omega)
  have E1 := k5.kb HA4.out.e1 (by omega)
  have HG := Lib.hid (And.intro g5 k5)
  refine hK.out _ _ ⟨ccs_range E0 HX.out, (kb_cell E0 0).trans (by simpa using q0), (kb_cell E0 33).trans (by simpa using q33), vt_boxed E1⟩ (fun hHeld => ?_)
  clear hK K E0 E1 g5 k5
  refine wpAnyH_take (i := 10) (oi := { dst := some 5, op := _, type := _, pos := _, after := _, guard := _ }) (v := ?_) rfl (by kernel_rfl) (by kernel_rfl) (by kernel_rfl) (fun _ _ _ h => h) (Or.inl ⟨by rfl, ?_⟩) hHeld ?_
  rotate_left
  · (intro w hSw; (try dsimp only at hSw); go_simp); all_goals with_reducible rfl
  try simp only [Act.put, List.setIfInBounds_toArray, List.set_cons_zero, List.set_cons_succ]
  refine wpAnyH_done (by kernel_rfl) ?_ _
  clear hHeld
  go_wp2_with fail
  refine bodyPost_ret (results_c (c := ⟨c.h, c.x, []⟩) rfl _ _ (w.heap.size + 2) HX.out rfl HG.out.1 rfl) rfl ?_
  rw [HE.out.1, HE.out.2]
  refine ⟨_, rfl, owns_mono (HG.out.2.row HN4.out.1 (fun b h e => by have := (HN4.out.1.lt b h).1; have := HA3.out.size; omega)) (by have := HA3.out.size; omega), ?_⟩
  exact ((Keep.of_below (S := fun _ => False) HA4.out.b).trans HG.out.2 (fun b h e => by omega)).below (Nat.le_refl _) (fun b e => e.elim)

theorem rAdd_any {w : World} {c : C} {v : Value} (x : Vt) (hx : c.x.length = 32) (hv : VRow w v c.vs) (hl : c.vs.length ≤ 1000000) :
    Calls Try.prog 13 #[.agg (ccs c v).toArray, vtV x] w (COut (addC c x) (addE c x) w) := by
  by_cases hc : chk c = 0
  · by_cases h1 : x.p < 0
    · exact rAdd_low x hx hv hl hc h1
    by_cases h2 : 64 ≤ x.p
    · exact rAdd_high x hx hv hl hc h1 h2
    cases hf : findV c.vs x.p with
    | none => exact rAdd_yes x hx hv hl hc h1 h2 hf
    | some g => exact rAdd_double x hx hv hl hc h1 h2 hf
  · exact rAdd_bad x hx hv hl hc
end Go.Proofs.Ytooghjnddifpdaa
