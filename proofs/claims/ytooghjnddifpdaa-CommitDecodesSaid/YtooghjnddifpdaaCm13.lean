/- commit.Add. -/
import Derived.Test.YtooghjnddifpdaaCm12
namespace Go.Proofs.Ytooghjnddifpdaa
open Go.RowKit Go.Proofs.Ytooghjnddifpdaa.Cm BigFrame
set_option linter.unusedSimpArgs false
set_option linter.unusedVariables false
attribute [local go_sem] cell_alloc_some frozen_alloc_some

/-- What a commit is with a vote more, or why it is none. -/
def addE (c : C) (x : Vt) : Nat := if chk c ≠ 0 then chk c else if x.p < 0 ∨ 64 ≤ x.p then 3 else if (findV c.vs x.p).isSome = true then 8 else 0
def addC (c : C) (x : Vt) : C := if addE c x = 0 then ⟨c.h, c.x, laidV c.vs x⟩ else cZ
/-- A commit told, in new memory, and an error. -/
def COut (d : C) (n : Nat) (w : World) (e : Ending) (w' : World) : Prop := ∃ v', e = .returned (.tuple #[.agg (ccs d v').toArray, .int .i64 (n : Int)]) ∧ NewVotes w w' v' d.vs
theorem COut.none {d : C} {n : Nat} {w w' : World} {e : Ending} {m : Int} (hd : d = cZ) (hm : m = (n : Int)) (he : e = .returned (.tuple #[.agg (ccs cZ vZ).toArray, .int .i64 m])) (hb : Below w.heap.size w w') : COut d n w e w' := by
  subst hd; subst hm
  exact ⟨_, he, World.ownsRow_nil _ _ _ _, hb⟩
theorem addC_no {c : C} {x : Vt} (h : addE c x ≠ 0) : addC c x = cZ := by unfold addC; rw [if_neg h]
theorem vt_boxed {w : World} {b : Nat} {x : Vt} {fr : Nat × Nat} (h : w.heap[b]? = some (.cells #[.int .i64 x.p, .int .u64 x.g] 29 fr)) : w.cell? ⟨b, 0, none⟩ = some (.int .i64 x.p) ∧ w.cell? ⟨b, 1, none⟩ = some (.int .u64 x.g) := ⟨kb_cell h 0, kb_cell h 1⟩
/-- The blocks that Add makes at first. -/
structure AddIn (w wA : World) (c : C) (v : Value) (x : Vt) : Prop where
  e0 : wA.heap[w.heap.size]? = some (.cells (ccs c v).toArray 26 (0, 0))
  e1 : wA.heap[w.heap.size + 1]? = some (.cells #[.int .i64 x.p, .int .u64 x.g] 29 (0, 0))
  e2 : wA.heap[w.heap.size + 2]? = some (.cells (ccs cZ vZ).toArray 26 (0, 0))
  b : Below w.heap.size w wA
theorem AddIn.mk' (w : World) (c : C) (v : Value) (x : Vt) : AddIn w (((w.alloc (.cells (ccs c v).toArray 26)).alloc (.cells #[.int .i64 x.p, .int .u64 x.g] 29)).alloc (.cells (ccs cZ vZ).toArray 26)) c v x where
  e0 := kb_alloc (kb_alloc (kb_new rfl _) _) _
  e1 := kb_alloc (kb_new (by simp) _) _
  e2 := kb_new (by simp) _
  b := bl_alloc (bl_alloc (bl_alloc (Below.refl _ _) _) _) _
theorem AddIn.below {w wA wB : World} {c : C} {v : Value} {x : Vt} (h : AddIn w wA c v x) (k : Below wA.heap.size wA wB) : AddIn w wB c v x := ⟨kb_below k h.e0, kb_below k h.e1, kb_below k h.e2, bl_then h.b k⟩
theorem AddIn.size {w wA : World} {c : C} {v : Value} {x : Vt} (h : AddIn w wA c v x) : w.heap.size + 2 < wA.heap.size := kb_lt h.e2
theorem zArr : (ccs cZ vZ).toArray.size = 34 := rfl

set_option maxRecDepth 100000 in
set_option maxHeartbeats 4000000 in
theorem Add_bad {w : World} {c : C} {v : Value} (x : Vt) (hx : c.x.length = 32) (hv : VRow w v c.vs) (hl : c.vs.length ≤ 1000000) (hc : chk c ≠ 0) :
    Calls Try.prog 12 #[.agg (ccs c v).toArray, vtV x] w (COut (addC c x) (addE c x) w) := by
  have he : addE c x = chk c := by unfold addE; rw [if_pos hc]
  have HE := Lib.hid (And.intro he (addC_no (by rw [he]; exact hc)))
  have HV := Lib.hid hv
  have HX := Lib.hid hx
  have hone := hv.one
  have HC := Lib.hid hc
  clear he hv hx hc
  go_enter Try.func12, Try.ntmps12
  go_upto_region 1 with fail
  refine wp_world fun wA hwA => ?_
  have hA : AddIn w wA c v x := by rw [hwA]; exact AddIn.mk' w c v x
  have HA := Lib.hid hA
  clear hwA hA
  go_wp2_with (with_reducible refine wpList_load_cw _ rfl (by kernel_rfl) _ rfl HA.out.e0 HX.out ?_)
  refine (Check_any' HX.out (HV.out.below HA.out.b) hl).mono ?_
  rintro e w1 ⟨rfl, b1⟩
  have HA1 := Lib.hid (HA.out.below b1)
  clear b1
  have hn : ((chk c : Int) == 0) = false := by have := HC.out; simpa using this
  have hn' : ¬ ((chk c : Int) = 0) := by have := HC.out; omega
  go_wp2_with (refine wpList_store_c (op := ⟨none, _, _, _, _, _⟩) rfl _ _ rfl _ rfl (congrArg Value.agg zeroC) HA1.out.e2 zArr cZ_x rfl ?_)
  intro w2 g2 k2
  have HG := Lib.hid (And.intro g2 k2)
  clear g2 k2
  go_wp2_with fail
  refine bodyPost_ret (results_c rfl _ _ (w.heap.size + 2) cZ_x rfl HG.out.1 rfl) rfl ?_
  exact COut.none HE.out.2 (by rw [HE.out.1]) rfl (((Keep.of_below (S := fun _ => False) HA1.out.b).trans HG.out.2 (fun b h e => by omega)).below (Nat.le_refl _) (fun b e => e.elim))

set_option maxRecDepth 100000 in
set_option maxHeartbeats 4000000 in
theorem Add_range {w : World} {c : C} {v : Value} (x : Vt) (hx : c.x.length = 32) (hv : VRow w v c.vs) (hl : c.vs.length ≤ 1000000) (hc : chk c = 0) (hr : x.p < 0 ∨ 64 ≤ x.p) :
    Calls Try.prog 12 #[.agg (ccs c v).toArray, vtV x] w (COut (addC c x) (addE c x) w) := by
  have he : addE c x = 3 := by unfold addE; rw [if_neg (by omega), if_pos hr]
  have HE := Lib.hid (And.intro he (addC_no (by rw [he]; decide)))
  have HR := Lib.hid hr
  clear hr
  have HV := Lib.hid hv
  have HX := Lib.hid hx
  have hone := hv.one
  have HC := Lib.hid hc
  clear he hv hx hc
  go_enter Try.func12, Try.ntmps12
  go_upto_region 1 with fail
  refine wp_world fun wA hwA => ?_
  have hA : AddIn w wA c v x := by rw [hwA]; exact AddIn.mk' w c v x
  have HA := Lib.hid hA
  clear hwA hA
  go_wp2_with (with_reducible refine wpList_load_cw _ rfl (by kernel_rfl) _ rfl HA.out.e0 HX.out ?_)
  refine (Check_any' HX.out (HV.out.below HA.out.b) hl).mono ?_
  rintro e w1 ⟨rfl, b1⟩
  have HA1 := Lib.hid (HA.out.below b1)
  clear b1
  rw [HC.out]
  go_wp2_with fail
  obtain ⟨hp0, hp1⟩ := vt_boxed (kb_drew HA1.out.e1)
  refine wp_region_held_drew (S := (fun W : World => W.cell? ⟨w.heap.size + 1, 0, none⟩ = some (.int .i64 x.p) ∧ W.cell? ⟨w.heap.size + 1, 1, none⟩ = some (.int .u64 x.g))) (by kernel_rfl) ⟨hp0, hp1⟩ (fun hHeld => ?_)
  refine wpAnyH_take (i := 1) (oi := { dst := some 17, op := _, type := _, pos := _, after := _, guard := _ }) (v := ?_) rfl (by kernel_rfl) (by kernel_rfl) (by kernel_rfl) (fun _ _ _ h => h) (Or.inl ⟨by rfl, ?_⟩) hHeld ?_
  rotate_left
  · (intro w hSw; (try dsimp only at hSw); go_simp); all_goals with_reducible rfl
  try simp only [Act.put, List.setIfInBounds_toArray, List.set_cons_zero, List.set_cons_succ]
  refine wpAnyH_ready (rs := [0]) (by kernel_rfl) (by simp) (AllReadyH.cons (o := _) rfl (fun K hK => ?_) AllReadyH.nil)
  go_simp
  refine (rises_any _).mono ?_
  rintro e w2 ⟨rfl, rfl⟩
  have HA2 := Lib.hid (HA1.out.below (bl_alloc (bl_drew (Below.refl _ _)) (.cells #[.int .i64 (-1)] 3)))
  refine hK.out _ _ (vt_boxed HA2.out.e1) (fun hHeld => ?_)
  clear hK K
  refine wpAnyH_ready (rs := [2]) (by kernel_rfl) (by simp) (AllReadyH.cons (o := _) rfl (fun K hK => ?_) AllReadyH.nil)
  go_simp
  refine (rise_any (last := -1) x (kb_new (w := w1.drew) rfl _)).mono ?_
  rintro e w3 ⟨rfl, h3, k3⟩
  have hsz := HA1.out.size
  have E0 := k3.kb HA2.out.e0 (by simp; omega)
  have E1 := k3.kb HA2.out.e1 (by simp; omega)
  have E2 := k3.kb HA2.out.e2 (by simp; omega)
  have bb : Below w.heap.size w w3 := ((Keep.of_below (S := fun _ => False) HA2.out.b).trans k3 (fun b h e => by have : b = w1.heap.size := e; omega)).below (Nat.le_refl _) (fun b e => e.elim)
  have HA3 := Lib.hid (AddIn.mk E0 E1 E2 bb)
  refine hK.out _ _ (vt_boxed HA3.out.e1) (fun hHeld => ?_)
  clear hK K h3 k3 E0 E1 E2 bb
  generalize hrr : (riseS (-1) x).1 = rr at *
  refine wpAnyH_take (i := 3) (oi := { dst := some 7, op := _, type := _, pos := _, after := _, guard := _ }) (v := ?_) rfl (by kernel_rfl) (by kernel_rfl) (by kernel_rfl) (fun _ _ _ h => h) (Or.inl ⟨by rfl, ?_⟩) hHeld ?_
  rotate_left
  · (intro w hSw; (try dsimp only at hSw); go_simp); all_goals with_reducible rfl
  try simp only [Act.put, List.setIfInBounds_toArray, List.set_cons_zero, List.set_cons_succ]
  refine wpAnyH_done (by kernel_rfl) ?_ _
  have e3 : rr = 3 := by rw [← hrr]; exact rise_3 HR.out
  subst e3
  clear hHeld hrr
  go_wp2_with (refine wpList_store_c (op := ⟨none, _, _, _, _, _⟩) rfl _ _ rfl _ rfl (congrArg Value.agg zeroC) HA3.out.e2 zArr cZ_x rfl ?_)
  intro w4 g2 k2
  have HG := Lib.hid (And.intro g2 k2)
  clear g2 k2
  go_wp2_with fail
  refine bodyPost_ret (results_c rfl _ _ (w.heap.size + 2) cZ_x rfl HG.out.1 rfl) rfl ?_
  exact COut.none HE.out.2 (by rw [HE.out.1]; rfl) rfl (((Keep.of_below (S := fun _ => False) HA3.out.b).trans HG.out.2 (fun b h e => by omega)).below (Nat.le_refl _) (fun b e => e.elim))
end Go.Proofs.Ytooghjnddifpdaa
