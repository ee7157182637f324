/- The walk of CommitTells. -/
import Derived.Test.YtooghjnddifpdaaCm20
import Derived.Test.YtooghjnddifpdaaCm21
import Derived.Test.YtooghjnddifpdaaCm23
import Derived.Test.YtooghjnddifpdaaCm24
import Derived.Test.YtooghjnddifpdaaCm30
import Derived.Test.YtooghjnddifpdaaCm31
namespace Go.Proofs.Ytooghjnddifpdaa
open Go.RowKit Go.Proofs.Ytooghjnddifpdaa.Cm Go.Proofs.Ytooghjnddifpdaa.Wi BigFrame
set_option linter.unusedSimpArgs false
set_option linter.unusedVariables false
attribute [local go_sem] cell_alloc_some frozen_alloc_some

theorem whoK_len {ks : List Vd} : ∀ {l : List Vt} {m : List K4}, whoK ks l = some m → m.length ≤ l.length
  | [], m, h => by simp [whoK] at h; subst h; simp
  | v :: L, m, h => by
    unfold whoK at h
    split at h
    · cases h
    · cases hm : whoK ks L with
      | none => rw [hm] at h; simp at h
      | some q => rw [hm] at h; simp at h; subst h; have := whoK_len hm; simp; omega
theorem whoL_len (ks : List Vd) (c : C) : (whoL ks c).length ≤ c.vs.length := by
  unfold whoL; split
  · cases h : whoK ks c.vs with
    | none => simp
    | some q => simpa using whoK_len h
  · simp
theorem encI_len {c : C} (hx : c.x.length = 32) (hl : c.vs.length ≤ 70) : (if chk c = 0 then encB c else []).length ≤ 2000 := by
  split
  · have := encAt_len hx c.vs.length
    unfold encB; omega
  · simp
/-- The commit that came in, its copy, the copy of the validators. -/
structure Tl (w W : World) (c : C) (u : Value) (ks : List Vd) (z : Nat) (v1 v2 : Value) : Prop where
  c0 : W.heap[w.heap.size]? = some (.cells (ccs c u).toArray 26 (0, 0))
  c1 : W.heap[z]? = some (.cells (ccs c v1).toArray 26 (0, 0))
  o1 : W.ownsRow w.heap.size 29 2 v1 c.vs.length (vcs c.vs)
  o2 : W.ownsRow w.heap.size 89 5 v2 ks.length (gcs dcs ks)
  lz : w.heap.size ≤ z
  b : Below w.heap.size w W
theorem Tl.below {w W W' : World} {c : C} {u : Value} {ks : List Vd} {z : Nat} {v1 v2 : Value} (h : Tl w W c u ks z v1 v2) (k : Below W.heap.size W W') : Tl w W' c u ks z v1 v2 :=
  ⟨kb_below k h.c0, kb_below k h.c1, (Keep.of_below (S := fun _ => False) k).row h.o1 (fun _ _ e => e), (Keep.of_below (S := fun _ => False) k).row h.o2 (fun _ _ e => e), h.lz, bl_then h.b k⟩
/-- What lies further on is written over. -/
theorem Tl.over {w W0 W W' : World} {c : C} {u : Value} {ks : List Vd} {z : Nat} {v1 v2 : Value} {S : Nat → Prop} (h0 : Tl w W0 c u ks z v1 v2) (h : Tl w W c u ks z v1 v2) (k : Keep S W W') (hS : ∀ b, S b → W0.heap.size ≤ b) : Tl w W' c u ks z v1 v2 :=
  ⟨k.kb h.c0 (fun e => by have := hS _ e; have := kb_lt h0.c0; omega), k.kb h.c1 (fun e => by have := hS _ e; have := kb_lt h0.c1; omega), k.row h.o1 (fun b hb e => by have := hS _ e; have := (h0.o1.lt b hb).2; omega),
    k.row h.o2 (fun b hb e => by have := hS _ e; have := (h0.o2.lt b hb).2; omega), h.lz, ((Keep.of_below (S := fun _ => False) h.b).trans k (fun b hb e => by have := hS _ e; have := h0.b.size; omega)).below (Nat.le_refl _) (fun b e => e.elim)⟩

set_option maxRecDepth 100000 in
set_option maxHeartbeats 8000000 in
theorem CommitTells_walk {w : World} {c : C} {u v : Value} {ks : List Vd} (p : Int) (hc : Ci w c u) (hg : ∀ x ∈ c.vs, x.g < 18446744073709551616) (hv : DRow w v ks) :
    Calls Try.prog 7 #[.agg (ccs c u).toArray, .int .i64 p, v] w fun e w' => e = .returned (.bool true) ∧ Below w.heap.size w w' := by
  have HU := Lib.hid hc
  have HG := Lib.hid hg
  have HV := Lib.hid hv
  have honu := hc.r.one
  obtain ⟨A, cap, hvv⟩ := hv.form
  subst hvv
  clear hc hg hv
  go_enter Try.func7, Try.ntmps7
  go_upto_region 1 with fail
  refine wp_world fun wA hwA => ?_
  have HA := Lib.hid (show wA.heap[w.heap.size]? = some (.cells (ccs c u).toArray 26 (0, 0)) ∧ Below w.heap.size w wA by rw [hwA]; exact ⟨kb_new rfl _, bl_alloc (Below.refl _ _) _⟩)
  clear hwA
  go_wp2_with (with_reducible refine wpList_load_cw _ rfl (by kernel_rfl) _ rfl HA.out.1 HU.out.x ?_)
  refine (long_any' HU.out.x (HU.out.below HA.out.2).r).mono ?_
  rintro e w1 ⟨rfl, b1⟩
  have HA := Lib.hid (And.intro (kb_below b1 HA.out.1) (bl_then HA.out.2 b1))
  clear b1
  by_cases hla : 70 < c.vs.length
  · rw [decide_eq_true hla]
    clear hla
    go_wp2_with fail
    refine (awake_yes _).mono ?_
    rintro e w2 ⟨rfl, b2⟩
    have HB := Lib.hid (bl_then HA.out.2 b2)
    clear b2
    go_wp2_with fail
    go_ret
    exact ⟨rfl, HB.out⟩
  rw [decide_eq_false hla]
  by_cases hlb : 80 < ks.length
  · have hlb' : (80 : Int) < (ks.length : Int) := by omega
    go_wp2_with fail
    refine (awake_yes _).mono ?_
    rintro e w2 ⟨rfl, b2⟩
    have HB := Lib.hid (bl_then HA.out.2 b2)
    clear b2
    go_wp2_with fail
    go_ret
    exact ⟨rfl, HB.out⟩
  have hlb' : ¬ (80 : Int) < (ks.length : Int) := by omega
  have HL := Lib.hid (And.intro hla hlb)
  clear hla hlb
  go_wp2_with (with_reducible refine wpList_load_cw _ rfl (by kernel_rfl) _ rfl HA.out.1 HU.out.x ?_)
  refine (CopyCommit_any HU.out.x (HU.out.below HA.out.2).r (by have := HL.out.1; omega)).mono ?_
  rintro e w2 ⟨v1, rfl, n2⟩
  have h1 := own1 n2.1
  have HN := Lib.hid n2
  clear n2
  go_wp2_with fail
  refine (CopyVals_any (HV.out.below (bl_then HA.out.2 HN.out.2)) (by have := HL.out.2; omega)).mono ?_
  rintro e w3 ⟨v2, rfl, o3, b3⟩
  obtain ⟨A2, cp2, rfl⟩ := owns_slice0 o3
  have HT := Lib.hid (show Tl w (w3.alloc (.cells (ccs c v1).toArray 26)) c u ks w3.heap.size v1 (.slice A2 ks.length cp2) by
    have b4 := bl_alloc (Below.refl _ w3) (.cells (ccs c v1).toArray 26)
    have b23 := bl_then HN.out.2 b3
    have s1 := HA.out.2.size
    have s2 := HN.out.2.size
    have s3 := b3.size
    exact ⟨kb_below b4 (kb_below b23 HA.out.1), kb_new rfl _, (Keep.of_below (S := fun _ => False) b4).row ((Keep.of_below (S := fun _ => False) b3).row (owns_mono HN.out.1 s1) (fun _ _ e => e)) (fun _ _ e => e), (Keep.of_below (S := fun _ => False) b4).row (owns_mono o3 (by omega)) (fun _ _ e => e), by omega, bl_then (bl_then HA.out.2 b23) b4⟩)
  clear o3 b3 HN HA
  go_wp2_with (first
    | (refine wpList_store_cn (op := ⟨none, _, _, _, _, _⟩) rfl _ _ rfl rfl rfl (by kernel_rfl) HU.out.x h1 ?_)
    | (with_reducible refine wpList_load_cw _ rfl (by kernel_rfl) _ rfl HT.out.c1 HU.out.x ?_))
  generalize w3.alloc _ = w4 at *
  generalize w3.heap.size = z at *
  clear h1
  have HT0 := HT
  refine (Of_any' p HU.out.x (VRow.of_own HT.out.o1) (by have := HL.out.1; omega)).mono ?_
  rintro e w5 ⟨rfl, b5⟩
  have HT := Lib.hid (HT.out.below b5)
  have HS5 := Lib.hid b5.size
  clear b5
  go_wp2_with (with_reducible refine wpList_load_cw _ rfl (by kernel_rfl) _ rfl HT.out.c0 HU.out.x ?_)
  refine (rOf_any' p HU.out.x (HU.out.below HT.out.b).r (by have := HL.out.1; omega)).mono ?_
  rintro e w6 ⟨rfl, b6⟩
  have HT := Lib.hid (HT.out.below b6)
  have HS6 := Lib.hid b6.size
  clear b6
  generalize (sigR c.vs p).1 = sg at *
  generalize (sigR c.vs p).2 = sb at *
  go_wp2_with (with_reducible refine wpList_load_cw _ rfl (by kernel_rfl) _ rfl HT.out.c1 HU.out.x ?_)
  refine (Encode_any HU.out.x (VRow.of_own HT.out.o1) (by have := HL.out.1; omega) HG.out).mono ?_
  rintro e w7 ⟨b1, rfl, n7⟩
  have hbl := encI_len HU.out.x (c := c) (by have := HL.out.1; omega)
  generalize hbs : (if chk c = 0 then encB c else []) = bs at n7 hbl
  have HBL := Lib.hid hbl
  clear hbl
  have HBS := Lib.hid hbs
  clear hbs
  have HE1 := Lib.hid (show w7.ownsRow w6.heap.size 5 1 b1 bs.length (u8s bs) from n7.1)
  have HT := Lib.hid (HT.out.below n7.2)
  have HS7 := Lib.hid n7.2.size
  obtain ⟨A5, c5, rfl⟩ := owns_slice0 HE1.out
  have HEL := Lib.hid (fun b hb => (HE1.out.lt b hb).2)
  clear n7
  go_wp2_with (with_reducible refine wpList_load_cw _ rfl (by kernel_rfl) _ rfl HT.out.c0 HU.out.x ?_)
  refine (rEncode_any HU.out.x (HU.out.below HT.out.b).r (by have := HL.out.1; omega) HG.out).mono ?_
  rintro e w8 ⟨b2, rfl, n8⟩
  rw [HBS.out] at n8
  have HE2 := Lib.hid (show w8.ownsRow w7.heap.size 5 1 b2 bs.length (u8s bs) from n8.1)
  have HE1 := Lib.hid ((Keep.of_below (S := fun _ => False) n8.2).row HE1.out (fun _ _ e => e))
  have HT := Lib.hid (HT.out.below n8.2)
  have HS8 := Lib.hid n8.2.size
  obtain ⟨A6, c6, rfl⟩ := owns_slice0 HE2.out
  clear n8
  go_wp2_with (with_reducible refine wpList_load_cw _ rfl (by kernel_rfl) _ rfl HT.out.c1 HU.out.x ?_)
  refine (Who_any HU.out.x (VRow.of_own HT.out.o1) (GRow.of_own dcs_len (by decide) HT.out.o2) (by have := HL.out.1; omega) (by have := HL.out.2; omega)).mono ?_
  rintro e w9 ⟨k1, rfl, o9, b9⟩
  have HK1 := Lib.hid o9
  have HE2 := Lib.hid ((Keep.of_below (S := fun _ => False) b9).row HE2.out (fun _ _ e => e))
  have HE1 := Lib.hid ((Keep.of_below (S := fun _ => False) b9).row HE1.out (fun _ _ e => e))
  have HT := Lib.hid (HT.out.below b9)
  obtain ⟨A7, c7, rfl⟩ := owns_slice0 o9
  clear o9 b9
  go_wp2_with (with_reducible refine wpList_load_cw _ rfl (by kernel_rfl) _ rfl HT.out.c0 HU.out.x ?_)
  refine (rWho_any HU.out.x (HU.out.below HT.out.b).r (HV.out.below HT.out.b) (by have := HL.out.1; omega) (by have := HL.out.2; omega)).mono ?_
  rintro e w10 ⟨k2, rfl, o10, b10⟩
  have HK2 := Lib.hid o10
  have HK1 := Lib.hid ((Keep.of_below (S := fun _ => False) b10).row HK1.out (fun _ _ e => e))
  have HE2 := Lib.hid ((Keep.of_below (S := fun _ => False) b10).row HE2.out (fun _ _ e => e))
  have HE1 := Lib.hid ((Keep.of_below (S := fun _ => False) b10).row HE1.out (fun _ _ e => e))
  have HT := Lib.hid (HT.out.below b10)
  obtain ⟨A8, c8, rfl⟩ := owns_slice0 o10
  clear o10 b10
  have hwl := whoL_len ks c
  generalize whoL ks c = wl at *
  have HWL := Lib.hid hwl
  clear hwl
  generalize whoE ks c = we at *
  go_upto_region 10 with fail
  go_cut [21] from 68 to 102 (fun s21 wx => s21 = .bool true ∧ Hid (Tl w wx c u ks z v1 (.slice A2 ks.length cp2)) ∧ Hid (wx.ownsRow w6.heap.size 5 1 (.slice A5 bs.length c5) bs.length (u8s bs)) ∧ Hid (wx.ownsRow w8.heap.size 52 4 (.slice A7 wl.length c7) wl.length (gcs kcs wl)))
  case first =>
    have HT := Lib.hid (HT.out.below (bl_drew (Below.refl _ _)))
    have HE1 := Lib.hid ((Keep.of_below (S := fun _ => False) (bl_drew (Below.refl _ _))).row HE1.out (fun _ _ e => e))
    have HE2 := Lib.hid ((Keep.of_below (S := fun _ => False) (bl_drew (Below.refl _ _))).row HE2.out (fun _ _ e => e))
    have HK1 := Lib.hid ((Keep.of_below (S := fun _ => False) (bl_drew (Below.refl _ _))).row HK1.out (fun _ _ e => e))
    have HK2 := Lib.hid ((Keep.of_below (S := fun _ => False) (bl_drew (Below.refl _ _))).row HK2.out (fun _ _ e => e))
    refine wp_region_held_drew (S := (fun W : World => W.rangeAt w.heap.size 0 (ccs c u) ∧ W.rangeAt z 0 (ccs c v1))) (by kernel_rfl) ⟨range_of_kb HT.out.c0, range_of_kb HT.out.c1⟩ (fun hHeld => ?_)
    refine wpAnyH_take (i := 0) (oi := { dst := some 68, op := _, type := _, pos := _, after := _, guard := _ }) (v := ?_) rfl (by kernel_rfl) (by kernel_rfl) (by kernel_rfl) (fun _ _ _ h => h) (Or.inl ⟨by rfl, ?_⟩) hHeld ?_
    rotate_left
    · (intro w hSw; (try dsimp only at hSw); go_simp); all_goals with_reducible rfl
    try simp only [Act.put, List.setIfInBounds_toArray, List.set_cons_zero, List.set_cons_succ]
    refine wpAnyH_take (i := 1) (oi := { dst := some 69, op := _, type := _, pos := _, after := _, guard := _ }) (v := ?_) rfl (by kernel_rfl) (by kernel_rfl) (by kernel_rfl) (fun _ _ _ h => h) (Or.inl ⟨by rfl, ?_⟩) hHeld ?_
    rotate_left
    · (intro w hSw; (try dsimp only at hSw); go_simp); all_goals with_reducible rfl
    try simp only [Act.put, List.setIfInBounds_toArray, List.set_cons_zero, List.set_cons_succ]
    refine wpAnyH_take (i := 2) (oi := { dst := some 70, op := _, type := _, pos := _, after := _, guard := _ }) (v := ?_) rfl (by kernel_rfl) (by kernel_rfl) (by kernel_rfl) (fun _ _ _ h => h) (Or.inl ⟨by rfl, ?_⟩) hHeld ?_
    rotate_left
    · (intro w hSw; (try dsimp only at hSw); go_simp); all_goals with_reducible rfl
    try simp only [Act.put, List.setIfInBounds_toArray, List.set_cons_zero, List.set_cons_succ]
    refine wpAnyH_take (i := 3) (oi := { dst := some 71, op := _, type := _, pos := _, after := _, guard := _ }) (v := ?_) rfl (by kernel_rfl) (by kernel_rfl) (by kernel_rfl) (fun _ _ _ h => h) (Or.inl ⟨by rfl, ?_⟩) hHeld ?_
    rotate_left
    · (intro w hSw; (try dsimp only at hSw); go_simp); all_goals with_reducible rfl
    try simp only [Act.put, List.setIfInBounds_toArray, List.set_cons_zero, List.set_cons_succ]
    refine wpAnyH_take (i := 4) (oi := { dst := some 72, op := _, type := _, pos := _, after := _, guard := _ }) (v := ?_) rfl (by kernel_rfl) (by kernel_rfl) (by kernel_rfl) (fun _ _ _ h => h) (Or.inl ⟨by rfl, ?_⟩) hHeld ?_
    rotate_left
    · (intro w hSw; (try dsimp only at hSw); go_simp); all_goals with_reducible rfl
    try simp only [Act.put, List.setIfInBounds_toArray, List.set_cons_zero, List.set_cons_succ]
    refine wpAnyH_take (i := 5) (oi := { dst := some 73, op := _, type := _, pos := _, after := _, guard := _ }) (v := ?_) rfl (by kernel_rfl) (by kernel_rfl) (by kernel_rfl) (fun _ _ _ h => h) (Or.inl ⟨by rfl, ?_⟩) hHeld ?_
    rotate_left
    · (intro w hSw; (try dsimp only at hSw); go_simp); all_goals with_reducible rfl
    try simp only [Act.put, List.setIfInBounds_toArray, List.set_cons_zero, List.set_cons_succ]
    refine wpAnyH_take (i := 6) (oi := { dst := some 74, op := _, type := _, pos := _, after := _, guard := _ }) (v := ?_) rfl (by kernel_rfl) (by kernel_rfl) (by kernel_rfl) (fun _ _ _ h => h) (Or.inl ⟨by rfl, ?_⟩) hHeld ?_
    rotate_left
    · (intro w hSw; (try dsimp only at hSw); go_simp); all_goals with_reducible rfl
    try simp only [Act.put, List.setIfInBounds_toArray, List.set_cons_zero, List.set_cons_succ]
    refine wpAnyH_take (i := 7) (oi := { dst := some 75, op := _, type := _, pos := _, after := _, guard := _ }) (v := ?_) rfl (by kernel_rfl) (by kernel_rfl) (by kernel_rfl) (fun _ _ _ h => h) (Or.inl ⟨by rfl, ?_⟩) hHeld ?_
    rotate_left
    · (intro w hSw; (try dsimp only at hSw); go_simp); all_goals with_reducible rfl
    try simp only [Act.put, List.setIfInBounds_toArray, List.set_cons_zero, List.set_cons_succ]
    refine wpAnyH_take (i := 8) (oi := { dst := some 76, op := _, type := _, pos := _, after := _, guard := _ }) (v := ?_) rfl (by kernel_rfl) (by kernel_rfl) (by kernel_rfl) (fun _ _ _ h => h) (Or.inl ⟨by rfl, ?_⟩) hHeld ?_
    rotate_left
    · (intro w hSw; (try dsimp only at hSw); go_simp); all_goals with_reducible rfl
    try simp only [Act.put, List.setIfInBounds_toArray, List.set_cons_zero, List.set_cons_succ]
    refine wpAnyH_take (i := 9) (oi := { dst := some 77, op := _, type := _, pos := _, after := _, guard := _ }) (v := ?_) rfl (by kernel_rfl) (by kernel_rfl) (by kernel_rfl) (fun _ _ _ h => h) (Or.inl ⟨by rfl, ?_⟩) hHeld ?_
    rotate_left
    · (intro w hSw; (try dsimp only at hSw); go_simp); all_goals with_reducible rfl
    try simp only [Act.put, List.setIfInBounds_toArray, List.set_cons_zero, List.set_cons_succ]
    refine wpAnyH_take (i := 10) (oi := { dst := some 78, op := _, type := _, pos := _, after := _, guard := _ }) (v := ?_) rfl (by kernel_rfl) (by kernel_rfl) (by kernel_rfl) (fun _ _ _ h => h) (Or.inl ⟨by rfl, ?_⟩) hHeld ?_
    rotate_left
    · (intro w hSw; (try dsimp only at hSw); go_simp); all_goals with_reducible rfl
    try simp only [Act.put, List.setIfInBounds_toArray, List.set_cons_zero, List.set_cons_succ]
    refine wpAnyH_ready (rs := [11]) (by kernel_rfl) (by simp) (AllReadyH.cons (o := _) rfl (fun K hK => ?_) AllReadyH.nil)
    go_simp
    refine (SameBytes_any (RowOf.of_own HE1.out) (RowOf.of_own HE2.out)).mono ?_
    rintro e w11 ⟨rfl, rfl⟩
    rw [show (bs == bs) = true by simp]
    refine hK.out _ _ ⟨range_of_kb HT.out.c0, range_of_kb HT.out.c1⟩ (fun hHeld => ?_)
    clear hK K
    refine wpAnyH_take (i := 12) (oi := { dst := some 80, op := _, type := _, pos := _, after := _, guard := _ }) (v := ?_) rfl (by kernel_rfl) (by kernel_rfl) (by kernel_rfl) (fun _ _ _ h => h) (Or.inl ⟨by rfl, ?_⟩) hHeld ?_
    rotate_left
    · (intro w hSw; (try dsimp only at hSw); go_simp); all_goals with_reducible rfl
    try simp only [Act.put, List.setIfInBounds_toArray, List.set_cons_zero, List.set_cons_succ]
    refine wpAnyH_take (i := 13) (oi := { dst := some 81, op := _, type := _, pos := _, after := _, guard := _ }) (v := ?_) rfl (by kernel_rfl) (by kernel_rfl) (by kernel_rfl) (fun _ _ _ h => h) (Or.inl ⟨by rfl, ?_⟩) hHeld ?_
    rotate_left
    · (intro w hSw; (try dsimp only at hSw); go_simp); all_goals with_reducible rfl
    try simp only [Act.put, List.setIfInBounds_toArray, List.set_cons_zero, List.set_cons_succ]
    refine wpAnyH_take (i := 14) (oi := { dst := some 82, op := _, type := _, pos := _, after := _, guard := _ }) (v := ?_) rfl (by kernel_rfl) (by kernel_rfl) (by kernel_rfl) (fun _ _ _ h => h) (Or.inl ⟨by rfl, ?_⟩) hHeld ?_
    rotate_left
    · (intro w hSw; (try dsimp only at hSw); go_simp); all_goals with_reducible rfl
    try simp only [Act.put, List.setIfInBounds_toArray, List.set_cons_zero, List.set_cons_succ]
    refine wpAnyH_take (i := 15) (oi := { dst := some 83, op := _, type := _, pos := _, after := _, guard := _ }) (v := ?_) rfl (by kernel_rfl) (by kernel_rfl) (by kernel_rfl) (fun _ _ _ h => h) (Or.inl ⟨by rfl, ?_⟩) hHeld ?_
    rotate_left
    · (intro w hSw; (try dsimp only at hSw); go_simp); all_goals with_reducible rfl
    try simp only [Act.put, List.setIfInBounds_toArray, List.set_cons_zero, List.set_cons_succ]
    refine wpAnyH_take (i := 16) (oi := { dst := some 84, op := _, type := _, pos := _, after := _, guard := _ }) (v := ?_) rfl (by kernel_rfl) (by kernel_rfl) (by kernel_rfl) (fun _ _ _ h => h) (Or.inl ⟨by rfl, ?_⟩) hHeld ?_
    rotate_left
    · (intro w hSw; (try dsimp only at hSw); go_simp); all_goals with_reducible rfl
    try simp only [Act.put, List.setIfInBounds_toArray, List.set_cons_zero, List.set_cons_succ]
    refine wpAnyH_take (i := 17) (oi := { dst := some 85, op := _, type := _, pos := _, after := _, guard := _ }) (v := ?_) rfl (by kernel_rfl) (by kernel_rfl) (by kernel_rfl) (fun _ _ _ h => h) (Or.inl ⟨by rfl, ?_⟩) hHeld ?_
    rotate_left
    · (intro w hSw; (try dsimp only at hSw); go_simp); all_goals with_reducible rfl
    try simp only [Act.put, List.setIfInBounds_toArray, List.set_cons_zero, List.set_cons_succ]
    refine wpAnyH_take (i := 18) (oi := { dst := some 86, op := _, type := _, pos := _, after := _, guard := _ }) (v := ?_) rfl (by kernel_rfl) (by kernel_rfl) (by kernel_rfl) (fun _ _ _ h => h) (Or.inl ⟨by rfl, ?_⟩) hHeld ?_
    rotate_left
    · (intro w hSw; (try dsimp only at hSw); go_simp); all_goals with_reducible rfl
    try simp only [Act.put, List.setIfInBounds_toArray, List.set_cons_zero, List.set_cons_succ]
    refine wpAnyH_take (i := 19) (oi := { dst := some 87, op := _, type := _, pos := _, after := _, guard := _ }) (v := ?_) rfl (by kernel_rfl) (by kernel_rfl) (by kernel_rfl) (fun _ _ _ h => h) (Or.inl ⟨by rfl, ?_⟩) hHeld ?_
    rotate_left
    · (intro w hSw; (try dsimp only at hSw); go_simp); all_goals with_reducible rfl
    try simp only [Act.put, List.setIfInBounds_toArray, List.set_cons_zero, List.set_cons_succ]
    refine wpAnyH_take (i := 20) (oi := { dst := some 88, op := _, type := _, pos := _, after := _, guard := _ }) (v := ?_) rfl (by kernel_rfl) (by kernel_rfl) (by kernel_rfl) (fun _ _ _ h => h) (Or.inl ⟨by rfl, ?_⟩) hHeld ?_
    rotate_left
    · (intro w hSw; (try dsimp only at hSw); go_simp); all_goals with_reducible rfl
    try simp only [Act.put, List.setIfInBounds_toArray, List.set_cons_zero, List.set_cons_succ]
    refine wpAnyH_ready (rs := [21]) (by kernel_rfl) (by simp) (AllReadyH.cons (o := _) rfl (fun K hK => ?_) AllReadyH.nil)
    go_simp
    refine (SameKeys_any (GRow.of_own kcs_len (by decide) HK1.out) (GRow.of_own kcs_len (by decide) HK2.out) (by have := HWL.out; have := HL.out.1; omega) (by have := HWL.out; have := HL.out.1; omega)).mono ?_
    rintro e w11 ⟨rfl, b11⟩
    rw [show decide (wl = wl) = true by simp]
    have HT := Lib.hid (HT.out.below b11)
    have HE1 := Lib.hid ((Keep.of_below (S := fun _ => False) b11).row HE1.out (fun _ _ e => e))
    have HK1 := Lib.hid ((Keep.of_below (S := fun _ => False) b11).row HK1.out (fun _ _ e => e))
    refine hK.out _ _ ⟨range_of_kb HT.out.c0, range_of_kb HT.out.c1⟩ (fun hHeld => ?_)
    clear hK K b11
    refine wpAnyH_take (i := 22) (oi := { dst := some 90, op := _, type := _, pos := _, after := _, guard := _ }) (v := ?_) rfl (by kernel_rfl) (by kernel_rfl) (by kernel_rfl) (fun _ _ _ h => h) (Or.inl ⟨by rfl, ?_⟩) hHeld ?_
    rotate_left
    · (intro w hSw; (try dsimp only at hSw); go_simp); all_goals with_reducible rfl
    try simp only [Act.put, List.setIfInBounds_toArray, List.set_cons_zero, List.set_cons_succ]
    refine wpAnyH_take (i := 23) (oi := { dst := some 91, op := _, type := _, pos := _, after := _, guard := _ }) (v := ?_) rfl (by kernel_rfl) (by kernel_rfl) (by kernel_rfl) (fun _ _ _ h => h) (Or.inl ⟨by rfl, ?_⟩) hHeld ?_
    rotate_left
    · (intro w hSw; (try dsimp only at hSw); go_simp); all_goals with_reducible rfl
    try simp only [Act.put, List.setIfInBounds_toArray, List.set_cons_zero, List.set_cons_succ]
    refine wpAnyH_take (i := 24) (oi := { dst := some 92, op := _, type := _, pos := _, after := _, guard := _ }) (v := ?_) rfl (by kernel_rfl) (by kernel_rfl) (by kernel_rfl) (fun _ _ _ h => h) (Or.inl ⟨by rfl, ?_⟩) hHeld ?_
    rotate_left
    · (intro w hSw; (try dsimp only at hSw); go_simp); all_goals with_reducible rfl
    try simp only [Act.put, List.setIfInBounds_toArray, List.set_cons_zero, List.set_cons_succ]
    refine wpAnyH_take (i := 25) (oi := { dst := some 93, op := _, type := _, pos := _, after := _, guard := _ }) (v := ?_) rfl (by kernel_rfl) (by kernel_rfl) (by kernel_rfl) (fun _ _ _ h => h) (Or.inl ⟨by rfl, ?_⟩) hHeld ?_
    rotate_left
    · (intro w hSw; (try dsimp only at hSw); go_simp); all_goals with_reducible rfl
    try simp only [Act.put, List.setIfInBounds_toArray, List.set_cons_zero, List.set_cons_succ]
    refine wpAnyH_take (i := 26) (oi := { dst := some 94, op := _, type := _, pos := _, after := _, guard := _ }) (v := ?_) rfl (by kernel_rfl) (by kernel_rfl) (by kernel_rfl) (fun _ _ _ h => h) (Or.inl ⟨by rfl, ?_⟩) hHeld ?_
    rotate_left
    · (intro w hSw; (try dsimp only at hSw); go_simp); all_goals with_reducible rfl
    try simp only [Act.put, List.setIfInBounds_toArray, List.set_cons_zero, List.set_cons_succ]
    refine wpAnyH_take (i := 27) (oi := { dst := some 95, op := _, type := _, pos := _, after := _, guard := _ }) (v := ?_) rfl (by kernel_rfl) (by kernel_rfl) (by kernel_rfl) (fun _ _ _ h => h) (Or.inl ⟨by rfl, ?_⟩) hHeld ?_
    rotate_left
    · (intro w hSw; (try dsimp only at hSw); go_simp); all_goals with_reducible rfl
    try simp only [Act.put, List.setIfInBounds_toArray, List.set_cons_zero, List.set_cons_succ]
    refine wpAnyH_take (i := 28) (oi := { dst := some 96, op := _, type := _, pos := _, after := _, guard := _ }) (v := ?_) rfl (by kernel_rfl) (by kernel_rfl) (by kernel_rfl) (fun _ _ _ h => h) (Or.inl ⟨by rfl, ?_⟩) hHeld ?_
    rotate_left
    · (intro w hSw; (try dsimp only at hSw); go_simp); all_goals with_reducible rfl
    try simp only [Act.put, List.setIfInBounds_toArray, List.set_cons_zero, List.set_cons_succ]
    refine wpAnyH_take (i := 29) (oi := { dst := some 97, op := _, type := _, pos := _, after := _, guard := _ }) (v := _) rfl (by kernel_rfl) (by kernel_rfl) (by kernel_rfl) (fun _ _ _ h => h) (yieldsIf_load_mid (by rfl) 26 _ rfl z 0 rfl (ccs c v1) _ (fun _ h => h.2) Try.underlying26 rfl (sizeC.trans (ccs_lenA HU.out.x).symm)) hHeld ?_
    try simp only [Act.put, List.setIfInBounds_toArray, List.set_cons_zero, List.set_cons_succ]
    refine wpAnyH_take (i := 31) (oi := { dst := some 99, op := _, type := _, pos := _, after := _, guard := _ }) (v := _) rfl (by kernel_rfl) (by kernel_rfl) (by kernel_rfl) (fun _ _ _ h => h) (yieldsIf_load_mid (by rfl) 26 _ rfl w.heap.size 0 rfl (ccs c u) _ (fun _ h => h.1) Try.underlying26 rfl (sizeC.trans (ccs_lenA HU.out.x).symm)) hHeld ?_
    try simp only [Act.put, List.setIfInBounds_toArray, List.set_cons_zero, List.set_cons_succ]
    refine wpAnyH_ready (rs := [30]) (by kernel_rfl) (by simp) (AllReadyH.cons (o := _) rfl (fun K hK => ?_) AllReadyH.nil)
    go_simp
    refine (Check_any' HU.out.x (VRow.of_own HT.out.o1) (by have := HL.out.1; omega)).mono ?_
    rintro e w12 ⟨rfl, b12⟩
    have HT := Lib.hid (HT.out.below b12)
    have HE1 := Lib.hid ((Keep.of_below (S := fun _ => False) b12).row HE1.out (fun _ _ e => e))
    have HK1 := Lib.hid ((Keep.of_below (S := fun _ => False) b12).row HK1.out (fun _ _ e => e))
    refine hK.out _ _ ⟨range_of_kb HT.out.c0, range_of_kb HT.out.c1⟩ (fun hHeld => ?_)
    clear hK K b12
    refine wpAnyH_ready (rs := [32]) (by kernel_rfl) (by simp) (AllReadyH.cons (o := _) rfl (fun K hK => ?_) AllReadyH.nil)
    go_simp
    refine (rCheck_any' HU.out.x (HU.out.below HT.out.b).r (by have := HL.out.1; omega)).mono ?_
    rintro e w13 ⟨rfl, b13⟩
    have HT := Lib.hid (HT.out.below b13)
    have HE1 := Lib.hid ((Keep.of_below (S := fun _ => False) b13).row HE1.out (fun _ _ e => e))
    have HK1 := Lib.hid ((Keep.of_below (S := fun _ => False) b13).row HK1.out (fun _ _ e => e))
    refine hK.out _ _ ⟨range_of_kb HT.out.c0, range_of_kb HT.out.c1⟩ (fun hHeld => ?_)
    clear hK K b13
    refine wpAnyH_take (i := 33) (oi := { dst := some 101, op := _, type := _, pos := _, after := _, guard := _ }) (v := ?_) rfl (by kernel_rfl) (by kernel_rfl) (by kernel_rfl) (fun _ _ _ h => h) (Or.inl ⟨by rfl, ?_⟩) hHeld ?_
    rotate_left
    · (intro w hSw; (try dsimp only at hSw); go_simp); all_goals with_reducible rfl
    try simp only [Act.put, List.setIfInBounds_toArray, List.set_cons_zero, List.set_cons_succ]
    refine wpAnyH_take (i := 34) (oi := { dst := some 102, op := _, type := _, pos := _, after := _, guard := _ }) (v := ?_) rfl (by kernel_rfl) (by kernel_rfl) (by kernel_rfl) (fun _ _ _ h => h) (Or.inl ⟨by rfl, ?_⟩) hHeld ?_
    rotate_left
    · (intro w hSw; (try dsimp only at hSw); go_simp); all_goals with_reducible rfl
    try simp only [Act.put, List.setIfInBounds_toArray, List.set_cons_zero, List.set_cons_succ]
    refine wpAnyH_take (i := 35) (oi := { dst := some 21, op := _, type := _, pos := _, after := _, guard := _ }) (v := ?_) rfl (by kernel_rfl) (by kernel_rfl) (by kernel_rfl) (fun _ _ _ h => h) (Or.inl ⟨by rfl, ?_⟩) hHeld ?_
    rotate_left
    · (intro w hSw; (try dsimp only at hSw); go_simp); all_goals with_reducible rfl
    try simp only [Act.put, List.setIfInBounds_toArray, List.set_cons_zero, List.set_cons_succ]
    refine wpAnyH_done (by kernel_rfl) ?_ _
    clear hHeld
    go_wp2_with fail
    go_meet
    case rel => exact ⟨by simp, HT, HE1, HK1⟩
  case rest =>
    obtain ⟨rfl, HT, HE1, HK1⟩ := hcut
    go_wp2_with fail
    refine (OverBytes_own HE1.out (by have := HBL.out; omega)).mono ?_
    rintro e wx1 ⟨⟨y1, rfl⟩, k1⟩
    have HT := Lib.hid (HT0.out.over HT.out k1 (fun b hb => by have := (HE1.out.lt b hb).1; have := HS5.out; have := HS6.out; omega))
    have HK1 := Lib.hid (k1.row HK1.out (fun b hb e => by have := (HK1.out.lt b hb).1; have := HEL.out b e; have := HS8.out; omega))
    clear k1
    go_wp2_with fail
    refine (OverKeys_any HK1.out (by have := HWL.out; have := HL.out.1; omega)).mono ?_
    rintro e wx2 ⟨⟨y2, rfl⟩, k2⟩
    have HT := Lib.hid (HT0.out.over HT.out k2 (fun b hb => by have := (HK1.out.lt b hb).1; have := HS5.out; have := HS6.out; have := HS7.out; have := HS8.out; omega))
    clear k2
    go_wp2_with (first
      | (with_reducible refine wpList_load_cw _ rfl (by kernel_rfl) _ rfl HT.out.c1 HU.out.x ?_)
      | (with_reducible refine wpList_load_cw _ rfl (by kernel_rfl) _ rfl HT.out.c0 HU.out.x ?_))
    refine (SameCommit_any HU.out.x HU.out.x (VRow.of_own HT.out.o1) (HU.out.below HT.out.b).r (by have := HL.out.1; omega) (by have := HL.out.1; omega)).mono ?_
    rintro e wx3 ⟨rfl, b3⟩
    rw [sameC_refl]
    have HT := Lib.hid (HT.out.below b3)
    clear b3
    go_wp2_with fail
    refine (SameVals_any (GRow.of_own dcs_len (by decide) HT.out.o2) (HV.out.below HT.out.b) (by have := HL.out.2; omega) (by have := HL.out.2; omega)).mono ?_
    rintro e wx4 ⟨rfl, b4⟩
    rw [show decide (ks = ks) = true by simp]
    have HT := Lib.hid (HT.out.below b4)
    clear b4
    go_wp2_with fail
    refine (awake_yes _).mono ?_
    rintro e wx5 ⟨rfl, b5⟩
    have HT := Lib.hid (HT.out.below b5)
    clear b5
    go_wp2_with fail
    go_ret
    exact ⟨rfl, HT.out.b⟩
end Go.Proofs.Ytooghjnddifpdaa
