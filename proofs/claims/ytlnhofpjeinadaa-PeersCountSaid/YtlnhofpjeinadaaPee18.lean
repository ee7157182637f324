/- The walks of the reference of peers: New. -/
import Derived.Test.YtlnhofpjeinadaaPee17
namespace Go.Proofs.Ytlnhofpjeinadaa
open Go.RowKit Go.Proofs.Ytlnhofpjeinadaa.Pc Go.Shelf BigFrame
attribute [local go_sem] run_store_float
set_option linter.unusedSimpArgs false
set_option linter.unusedVariables false

theorem new_none {ms : List Mr} {role : Int} (h : role ≠ 1) : bestI (newL ms) role = -1 := by
  have : ofs (newL ms) role = [] := by
    unfold ofs
    rw [List.filter_eq_nil_iff]
    intro y hy hr
    obtain ⟨x, i⟩ := y
    rw [List.mem_zipIdx_iff_getElem?] at hy
    have hx := List.mem_of_getElem? hy
    obtain ⟨m, _, rfl⟩ := List.mem_map.1 hx
    simp [askR, newP] at hr
    exact h hr.symm
  unfold bestI
  rw [this]; rfl
theorem fold_some : (M : List (Pr × Nat)) → (t : Pr × Nat) → ∃ u, M.foldl topS (some t) = some u
  | [], t => ⟨t, rfl⟩
  | y :: M, t => by
    show ∃ u, M.foldl topS (topS (some t) y) = some u
    simp only [topS]
    split
    · exact fold_some M _
    · exact fold_some M _
theorem top_some {M : List (Pr × Nat)} (h : M ≠ []) : 0 ≤ atI (top M) := by
  cases M with
  | nil => exact absurd rfl h
  | cons y M =>
    obtain ⟨u, hu⟩ := fold_some M y
    have : top (y :: M) = some u := hu
    rw [this]
    simp [atI]
theorem new_one {ms : List Mr} (h : 1 ≤ ms.length) : 0 ≤ bestI (newL ms) 1 := by
  refine top_some ?_
  cases ms with
  | nil => simp at h
  | cons m ms => simp [ofs, newL, newP, askR, List.zipIdx_cons]
theorem new_next {ms : List Mr} (h : 1 ≤ ms.length) : nextI (newL ms) = bestI (newL ms) 1 ∧ nextL (newL ms) = setR (newL ms) (bestI (newL ms) 1).toNat 3 := by
  have h1 : nextI (newL ms) = bestI (newL ms) 1 := by
    unfold nextI
    rw [new_none (by decide), new_none (by decide)]; rfl
  exact ⟨h1, by unfold nextL; rw [h1, if_pos (new_one h)]⟩

set_option maxRecDepth 100000 in
set_option maxHeartbeats 4000000 in
theorem rNew_bad {A : Option Addr} {n cap : Nat} {wit : Int} {w : World} (h : okW n wit = false) (hn : n ≤ 1000) : Calls Try.prog 24 #[.slice A n cap, .int .i64 wit] w fun e w' => e = .returned (.tuple #[.pointer none, .int .i64 3]) ∧ w = w' := by
  rcases okW_no h with h1 | ⟨h1, h2⟩ | ⟨h1, h2, h3⟩ | ⟨h1, h2, h3, h4⟩ <;> clear h
  all_goals
    (try have h4' : (15 : Int) < wit := by omega)
    go_enter Try.func24, Try.ntmps24
    go_wp2
    exact bodyPost_ret (v := .tuple #[.pointer none, .int .i64 3]) (by simp [results, Try.results24, go_sem]) rfl ⟨rfl, rfl⟩

set_option maxRecDepth 100000 in
set_option maxHeartbeats 4000000 in
theorem rNew_any {v : Value} {ms : List Mr} {w : World} (hR : MRow w v ms) (hF : Go.Proofs.Ytlnhofpjeinadaa.Fit ms) (hl : ms.length ≤ 1000) (wit : Int) : Calls Try.prog 24 #[v, .int .i64 wit] w (NewPost 87 89 layR ms wit w) := by
  obtain ⟨A, cap, rfl, hA⟩ := hR
  cases hW : okW ms.length wit
  · refine (rNew_bad hW hl).mono ?_
    rintro e w' ⟨rfl, rfl⟩
    exact newPost_no (okN_w hW) (Below.refl _ _)
  have hW' : 1 ≤ ms.length ∧ ms.length ≤ 16 ∧ 0 ≤ wit ∧ wit < 16 := by simpa [okW] using hW
  obtain ⟨h1, h2, h3, h4⟩ := hW'
  have h4' : ¬ (15 : Int) < wit := by omega
  obtain ⟨b, off, rfl, hbl, hc⟩ := hA (by omega)
  obtain ⟨i0, hi, hz0, hz1, hz2⟩ := info_parts infoRP
  have HC := Lib.hid hc
  have HW := Lib.hid hW
  have HF := Lib.hid hF
  obtain ⟨n, hn⟩ : ∃ n, ms.length = n := ⟨_, rfl⟩
  have HN := Lib.hid hn
  rw [hn] at h1 h2 ⊢
  clear hc hW hl hn hF
  go_enter Try.func24, Try.ntmps24
  go_wp2_with fail
  go_loopw [7, 26, 27, 28, 29, 30, 31, 32, 33, 34, 35, 36, 37, 38, 39, 40, 41, 42, 43, 44, 45, 46, 47, 48, 49, 50, 51] (fun s7 _ _ _ _ _ _ _ _ _ _ _ _ _ _ _ _ _ _ _ _ _ _ _ _ _ _ wr => ∃ k : Nat, k ≤ n ∧ s7 = .int .i64 k ∧ Hid (NewI 87 89 layR ms w wr k) ∧ Below w.heap.size w wr) (fun s7 _ _ _ _ _ _ _ _ _ _ _ _ _ _ _ _ _ _ _ _ _ _ _ _ _ _ _ => n - (intOf s7).toNat)
  case atStart => exact ⟨0, by omega, rfl, ⟨rfl, _, kb_new rfl _, World.ownsRow_nil _ _ _ _⟩, by (repeat (with_reducible (first | exact Below.refl _ _ | assumption | refine bl_alloc ?_ _ | refine bl_drew ?_ | refine bl_drewN ?_ _ | (refine bl_set ?_ ?_ _; (focus (first | (simp; done) | (simp; omega) | omega))) | refine bl_then ?_ (by assumption))))⟩
  case round =>
    obtain ⟨k, hk, rfl, hI, hnx⟩ := hrel
    obtain ⟨hok, v, hst, ho⟩ := hI.out
    by_cases hlt : k < n
    · obtain ⟨m, hm⟩ : ∃ m, ms[k]? = some m := ⟨_, List.getElem?_eq_getElem (by have := HN.out; omega)⟩
      obtain ⟨c0, c1⟩ := HC.out k m hm
      have d0 := (hnx.cell (by exact hbl)).trans c0
      have d1 := (hnx.cell (by exact hbl)).trans c1
      have hbz : b < wr.heap.size := Nat.lt_of_lt_of_le hbl hnx.size
      have HM := Lib.hid hm
      have Hok := Lib.hid hok
      obtain ⟨A, ca, rfl⟩ := owns_slice0 ho
      have HO := Lib.hid ho
      have HST := Lib.hid hst
      clear c0 c1 hm hok hI ho hst
      go_wp2_with fail
      refine (rCheck_any m.s m.p _).mono ?_
      rintro e w1 ⟨rfl, hb1⟩
      cases hs : okS m.s
      · have hE : chkE m.s = 3 := by unfold chkE; rw [hs]; rfl
        rw [hE]
        have HB := Lib.hid (okN_m (wit := wit) (okMs_bad HM.out hs))
        clear hs hE
        go_wp2
        exact bodyPost_ret (v := .tuple #[.pointer none, .int .i64 3]) (by simp [results, Try.results24, go_sem]) rfl (newPost_no HB.out (by (repeat (with_reducible (first | exact Below.refl _ _ | assumption | refine bl_alloc ?_ _ | refine bl_drew ?_ | refine bl_drewN ?_ _ | (refine bl_set ?_ ?_ _; (focus (first | (simp; done) | (simp; omega) | omega))) | refine bl_then ?_ (by assumption))))))
      · have hE : chkE m.s = 0 := by unfold chkE; rw [hs]; rfl
        rw [hE]
        have HOK := Lib.hid (okMs_take Hok.out HM.out hs)
        have HT := Lib.hid (newL_take HM.out)
        have S1 := kb_below hb1 HST.out
        have O1 := (Keep.of_below (S := fun _ => False) hb1).row HO.out (fun _ _ h => h)
        have hnx1 : Below w.heap.size w w1 := by (repeat (with_reducible (first | exact Below.refl _ _ | assumption | refine bl_alloc ?_ _ | refine bl_drew ?_ | refine bl_drewN ?_ _ | (refine bl_set ?_ ?_ _; (focus (first | (simp; done) | (simp; omega) | omega))) | refine bl_then ?_ (by assumption))))
        have q1 := (hb1.cell (by exact hbz)).trans d0
        have q2 := (hb1.cell (by exact hbz)).trans d1
        have hbz1 : b < w1.heap.size := Nat.lt_of_lt_of_le hbz hb1.size
        clear hb1 hs hE d0 d1
        have q0 := (kb_cell S1 0).trans rfl
        have hql := kb_lt S1
        have hod := owns_drew O1
        have hbk : ∀ j, (Value.slice A k ca).ownBlock = some j → w.heap.size + 1 ≤ j := fun j hj => (O1.lt j hj).1
        go_wp2_with fail
        go_region_law (refine step_append_lies _ rfl _ _ 85 rfl (w.heap.size + 1) 89 i0 (.agg #[.int .i64 0, .int .i64 0, .int .i64 0, .float .f64 0]) 4 32 Try.underlying85 hi hz0 hz1 hz2 rfl (by decide) _ _ _ rfl (hod.alloc _) ⟨w1.heap.size, 0, none⟩ 1 1 [.int .i64 1, .int .i64 0, .int .i64 m.s, .float .f64 m.p] rfl rfl (four_new w1.drew _ _ _ _ _) (by intro v hv; simp at hv; rcases hv with rfl | rfl | rfl | rfl <;> rfl) (by decide) (by unfold maxLen; omega) (by omega) (by simp; omega) _ rfl ?_; intro g' cap' w2 hown' hgrow hat hlt2; have e0 := (hgrow.block w.heap.size (by simp; omega) (fun e => by have := hbk _ e.symm; omega)).trans (kb_alloc (kb_drew S1) _); have e1 := (kb_cell e0 0).trans rfl; have ez := kb_frozen e0; have el := kb_lt e0)
        all_goals
          clear q0 q1 q2 hod
          have hnb : (Value.slice (some ⟨g', 0, none⟩) (k + 1) cap').ownBlock ≠ some w.heap.size := fun e => by have := (hown'.lt _ e).1; omega
          have HZ : Hid (NewI 87 89 layR ms w (w2.setCell ⟨w.heap.size, 0, none⟩ (.slice (some ⟨g', 0, none⟩) (k + 1) cap')) (k + 1)) := ⟨HOK.out, _, kb_set e0 _, by rw [HT.out, pcs_snoc]; exact own_set hown' hnb⟩
          have HB : Below w.heap.size w w2 := (bl_alloc (bl_drew hnx1) _).grown hgrow (by simp; omega) (fun j hj => by have := hbk j hj; omega)
          clear hown' hgrow hat hlt2 hnb O1 S1 hnx1
          go_wp2
          go_roundw
          case rel => exact ⟨k + 1, by omega, by go_num, HZ, by (repeat (with_reducible (first | exact Below.refl _ _ | assumption | refine bl_alloc ?_ _ | refine bl_drew ?_ | refine bl_drewN ?_ _ | (refine bl_set ?_ ?_ _; (focus (first | (simp; done) | (simp; omega) | omega))) | refine bl_then ?_ (by assumption))))⟩
          case measure => simp [intOf]; omega
    · obtain rfl : k = n := by omega
      have hT : ms.take k = ms := List.take_of_length_le (by rw [HN.out]; exact Nat.le_refl _)
      rw [hT] at hok ho
      have hOK : okN ms wit = true := by unfold okN; rw [hok, HW.out]; rfl
      obtain ⟨g, F, hgB⟩ := PX.of_own layR_len hst (by rw [newL_len, HN.out]; exact ho) (by omega) (by rw [newL_len, HN.out]; exact h1) (by rw [newL_len, HN.out]; exact h2) (newL_fit hok HF.out)
      have HF1 := Lib.hid F
      have HK := Lib.hid hOK
      have hsz := hnx.size
      have hms : 1 ≤ ms.length := by rw [HN.out]; exact h1
      obtain ⟨-, hnl⟩ := new_next hms
      obtain ⟨i, x, hib, hlt2, hx⟩ := best_nat (new_one hms)
      have HNL := Lib.hid (show nextL (newL ms) = setR (newL ms) i 3 by rw [hnl, hib, Int.toNat_natCast])
      have HB := Lib.hid (fun W (F : RP W w.heap.size g (newL ms)) => hib ▸ rbest_any F 1)
      have HX := Lib.hid hx
      obtain ⟨cc, hst'⟩ := F.st
      have hle : (newL ms).length = k := by rw [newL_len]; exact HN.out
      rw [hle] at hst' hlt2
      have hil : i < k := hlt2
      have q0 := (kb_cell (kb_drew hst') 0).trans rfl
      have HST := Lib.hid hst'
      have hne := F.ne
      clear hI hok hst ho hT hOK F hst' hnl hib hx hle
      go_wp2_with fail
      refine wp_region_held_drew (S := (fun W : World => W.cell? ⟨w.heap.size, 0, none⟩ = some (.slice (some ⟨g, 0, none⟩) k cc))) (by kernel_rfl) q0 (fun hHeld => ?_)
      refine wpAnyH_take (i := 0) (oi := { dst := some 52, op := _, type := _, pos := _, after := _, guard := _ }) (v := ?_) rfl (by kernel_rfl) (by kernel_rfl) (by kernel_rfl) (fun _ _ _ h => h) (Or.inl ⟨by rfl, ?_⟩) hHeld ?_
      rotate_left
      · (intro w hSw; (try dsimp only at hSw); go_simp); all_goals with_reducible rfl
      try simp only [Act.put, List.setIfInBounds_toArray, List.set_cons_zero, List.set_cons_succ]
      refine wpAnyH_take (i := 1) (oi := { dst := some 53, op := _, type := _, pos := _, after := _, guard := _ }) (v := ?_) rfl (by kernel_rfl) (by kernel_rfl) (by kernel_rfl) (fun _ _ _ h => h) (Or.inl ⟨by rfl, ?_⟩) hHeld ?_
      rotate_left
      · (intro w hSw; (try dsimp only at hSw); go_simp); all_goals with_reducible rfl
      try simp only [Act.put, List.setIfInBounds_toArray, List.set_cons_zero, List.set_cons_succ]
      refine wpAnyH_take (i := 2) (oi := { dst := some 54, op := _, type := _, pos := _, after := _, guard := _ }) (v := ?_) rfl (by kernel_rfl) (by kernel_rfl) (by kernel_rfl) (fun _ _ _ h => h) (Or.inl ⟨by rfl, ?_⟩) hHeld ?_
      rotate_left
      · (intro w hSw; (try dsimp only at hSw); go_simp); all_goals with_reducible rfl
      try simp only [Act.put, List.setIfInBounds_toArray, List.set_cons_zero, List.set_cons_succ]
      refine wpAnyH_take (i := 3) (oi := { dst := some 55, op := _, type := _, pos := _, after := _, guard := _ }) (v := ?_) rfl (by kernel_rfl) (by kernel_rfl) (by kernel_rfl) (fun _ _ _ h => h) (Or.inl ⟨by rfl, ?_⟩) hHeld ?_
      rotate_left
      · (intro w hSw; (try dsimp only at hSw); go_simp); all_goals with_reducible rfl
      try simp only [Act.put, List.setIfInBounds_toArray, List.set_cons_zero, List.set_cons_succ]
      refine wpAnyH_take (i := 4) (oi := { dst := some 56, op := _, type := _, pos := _, after := _, guard := _ }) (v := ?_) rfl (by kernel_rfl) (by kernel_rfl) (by kernel_rfl) (fun _ _ _ h => h) (Or.inl ⟨by rfl, ?_⟩) hHeld ?_
      rotate_left
      · (intro w hSw; (try dsimp only at hSw); go_simp); all_goals with_reducible rfl
      try simp only [Act.put, List.setIfInBounds_toArray, List.set_cons_zero, List.set_cons_succ]
      refine wpAnyH_ready (rs := [5]) (by kernel_rfl) (by simp) (AllReadyH.cons (o := _) rfl (fun K hK => ?_) AllReadyH.nil)
      go_simp
      refine (HB.out _ (HF1.out.below (bl_drew (Below.refl _ _)))).mono ?_
      rintro e w1 ⟨rfl, hb1⟩
      have S1 := kb_below hb1 (kb_drew HST.out)
      refine hK.out _ _ ((kb_cell S1 0).trans rfl) (fun hHeld => ?_)
      clear hK K
      refine wpAnyH_take (i := 6) (oi := { dst := some 58, op := _, type := _, pos := _, after := _, guard := _ }) (v := ?_) rfl (by kernel_rfl) (by kernel_rfl) (by kernel_rfl) (fun _ _ _ h => h) (Or.inl ⟨by rfl, ?_⟩) hHeld ?_
      rotate_left
      · (intro w hSw; (try dsimp only at hSw); go_simp); all_goals with_reducible rfl
      try simp only [Act.put, List.setIfInBounds_toArray, List.set_cons_zero, List.set_cons_succ]
      refine wpAnyH_take (i := 7) (oi := { dst := some 59, op := _, type := _, pos := _, after := _, guard := _ }) (v := ?_) rfl (by kernel_rfl) (by kernel_rfl) (by kernel_rfl) (fun _ _ _ h => h) (Or.inl ⟨by rfl, ?_⟩) hHeld ?_
      rotate_left
      · (intro w hSw; (try dsimp only at hSw); go_simp); all_goals with_reducible rfl
      try simp only [Act.put, List.setIfInBounds_toArray, List.set_cons_zero, List.set_cons_succ]
      have F1 := HF1.out.below (bl_then (bl_drew (Below.refl _ _)) hb1)
      have z1 := F1.frozen
      have x1 := F1.cell0 HX.out _ rfl
      have G1 := F1.ltg
      refine wpAnyH_ready (rs := [8]) (by kernel_rfl) (by simp) (AllReadyH.cons (o := _) rfl (fun K hK => ?_) AllReadyH.nil)
      go_simp
      have S2 := kb_far S1 (p := ⟨g, i * 4, none⟩) hne (.int .i64 3)
      refine hK.out _ _ ((kb_cell S2 0).trans rfl) (fun hHeld => ?_)
      clear hK K
      refine wpAnyH_done (by kernel_rfl) ?_ _
      have F2 := RP.role F1 HX.out (r := 3) (by omega) (by omega)
      rw [← HNL.out] at F2
      have K1 : Keep (fun b => b = g) wr (w1.setCell ⟨g, i * 4, none⟩ (.int .i64 3)) := keep_set (bl_then (bl_drew (Below.refl _ _)) hb1)
      generalize w1.setCell ⟨g, i * 4, none⟩ (.int .i64 3) = w3 at *
      have HF2 := Lib.hid F2
      have HK1 := Lib.hid K1
      clear F1 F2 K1 S1 S2 z1 x1 G1 hHeld q0 hb1
      go_wp2_with fail
      refine (rFill_any HF2.out wit).mono ?_
      rintro e w2 ⟨kk, v2, rfl, hf, ho2, F2, K2⟩
      obtain ⟨A2, cap2, rfl⟩ := owns_slice0 ho2
      have hb : Below w.heap.size w w2 := (hnx.trans (HK1.out.below (by omega) (fun b hb => by omega))).trans (K2.below (by have := HK1.out.size; omega) (fun b hb => by omega))
      have HZ : Hid (NewPost 87 89 layR ms wit w (.returned (.tuple #[.pointer (some ⟨w.heap.size, 0, none⟩), .int .i64 0])) w2) := Lib.hid (by
        unfold NewPost
        rw [if_pos HK.out]
        exact ⟨_, g, kk, rfl, hf, F2, Nat.le_refl _, by omega, hb⟩)
      clear hf ho2 F2 K2 hb
      go_wp2
      exact bodyPost_ret (v := .tuple #[.pointer (some ⟨w.heap.size, 0, none⟩), .int .i64 0]) (by simp [results, Try.results24, go_sem]) rfl HZ.out
end Go.Proofs.Ytlnhofpjeinadaa
