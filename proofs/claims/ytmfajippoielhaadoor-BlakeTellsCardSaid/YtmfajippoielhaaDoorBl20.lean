/- BlakeTells' walk. -/
import Derived.Test.YtmfajippoielhaaDoorBl19
import Derived.Test.YtmfajippoielhaaDoorBl17
namespace Go.Proofs.YtmfajippoielhaaDoor
open Go.RowKit Go.Proofs.YtmfajippoielhaaDoor.Bl BigFrame
set_option linter.unusedSimpArgs false
set_option linter.unusedVariables false
attribute [local go_sem] cell_alloc_some frozen_alloc_some

set_option maxRecDepth 100000 in
set_option maxHeartbeats 2000000 in
theorem BlakeTells_walk {w : World} {a b : List UInt8} (l : List UInt8) (ha : a.length = 32) (hb : b.length = 32) :
    Calls Tryd.prog 5 #[.agg (u8s a).toArray, .agg (u8s b).toArray, .string (strB l)] w fun e w' => e = .returned (.bool true) ∧ Below w.heap.size w w' := by
  have hal : (u8s a).length = 32 := by rw [u8s_len, ha]
  have hbl : (u8s b).length = 32 := by rw [u8s_len, hb]
  have hsz : (strB l).size = l.length := strB_size l
  go_enter Tryd.func5, Tryd.ntmps5
  go_upto_region 1 with fail
  refine wp_world fun w1 hw => ?_
  have H1 : Hid (Hs w1 w.heap.size a ∧ Hs w1 (w.heap.size + 1) b ∧ Below w.heap.size w w1) := by
    rw [hw]; exact Lib.hid ⟨kb_alloc (Cs.new rfl _) _, Cs.new (by simp) _, bl_alloc (bl_alloc (Below.refl _ _) _) _⟩
  clear hw
  by_cases hll : l.length ≤ 200
  · have hll' : ¬ 200 < l.length := by omega
    clear hll
    obtain ⟨y, f, hrd⟩ : ∃ y f, readP l = (y, f) := ⟨_, _, rfl⟩
    have hyl : y.length = 32 := by have := readP_len l; rw [hrd] at this; exact this
    have hyu : (u8s y).length = 32 := by rw [u8s_len, hyl]
    have HR := Lib.hid hrd
    clear hrd
    go_wp2_with fail
    refine (Read_any l _).mono ?_
    rintro e w2 ⟨rfl, b2⟩
    rw [HR.out]
    have H2 := Lib.hid (And.intro (H1.out.1.below b2) (And.intro (H1.out.2.1.below b2) (bl_then H1.out.2.2 b2)))
    clear b2 H1
    go_wp2_with (first
      | (refine wpList_stnew_h (op := ⟨none, .store 26 (.tmp 7) _, _, _, _, _⟩) (cs := u8s y) rfl _ _ rfl rfl rfl rfl hyu (u8s_one _) ?_))
    refine (rRead_any l _).mono ?_
    rintro e w3 ⟨rfl, b3⟩
    rw [HR.out]
    have k2 := bl_alloc (Below.refl w2.heap.size w2) (.cells (u8s y).toArray 26)
    have H3 := Lib.hid (And.intro ((H2.out.1.below k2).below b3) (And.intro ((H2.out.2.1.below k2).below b3) (And.intro (bl_then (bl_then H2.out.2.2 k2) b3)
      ((show Hs (w2.alloc (.cells (u8s y).toArray 26)) w2.heap.size y from Cs.new rfl _).below b3))))
    clear b3 H2 k2
    generalize w2.heap.size = g at *
    go_upto_region 5 with (first
      | (refine wpList_stnew_h (op := ⟨none, .store 26 (.tmp 9) _, _, _, _, _⟩) (cs := u8s y) rfl _ _ rfl rfl rfl rfl hyu (u8s_one _) ?_))
    have k3 := bl_alloc (Below.refl w3.heap.size w3) (.cells (u8s y).toArray 26)
    have H4 := Lib.hid (And.intro (H3.out.1.below k3) (And.intro (H3.out.2.1.below k3) (And.intro (bl_then H3.out.2.2.1 k3) (And.intro (H3.out.2.2.2.below k3)
      (show Hs (w3.alloc (.cells (u8s y).toArray 26)) w3.heap.size y from Cs.new rfl _)))))
    clear H3 k3
    generalize w3.alloc (.cells (u8s y).toArray 26) = w4' at *
    generalize w3.heap.size = g2 at *
    have hyy : ∀ W : World, (binOp .eql 26 (.agg (u8s y).toArray) (.agg (u8s y).toArray)).run Tryd.prog W = .ok (.bool true) W := fun W => by
      rw [run_eql_bytes Tryd.underlying26 y y hyl hyl W]; simp
    have H5 := Lib.hid (And.intro H4.out.1.drew (And.intro H4.out.2.1.drew (And.intro (bl_drew H4.out.2.2.1) (And.intro H4.out.2.2.2.1.drew H4.out.2.2.2.2.drew))))
    clear H4
    refine wp_region_held_drew (S := (fun W : World => W.rangeAt w.heap.size 0 (u8s a) ∧ W.rangeAt (w.heap.size + 1) 0 (u8s b) ∧ W.rangeAt g 0 (u8s y) ∧ W.rangeAt g2 0 (u8s y))) (by kernel_rfl) ⟨H5.out.1.range, H5.out.2.1.range, H5.out.2.2.2.1.range, H5.out.2.2.2.2.range⟩ (fun hHeld => ?_)
    generalize w4'.drew = w5 at *
    refine wpAnyH_take (i := 0) (oi := { dst := some 25, op := _, type := _, pos := _, after := _, guard := _ }) (v := _) rfl (by kernel_rfl) (by kernel_rfl) (by kernel_rfl) (fun _ _ _ h => h) (yieldsIf_load_mid (by rfl) 26 _ rfl w.heap.size 0 rfl (u8s a) _ (fun _ h => h.1) Tryd.underlying26 rfl (size_h.trans (by rw [hal]))) hHeld ?_
    try simp only [Act.put, List.setIfInBounds_toArray, List.set_cons_zero, List.set_cons_succ]
    refine wpAnyH_take (i := 2) (oi := { dst := some 27, op := _, type := _, pos := _, after := _, guard := _ }) (v := _) rfl (by kernel_rfl) (by kernel_rfl) (by kernel_rfl) (fun _ _ _ h => h) (yieldsIf_load_mid (by rfl) 26 _ rfl w.heap.size 0 rfl (u8s a) _ (fun _ h => h.1) Tryd.underlying26 rfl (size_h.trans (by rw [hal]))) hHeld ?_
    try simp only [Act.put, List.setIfInBounds_toArray, List.set_cons_zero, List.set_cons_succ]
    refine wpAnyH_ready (rs := [1]) (by kernel_rfl) (by simp) (AllReadyH.cons (o := _) rfl (fun K hK => ?_) AllReadyH.nil)
    go_simp
    refine (Text_any ha).mono ?_
    rintro e w6 ⟨rfl, b6⟩
    have H6 := Lib.hid (And.intro (H5.out.1.below b6) (And.intro (H5.out.2.1.below b6) (And.intro (bl_then H5.out.2.2.1 b6) (And.intro (H5.out.2.2.2.1.below b6) (H5.out.2.2.2.2.below b6)))))
    clear b6 H5
    refine hK.out _ _ ⟨H6.out.1.range, H6.out.2.1.range, H6.out.2.2.2.1.range, H6.out.2.2.2.2.range⟩ (fun hHeld => ?_)
    clear hK K
    refine wpAnyH_ready (rs := [3]) (by kernel_rfl) (by simp) (AllReadyH.cons (o := _) rfl (fun K hK => ?_) AllReadyH.nil)
    go_simp
    refine (rText_any ha).mono ?_
    rintro e w7 ⟨rfl, b7⟩
    have H7 := Lib.hid (And.intro (H6.out.1.below b7) (And.intro (H6.out.2.1.below b7) (And.intro (bl_then H6.out.2.2.1 b7) (And.intro (H6.out.2.2.2.1.below b7) (H6.out.2.2.2.2.below b7)))))
    clear b7 H6
    refine hK.out _ _ ⟨H7.out.1.range, H7.out.2.1.range, H7.out.2.2.2.1.range, H7.out.2.2.2.2.range⟩ (fun hHeld => ?_)
    clear hK K
    generalize strB (textB a) = SA at *
    refine wpAnyH_take (i := 4) (oi := { dst := some 29, op := _, type := _, pos := _, after := _, guard := _ }) (v := ?_) rfl (by kernel_rfl) (by kernel_rfl) (by kernel_rfl) (fun _ _ _ h => h) (Or.inl ⟨by rfl, ?_⟩) hHeld ?_
    rotate_left
    · (intro w hSw; (try dsimp only at hSw); go_simp); all_goals with_reducible rfl
    try simp only [Act.put, List.setIfInBounds_toArray, List.set_cons_zero, List.set_cons_succ]
    refine wpAnyH_take (i := 5) (oi := { dst := some 30, op := _, type := _, pos := _, after := _, guard := _ }) (v := ?_) rfl (by kernel_rfl) (by kernel_rfl) (by kernel_rfl) (fun _ _ _ h => h) (Or.inl ⟨by rfl, ?_⟩) hHeld ?_
    rotate_left
    · (intro w hSw; (try dsimp only at hSw); go_simp); all_goals with_reducible rfl
    try simp only [Act.put, List.setIfInBounds_toArray, List.set_cons_zero, List.set_cons_succ]
    refine wpAnyH_take (i := 6) (oi := { dst := some 31, op := _, type := _, pos := _, after := _, guard := _ }) (v := _) rfl (by kernel_rfl) (by kernel_rfl) (by kernel_rfl) (fun _ _ _ h => h) (yieldsIf_load_mid (by rfl) 26 _ rfl g 0 rfl (u8s y) _ (fun _ h => h.2.2.1) Tryd.underlying26 rfl (size_h.trans (by rw [hyu]))) hHeld ?_
    try simp only [Act.put, List.setIfInBounds_toArray, List.set_cons_zero, List.set_cons_succ]
    refine wpAnyH_take (i := 7) (oi := { dst := some 32, op := _, type := _, pos := _, after := _, guard := _ }) (v := _) rfl (by kernel_rfl) (by kernel_rfl) (by kernel_rfl) (fun _ _ _ h => h) (yieldsIf_load_mid (by rfl) 26 _ rfl g2 0 rfl (u8s y) _ (fun _ h => h.2.2.2) Tryd.underlying26 rfl (size_h.trans (by rw [hyu]))) hHeld ?_
    try simp only [Act.put, List.setIfInBounds_toArray, List.set_cons_zero, List.set_cons_succ]
    refine wpAnyH_take (i := 8) (oi := { dst := some 33, op := _, type := _, pos := _, after := _, guard := _ }) (v := ?_) rfl (by kernel_rfl) (by kernel_rfl) (by kernel_rfl) (fun _ _ _ h => h) (Or.inl ⟨by rfl, ?_⟩) hHeld ?_
    rotate_left
    · (intro w hSw; (try dsimp only at hSw); go_simp); all_goals with_reducible rfl
    try simp only [Act.put, List.setIfInBounds_toArray, List.set_cons_zero, List.set_cons_succ]
    refine wpAnyH_take (i := 9) (oi := { dst := some 34, op := _, type := _, pos := _, after := _, guard := _ }) (v := ?_) rfl (by kernel_rfl) (by kernel_rfl) (by kernel_rfl) (fun _ _ _ h => h) (Or.inl ⟨by rfl, ?_⟩) hHeld ?_
    rotate_left
    · (intro w hSw; (try dsimp only at hSw); go_simp); all_goals with_reducible rfl
    try simp only [Act.put, List.setIfInBounds_toArray, List.set_cons_zero, List.set_cons_succ]
    refine wpAnyH_take (i := 10) (oi := { dst := some 35, op := _, type := _, pos := _, after := _, guard := _ }) (v := ?_) rfl (by kernel_rfl) (by kernel_rfl) (by kernel_rfl) (fun _ _ _ h => h) (Or.inl ⟨by rfl, ?_⟩) hHeld ?_
    rotate_left
    · (intro w hSw; (try dsimp only at hSw); go_simp); all_goals with_reducible rfl
    try simp only [Act.put, List.setIfInBounds_toArray, List.set_cons_zero, List.set_cons_succ]
    refine wpAnyH_take (i := 11) (oi := { dst := some 36, op := _, type := _, pos := _, after := _, guard := _ }) (v := ?_) rfl (by kernel_rfl) (by kernel_rfl) (by kernel_rfl) (fun _ _ _ h => h) (Or.inl ⟨by rfl, ?_⟩) hHeld ?_
    rotate_left
    · (intro w hSw; (try dsimp only at hSw); go_simp); all_goals with_reducible rfl
    try simp only [Act.put, List.setIfInBounds_toArray, List.set_cons_zero, List.set_cons_succ]
    refine wpAnyH_take (i := 12) (oi := { dst := some 37, op := _, type := _, pos := _, after := _, guard := _ }) (v := ?_) rfl (by kernel_rfl) (by kernel_rfl) (by kernel_rfl) (fun _ _ _ h => h) (Or.inl ⟨by rfl, ?_⟩) hHeld ?_
    rotate_left
    · (intro w hSw; (try dsimp only at hSw); go_simp); all_goals with_reducible rfl
    try simp only [Act.put, List.setIfInBounds_toArray, List.set_cons_zero, List.set_cons_succ]
    refine wpAnyH_take (i := 13) (oi := { dst := some 38, op := _, type := _, pos := _, after := _, guard := _ }) (v := ?_) rfl (by kernel_rfl) (by kernel_rfl) (by kernel_rfl) (fun _ _ _ h => h) (Or.inl ⟨by rfl, ?_⟩) hHeld ?_
    rotate_left
    · (intro w hSw; (try dsimp only at hSw); go_simp); all_goals with_reducible rfl
    try simp only [Act.put, List.setIfInBounds_toArray, List.set_cons_zero, List.set_cons_succ]
    refine wpAnyH_take (i := 14) (oi := { dst := some 39, op := _, type := _, pos := _, after := _, guard := _ }) (v := ?_) rfl (by kernel_rfl) (by kernel_rfl) (by kernel_rfl) (fun _ _ _ h => h) (Or.inl ⟨by rfl, ?_⟩) hHeld ?_
    rotate_left
    · (intro w hSw; (try dsimp only at hSw); go_simp); all_goals with_reducible rfl
    try simp only [Act.put, List.setIfInBounds_toArray, List.set_cons_zero, List.set_cons_succ]
    refine wpAnyH_take (i := 15) (oi := { dst := some 40, op := _, type := _, pos := _, after := _, guard := _ }) (v := ?_) rfl (by kernel_rfl) (by kernel_rfl) (by kernel_rfl) (fun _ _ _ h => h) (Or.inl ⟨by rfl, ?_⟩) hHeld ?_
    rotate_left
    · (intro w hSw; (try dsimp only at hSw); go_simp); all_goals with_reducible rfl
    try simp only [Act.put, List.setIfInBounds_toArray, List.set_cons_zero, List.set_cons_succ]
    refine wpAnyH_take (i := 16) (oi := { dst := some 41, op := _, type := _, pos := _, after := _, guard := _ }) (v := _) rfl (by kernel_rfl) (by kernel_rfl) (by kernel_rfl) (fun _ _ _ h => h) (yieldsIf_load_mid (by rfl) 26 _ rfl w.heap.size 0 rfl (u8s a) _ (fun _ h => h.1) Tryd.underlying26 rfl (size_h.trans (by rw [hal]))) hHeld ?_
    try simp only [Act.put, List.setIfInBounds_toArray, List.set_cons_zero, List.set_cons_succ]
    refine wpAnyH_take (i := 17) (oi := { dst := some 42, op := _, type := _, pos := _, after := _, guard := _ }) (v := _) rfl (by kernel_rfl) (by kernel_rfl) (by kernel_rfl) (fun _ _ _ h => h) (yieldsIf_load_mid (by rfl) 26 _ rfl (w.heap.size + 1) 0 rfl (u8s b) _ (fun _ h => h.2.1) Tryd.underlying26 rfl (size_h.trans (by rw [hbl]))) hHeld ?_
    try simp only [Act.put, List.setIfInBounds_toArray, List.set_cons_zero, List.set_cons_succ]
    refine wpAnyH_take (i := 19) (oi := { dst := some 44, op := _, type := _, pos := _, after := _, guard := _ }) (v := _) rfl (by kernel_rfl) (by kernel_rfl) (by kernel_rfl) (fun _ _ _ h => h) (yieldsIf_load_mid (by rfl) 26 _ rfl w.heap.size 0 rfl (u8s a) _ (fun _ h => h.1) Tryd.underlying26 rfl (size_h.trans (by rw [hal]))) hHeld ?_
    try simp only [Act.put, List.setIfInBounds_toArray, List.set_cons_zero, List.set_cons_succ]
    refine wpAnyH_take (i := 20) (oi := { dst := some 45, op := _, type := _, pos := _, after := _, guard := _ }) (v := _) rfl (by kernel_rfl) (by kernel_rfl) (by kernel_rfl) (fun _ _ _ h => h) (yieldsIf_load_mid (by rfl) 26 _ rfl (w.heap.size + 1) 0 rfl (u8s b) _ (fun _ h => h.2.1) Tryd.underlying26 rfl (size_h.trans (by rw [hbl]))) hHeld ?_
    try simp only [Act.put, List.setIfInBounds_toArray, List.set_cons_zero, List.set_cons_succ]
    refine wpAnyH_ready (rs := [18]) (by kernel_rfl) (by simp) (AllReadyH.cons (o := _) rfl (fun K hK => ?_) AllReadyH.nil)
    go_simp
    refine (Compare_any ha hb).mono ?_
    rintro e w8 ⟨rfl, b8⟩
    have H8 := Lib.hid (And.intro (H7.out.1.below b8) (And.intro (H7.out.2.1.below b8) (And.intro (bl_then H7.out.2.2.1 b8) (And.intro (H7.out.2.2.2.1.below b8) (H7.out.2.2.2.2.below b8)))))
    clear b8 H7
    refine hK.out _ _ ⟨H8.out.1.range, H8.out.2.1.range, H8.out.2.2.2.1.range, H8.out.2.2.2.2.range⟩ (fun hHeld => ?_)
    clear hK K
    refine wpAnyH_ready (rs := [21]) (by kernel_rfl) (by simp) (AllReadyH.cons (o := _) rfl (fun K hK => ?_) AllReadyH.nil)
    go_simp
    refine (rCompare_any ha hb).mono ?_
    rintro e w9 ⟨rfl, b9⟩
    have H9 := Lib.hid (And.intro (H8.out.1.below b9) (And.intro (H8.out.2.1.below b9) (And.intro (bl_then H8.out.2.2.1 b9) (And.intro (H8.out.2.2.2.1.below b9) (H8.out.2.2.2.2.below b9)))))
    clear b9 H8
    refine hK.out _ _ ⟨H9.out.1.range, H9.out.2.1.range, H9.out.2.2.2.1.range, H9.out.2.2.2.2.range⟩ (fun hHeld => ?_)
    clear hK K
    generalize cmpL a b = k at *
    refine wpAnyH_take (i := 22) (oi := { dst := some 47, op := _, type := _, pos := _, after := _, guard := _ }) (v := ?_) rfl (by kernel_rfl) (by kernel_rfl) (by kernel_rfl) (fun _ _ _ h => h) (Or.inl ⟨by rfl, ?_⟩) hHeld ?_
    rotate_left
    · (intro w hSw; (try dsimp only at hSw); go_simp); all_goals with_reducible rfl
    try simp only [Act.put, List.setIfInBounds_toArray, List.set_cons_zero, List.set_cons_succ]
    refine wpAnyH_take (i := 23) (oi := { dst := some 48, op := _, type := _, pos := _, after := _, guard := _ }) (v := ?_) rfl (by kernel_rfl) (by kernel_rfl) (by kernel_rfl) (fun _ _ _ h => h) (Or.inl ⟨by rfl, ?_⟩) hHeld ?_
    rotate_left
    · (intro w hSw; (try dsimp only at hSw); go_simp); all_goals with_reducible rfl
    try simp only [Act.put, List.setIfInBounds_toArray, List.set_cons_zero, List.set_cons_succ]
    refine wpAnyH_take (i := 24) (oi := { dst := some 49, op := _, type := _, pos := _, after := _, guard := _ }) (v := ?_) rfl (by kernel_rfl) (by kernel_rfl) (by kernel_rfl) (fun _ _ _ h => h) (Or.inl ⟨by rfl, ?_⟩) hHeld ?_
    rotate_left
    · (intro w hSw; (try dsimp only at hSw); go_simp); all_goals with_reducible rfl
    try simp only [Act.put, List.setIfInBounds_toArray, List.set_cons_zero, List.set_cons_succ]
    refine wpAnyH_ready (rs := [25]) (by kernel_rfl) (by simp) (AllReadyH.cons (o := _) rfl (fun K hK => ?_) AllReadyH.nil)
    go_simp
    refine (awake_yes _).mono ?_
    rintro e w10 ⟨rfl, b10⟩
    have H10 := Lib.hid (And.intro (H9.out.1.below b10) (And.intro (H9.out.2.1.below b10) (And.intro (bl_then H9.out.2.2.1 b10) (And.intro (H9.out.2.2.2.1.below b10) (H9.out.2.2.2.2.below b10)))))
    clear b10 H9
    refine hK.out _ _ ⟨H10.out.1.range, H10.out.2.1.range, H10.out.2.2.2.1.range, H10.out.2.2.2.2.range⟩ (fun hHeld => ?_)
    clear hK K
    refine wpAnyH_take (i := 26) (oi := { dst := some 51, op := _, type := _, pos := _, after := _, guard := _ }) (v := ?_) rfl (by kernel_rfl) (by kernel_rfl) (by kernel_rfl) (fun _ _ _ h => h) (Or.inl ⟨by rfl, ?_⟩) hHeld ?_
    rotate_left
    · (intro w hSw; (try dsimp only at hSw); go_simp); all_goals with_reducible rfl
    try simp only [Act.put, List.setIfInBounds_toArray, List.set_cons_zero, List.set_cons_succ]
    refine wpAnyH_take (i := 27) (oi := { dst := some 6, op := _, type := _, pos := _, after := _, guard := _ }) (v := ?_) rfl (by kernel_rfl) (by kernel_rfl) (by kernel_rfl) (fun _ _ _ h => h) (Or.inl ⟨by rfl, ?_⟩) hHeld ?_
    rotate_left
    · (intro w hSw; (try dsimp only at hSw); go_simp); all_goals with_reducible rfl
    try simp only [Act.put, List.setIfInBounds_toArray, List.set_cons_zero, List.set_cons_succ]
    refine wpAnyH_done (by kernel_rfl) ?_ _
    clear hHeld
    go_wp2_with fail
    go_ret
    exact ⟨rfl, H10.out.2.2.1⟩
  · have hll' : 200 < l.length := by omega
    clear hll
    go_wp2_with fail
    refine (awake_yes _).mono ?_
    rintro e w2 ⟨rfl, b2⟩
    go_wp2_with fail
    go_ret
    exact ⟨rfl, bl_then H1.out.2.2 b2⟩
end Go.Proofs.YtmfajippoielhaaDoor
