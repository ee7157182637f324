/- BlakeTexts' walk. -/
import Derived.Test.YtmfajippoielhaaDoorBl16
namespace Go.Proofs.YtmfajippoielhaaDoor
open Go.RowKit Go.Proofs.YtmfajippoielhaaDoor.Bl BigFrame
set_option linter.unusedSimpArgs false
set_option linter.unusedVariables false
attribute [local go_sem] cell_alloc_some frozen_alloc_some

theorem text_less (a b : List UInt8) : Op.bytesLess (strB (textB a)).toList (strB (textB b)).toList = decide (cmpL a b = -1) := by
  rw [ByteArray.toList_eq, ByteArray.toList_eq]
  show Op.bytesLess (textB a).toArray.toList (textB b).toArray.toList = _
  simp only [List.toList_toArray]
  rw [less_cmp, cmp_text]
theorem hash_same (a b : List UInt8) : (a == b) = decide (cmpL a b = 0) := by
  rw [Bool.eq_iff_iff, beq_iff_eq, decide_eq_true_iff, cmpL_zero]
theorem text_same (a b : List UInt8) : ((strB (textB a)).toList == (strB (textB b)).toList) = decide (cmpL a b = 0) := by
  rw [strB_eq, hash_same, cmp_text]
set_option maxRecDepth 100000 in
set_option maxHeartbeats 2000000 in
theorem BlakeTexts_walk {w : World} {a b : List UInt8} (l : List UInt8) (ha : a.length = 32) (hb : b.length = 32) :
    Calls Tryd.prog 8 #[.agg (u8s a).toArray, .agg (u8s b).toArray, .string (strB l)] w fun e w' => e = .returned (.bool true) ∧ Below w.heap.size w w' := by
  have hal : (u8s a).length = 32 := by rw [u8s_len, ha]
  have hbl : (u8s b).length = 32 := by rw [u8s_len, hb]
  have hsz : (strB l).size = l.length := strB_size l
  go_enter Tryd.func8, Tryd.ntmps8
  go_upto_region 1 with fail
  refine wp_world fun w1 hw => ?_
  have H1 : Hid (Hs w1 w.heap.size a ∧ Hs w1 (w.heap.size + 1) b ∧ Below w.heap.size w w1) := by
    rw [hw]; exact Lib.hid ⟨kb_alloc (Cs.new rfl _) _, Cs.new (by simp) _, bl_alloc (bl_alloc (Below.refl _ _) _) _⟩
  clear hw
  go_wp2_with fail
  refine (BlakeKnown_any _).mono ?_
  rintro e w2 ⟨rfl, b2⟩
  have H2 := Lib.hid (And.intro (H1.out.1.below b2) (And.intro (H1.out.2.1.below b2) (bl_then H1.out.2.2 b2)))
  clear b2 H1
  by_cases hll : l.length ≤ 200
  · have hll' : ¬ 200 < l.length := by omega
    clear hll
    go_upto_region 4 with fail
    refine wp_region_held_drew (S := (fun W : World => W.rangeAt w.heap.size 0 (u8s a) ∧ W.rangeAt (w.heap.size + 1) 0 (u8s b))) (by kernel_rfl) ⟨H2.out.1.drew.range, H2.out.2.1.drew.range⟩ (fun hHeld => ?_)
    refine wpAnyH_take (i := 0) (oi := { dst := some 20, op := _, type := _, pos := _, after := _, guard := _ }) (v := _) rfl (by kernel_rfl) (by kernel_rfl) (by kernel_rfl) (fun _ _ _ h => h) (yieldsIf_load_mid (by rfl) 26 _ rfl w.heap.size 0 rfl (u8s a) _ (fun _ h => h.1) Tryd.underlying26 rfl (size_h.trans (by rw [hal]))) hHeld ?_
    try simp only [Act.put, List.setIfInBounds_toArray, List.set_cons_zero, List.set_cons_succ]
    refine wpAnyH_take (i := 2) (oi := { dst := some 22, op := _, type := _, pos := _, after := _, guard := _ }) (v := _) rfl (by kernel_rfl) (by kernel_rfl) (by kernel_rfl) (fun _ _ _ h => h) (yieldsIf_load_mid (by rfl) 26 _ rfl (w.heap.size + 1) 0 rfl (u8s b) _ (fun _ h => h.2) Tryd.underlying26 rfl (size_h.trans (by rw [hbl]))) hHeld ?_
    try simp only [Act.put, List.setIfInBounds_toArray, List.set_cons_zero, List.set_cons_succ]
    refine wpAnyH_ready (rs := [1]) (by kernel_rfl) (by simp) (AllReadyH.cons (o := _) rfl (fun K hK => ?_) AllReadyH.nil)
    go_simp
    refine (Text_any ha).mono ?_
    rintro e w3 ⟨rfl, b3⟩
    have H3 := Lib.hid (And.intro (H2.out.1.drew.below b3) (And.intro (H2.out.2.1.drew.below b3) (bl_then (bl_drew H2.out.2.2) b3)))
    clear b3 H2
    refine hK.out _ _ ⟨H3.out.1.range, H3.out.2.1.range⟩ (fun hHeld => ?_)
    clear hK K
    refine wpAnyH_ready (rs := [3]) (by kernel_rfl) (by simp) (AllReadyH.cons (o := _) rfl (fun K hK => ?_) AllReadyH.nil)
    go_simp
    refine (Text_any hb).mono ?_
    rintro e w4 ⟨rfl, b4⟩
    have H4 := Lib.hid (And.intro (H3.out.1.below b4) (And.intro (H3.out.2.1.below b4) (bl_then H3.out.2.2 b4)))
    clear b4 H3
    refine hK.out _ _ ⟨H4.out.1.range, H4.out.2.1.range⟩ (fun hHeld => ?_)
    clear hK K
    refine wpAnyH_take (i := 4) (oi := { dst := some 8, op := _, type := _, pos := _, after := _, guard := _ }) (v := ?_) rfl (by kernel_rfl) (by kernel_rfl) (by kernel_rfl) (fun _ _ _ h => h) (Or.inl ⟨by rfl, ?_⟩) hHeld ?_
    rotate_left
    · (intro w hSw; (try dsimp only at hSw); go_simp); all_goals with_reducible rfl
    try simp only [Act.put, List.setIfInBounds_toArray, List.set_cons_zero, List.set_cons_succ]
    refine wpAnyH_take (i := 5) (oi := { dst := some 9, op := _, type := _, pos := _, after := _, guard := _ }) (v := ?_) rfl (by kernel_rfl) (by kernel_rfl) (by kernel_rfl) (fun _ _ _ h => h) (Or.inl ⟨by rfl, ?_⟩) hHeld ?_
    rotate_left
    · (intro w hSw; (try dsimp only at hSw); go_simp); all_goals with_reducible rfl
    try simp only [Act.put, List.setIfInBounds_toArray, List.set_cons_zero, List.set_cons_succ]
    refine wpAnyH_done (by kernel_rfl) ?_ _
    clear hHeld
    go_wp2_with fail
    refine (Read_any (textB a) _).mono ?_
    rintro e w5 ⟨rfl, b5⟩
    rw [read_text ha]
    have H5 := Lib.hid (And.intro (H4.out.1.below b5) (And.intro (H4.out.2.1.below b5) (bl_then H4.out.2.2 b5)))
    clear b5 H4
    go_wp2_with (first
      | (refine wpList_stnew_h (op := ⟨none, .store 26 (.tmp 10) _, _, _, _, _⟩) (cs := u8s a) rfl _ _ rfl rfl rfl rfl hal (u8s_one _) ?_))
    refine (Read_any l _).mono ?_
    rintro e w6 ⟨rfl, b6⟩
    have H6 := Lib.hid (And.intro ((H5.out.1.below (bl_alloc (Below.refl _ _) (.cells (u8s a).toArray 26))).below b6) (And.intro ((H5.out.2.1.below (bl_alloc (Below.refl _ _) (.cells (u8s a).toArray 26))).below b6) (And.intro (bl_then (bl_alloc H5.out.2.2 (.cells (u8s a).toArray 26)) b6)
      ((show Hs (w5.alloc (.cells (u8s a).toArray 26)) w5.heap.size a from Cs.new rfl _).below b6))))
    clear b6 H5
    generalize w5.heap.size = g at *
    -- what was read, as plain data
    obtain ⟨y, f, hrd⟩ : ∃ y f, readP l = (y, f) := ⟨_, _, rfl⟩
    have hyl : y.length = 32 := by have := readP_len l; rw [hrd] at this; exact this
    have hyu : (u8s y).length = 32 := by rw [u8s_len, hyl]
    have hcase : (f = 0 ∧ textB y = l) ∨ (f = 5 ∧ y = zeros 32) := by
      unfold readP at hrd
      split at hrd
      · rename_i h
        injection hrd with h1 h2
        exact .inl ⟨h2.symm, by rw [← h1]; exact text_read h⟩
      · injection hrd with h1 h2
        exact .inr ⟨h2.symm, h1.symm⟩
    rw [hrd]
    clear hrd
    go_upto_region 7 with (first
      | (refine wpList_stnew_h (op := ⟨none, .store 26 (.tmp 12) _, _, _, _, _⟩) (cs := u8s y) rfl _ _ rfl rfl rfl rfl hyu (u8s_one _) ?_))
    have H7 := Lib.hid (And.intro (H6.out.1.below (bl_alloc (Below.refl _ _) (.cells (u8s y).toArray 26))) (And.intro (H6.out.2.1.below (bl_alloc (Below.refl _ _) (.cells (u8s y).toArray 26))) (And.intro (bl_alloc H6.out.2.2.1 (.cells (u8s y).toArray 26)) (And.intro (H6.out.2.2.2.below (bl_alloc (Below.refl _ _) (.cells (u8s y).toArray 26))) (show Hs (w6.alloc (.cells (u8s y).toArray 26)) w6.heap.size y from Cs.new rfl _)))))
    clear H6
    generalize w6.alloc (.cells (u8s y).toArray 26) = w7 at *
    generalize w6.heap.size = g2 at *
    have hneA : ∀ W : World, (binOp .neq 26 (.agg (u8s a).toArray) (.agg (u8s a).toArray)).run Tryd.prog W = .ok (.bool false) W := fun W => by
      rw [run_neq_bytes Tryd.underlying26 a a ha ha W]; simp
    have hlenA : (strB (textB a)).size = 64 := by rw [strB_size, text_len, ha]
    have rg1 := H7.out.2.2.2.1.range
    have rg2 := H7.out.2.2.2.2.range
    have rg3 := H7.out.1.range
    rcases hcase with ⟨rfl, hy⟩ | ⟨rfl, hy⟩
    · have HY := Lib.hid hy
      clear hy
      go_wp2_with (first
        | (with_reducible show wpList _ _ _ (⟨some 38, _, _, _, _, _⟩ :: _) _ _; refine wpList_load_h _ rfl rfl g 0 rfl rg1 hal ?_)
        | (with_reducible show wpList _ _ _ (⟨some 39, _, _, _, _, _⟩ :: _) _ _; refine wpList_load_h _ rfl rfl w.heap.size 0 rfl rg3 hal ?_)
        | (with_reducible show wpList _ _ _ (⟨some 50, _, _, _, _, _⟩ :: _) _ _; refine wpList_load_h _ rfl rfl g2 0 rfl rg2 hyu ?_))
      refine (Text_any hyl).mono ?_
      rintro e w8 ⟨rfl, b8⟩
      have H8 := Lib.hid (And.intro (H7.out.1.below b8) (And.intro (H7.out.2.1.below b8) (bl_then H7.out.2.2.1 b8)))
      clear b8 H7 rg1 rg2 rg3
      rw [HY.out]
      go_upto_region 9 with fail
      have hlt := text_less a b
      have heq := text_same a b
      have HK3 := Lib.hid (cmpL_three a b)
      have hkn := cmpL_neg a b
      have hab : ∀ W : World, (binOp .eql 26 (.agg (u8s a).toArray) (.agg (u8s b).toArray)).run Tryd.prog W = .ok (.bool (decide (cmpL a b = 0))) W := fun W => by
        rw [run_eql_bytes Tryd.underlying26 a b ha hb W, hash_same]
      have ra := H8.out.1.range
      have rb := H8.out.2.1.range
      generalize strB (textB a) = SA at *
      generalize strB (textB b) = SB at *
      generalize hk : cmpL a b = k at *
      have HKK := Lib.hid hk
      have HKN := Lib.hid hkn
      clear hk hkn
      rcases HK3.out with rfl | rfl | rfl
      · have hlt : Op.bytesLess SA.toList SB.toList = true := hlt
        have heq : (SA.toList == SB.toList) = false := heq
        have hab : ∀ W : World, (binOp .eql 26 (.agg (u8s a).toArray) (.agg (u8s b).toArray)).run Tryd.prog W = .ok (.bool false) W := hab
        go_wp2_with (first
          | (with_reducible show wpList _ _ _ (⟨some 79, _, _, _, _, _⟩ :: _) _ _; refine wpList_load_h _ rfl rfl w.heap.size 0 rfl ra hal ?_)
          | (with_reducible show wpList _ _ _ (⟨some 80, _, _, _, _, _⟩ :: _) _ _; refine wpList_load_h _ rfl rfl (w.heap.size + 1) 0 rfl rb hbl ?_))
        refine (Compare_any ha hb).mono ?_
        rintro e w9 ⟨rfl, b9⟩
        rw [HKK.out]
        have H9 := Lib.hid (And.intro (H8.out.1.below b9) (And.intro (H8.out.2.1.below b9) (bl_then H8.out.2.2 b9)))
        clear b9 ra rb
        have ra := H9.out.1.range
        have rb := H9.out.2.1.range
        go_wp2_with (first
          | (with_reducible show wpList _ _ _ (⟨some 86, _, _, _, _, _⟩ :: _) _ _; refine wpList_load_h _ rfl rfl (w.heap.size + 1) 0 rfl rb hbl ?_)
          | (with_reducible show wpList _ _ _ (⟨some 87, _, _, _, _, _⟩ :: _) _ _; refine wpList_load_h _ rfl rfl w.heap.size 0 rfl ra hal ?_))
        refine (Compare_any hb ha).mono ?_
        rintro e w10 ⟨rfl, b10⟩
        rw [HKN.out]
        have H10 := Lib.hid (And.intro (H9.out.1.below b10) (And.intro (H9.out.2.1.below b10) (bl_then H9.out.2.2 b10)))
        clear b10 ra rb
        have ra := H10.out.1.range
        have rb := H10.out.2.1.range
        go_wp2_with (first
          | (with_reducible show wpList _ _ _ (⟨some 94, _, _, _, _, _⟩ :: _) _ _; refine wpList_load_h _ rfl rfl w.heap.size 0 rfl ra hal ?_)
          | (with_reducible show wpList _ _ _ (⟨some 95, _, _, _, _, _⟩ :: _) _ _; refine wpList_load_h _ rfl rfl (w.heap.size + 1) 0 rfl rb hbl ?_))
        go_ret
        exact ⟨rfl, H10.out.2.2⟩
      · have hlt : Op.bytesLess SA.toList SB.toList = false := hlt
        have heq : (SA.toList == SB.toList) = true := heq
        have hab : ∀ W : World, (binOp .eql 26 (.agg (u8s a).toArray) (.agg (u8s b).toArray)).run Tryd.prog W = .ok (.bool true) W := hab
        go_wp2_with (first
          | (with_reducible show wpList _ _ _ (⟨some 79, _, _, _, _, _⟩ :: _) _ _; refine wpList_load_h _ rfl rfl w.heap.size 0 rfl ra hal ?_)
          | (with_reducible show wpList _ _ _ (⟨some 80, _, _, _, _, _⟩ :: _) _ _; refine wpList_load_h _ rfl rfl (w.heap.size + 1) 0 rfl rb hbl ?_))
        refine (Compare_any ha hb).mono ?_
        rintro e w9 ⟨rfl, b9⟩
        rw [HKK.out]
        have H9 := Lib.hid (And.intro (H8.out.1.below b9) (And.intro (H8.out.2.1.below b9) (bl_then H8.out.2.2 b9)))
        clear b9 ra rb
        have ra := H9.out.1.range
        have rb := H9.out.2.1.range
        go_wp2_with (first
          | (with_reducible show wpList _ _ _ (⟨some 86, _, _, _, _, _⟩ :: _) _ _; refine wpList_load_h _ rfl rfl (w.heap.size + 1) 0 rfl rb hbl ?_)
          | (with_reducible show wpList _ _ _ (⟨some 87, _, _, _, _, _⟩ :: _) _ _; refine wpList_load_h _ rfl rfl w.heap.size 0 rfl ra hal ?_))
        refine (Compare_any hb ha).mono ?_
        rintro e w10 ⟨rfl, b10⟩
        rw [HKN.out]
        have H10 := Lib.hid (And.intro (H9.out.1.below b10) (And.intro (H9.out.2.1.below b10) (bl_then H9.out.2.2 b10)))
        clear b10 ra rb
        have ra := H10.out.1.range
        have rb := H10.out.2.1.range
        go_wp2_with (first
          | (with_reducible show wpList _ _ _ (⟨some 94, _, _, _, _, _⟩ :: _) _ _; refine wpList_load_h _ rfl rfl w.heap.size 0 rfl ra hal ?_)
          | (with_reducible show wpList _ _ _ (⟨some 95, _, _, _, _, _⟩ :: _) _ _; refine wpList_load_h _ rfl rfl (w.heap.size + 1) 0 rfl rb hbl ?_))
        go_ret
        exact ⟨rfl, H10.out.2.2⟩
      · have hlt : Op.bytesLess SA.toList SB.toList = false := hlt
        have heq : (SA.toList == SB.toList) = false := heq
        have hab : ∀ W : World, (binOp .eql 26 (.agg (u8s a).toArray) (.agg (u8s b).toArray)).run Tryd.prog W = .ok (.bool false) W := hab
        go_wp2_with (first
          | (with_reducible show wpList _ _ _ (⟨some 79, _, _, _, _, _⟩ :: _) _ _; refine wpList_load_h _ rfl rfl w.heap.size 0 rfl ra hal ?_)
          | (with_reducible show wpList _ _ _ (⟨some 80, _, _, _, _, _⟩ :: _) _ _; refine wpList_load_h _ rfl rfl (w.heap.size + 1) 0 rfl rb hbl ?_))
        refine (Compare_any ha hb).mono ?_
        rintro e w9 ⟨rfl, b9⟩
        rw [HKK.out]
        have H9 := Lib.hid (And.intro (H8.out.1.below b9) (And.intro (H8.out.2.1.below b9) (bl_then H8.out.2.2 b9)))
        clear b9 ra rb
        have ra := H9.out.1.range
        have rb := H9.out.2.1.range
        go_wp2_with (first
          | (with_reducible show wpList _ _ _ (⟨some 86, _, _, _, _, _⟩ :: _) _ _; refine wpList_load_h _ rfl rfl (w.heap.size + 1) 0 rfl rb hbl ?_)
          | (with_reducible show wpList _ _ _ (⟨some 87, _, _, _, _, _⟩ :: _) _ _; refine wpList_load_h _ rfl rfl w.heap.size 0 rfl ra hal ?_))
        refine (Compare_any hb ha).mono ?_
        rintro e w10 ⟨rfl, b10⟩
        rw [HKN.out]
        have H10 := Lib.hid (And.intro (H9.out.1.below b10) (And.intro (H9.out.2.1.below b10) (bl_then H9.out.2.2 b10)))
        clear b10 ra rb
        have ra := H10.out.1.range
        have rb := H10.out.2.1.range
        go_wp2_with (first
          | (with_reducible show wpList _ _ _ (⟨some 94, _, _, _, _, _⟩ :: _) _ _; refine wpList_load_h _ rfl rfl w.heap.size 0 rfl ra hal ?_)
          | (with_reducible show wpList _ _ _ (⟨some 95, _, _, _, _, _⟩ :: _) _ _; refine wpList_load_h _ rfl rfl (w.heap.size + 1) 0 rfl rb hbl ?_))
        go_ret
        exact ⟨rfl, H10.out.2.2⟩
    · have hne0 : ∀ W : World, (binOp .neq 26 (.agg (u8s y).toArray) (.agg (u8s y).toArray)).run Tryd.prog W = .ok (.bool false) W := fun W => by
        rw [run_neq_bytes Tryd.underlying26 y y hyl hyl W]; simp
      have HY := Lib.hid hy
      have H8 := Lib.hid (And.intro H7.out.1 (And.intro H7.out.2.1 H7.out.2.2.1))
      clear H7 hy
      go_upto_region 9 with (first
        | (with_reducible show wpList _ _ _ (⟨some 38, _, _, _, _, _⟩ :: _) _ _; refine wpList_load_h _ rfl rfl g 0 rfl rg1 hal ?_)
        | (with_reducible show wpList _ _ _ (⟨some 39, _, _, _, _, _⟩ :: _) _ _; refine wpList_load_h _ rfl rfl w.heap.size 0 rfl rg3 hal ?_)
        | (with_reducible show wpList _ _ _ (⟨some 63, _, _, _, _, _⟩ :: _) _ _; refine wpList_load_h _ rfl rfl g2 0 rfl rg2 hyu ?_)
        | (with_reducible show wpList _ _ _ (⟨some 64, _, _, _, _, _⟩ :: _) _ _; refine wpList_build_0g rfl rfl ?_; rw [← HY.out]))
      have hlt := text_less a b
      have heq := text_same a b
      have HK3 := Lib.hid (cmpL_three a b)
      have hkn := cmpL_neg a b
      have hab : ∀ W : World, (binOp .eql 26 (.agg (u8s a).toArray) (.agg (u8s b).toArray)).run Tryd.prog W = .ok (.bool (decide (cmpL a b = 0))) W := fun W => by
        rw [run_eql_bytes Tryd.underlying26 a b ha hb W, hash_same]
      have ra := H8.out.1.range
      have rb := H8.out.2.1.range
      generalize strB (textB a) = SA at *
      generalize strB (textB b) = SB at *
      generalize hk : cmpL a b = k at *
      have HKK := Lib.hid hk
      have HKN := Lib.hid hkn
      clear hk hkn
      rcases HK3.out with rfl | rfl | rfl
      · have hlt : Op.bytesLess SA.toList SB.toList = true := hlt
        have heq : (SA.toList == SB.toList) = false := heq
        have hab : ∀ W : World, (binOp .eql 26 (.agg (u8s a).toArray) (.agg (u8s b).toArray)).run Tryd.prog W = .ok (.bool false) W := hab
        go_wp2_with (first
          | (with_reducible show wpList _ _ _ (⟨some 79, _, _, _, _, _⟩ :: _) _ _; refine wpList_load_h _ rfl rfl w.heap.size 0 rfl ra hal ?_)
          | (with_reducible show wpList _ _ _ (⟨some 80, _, _, _, _, _⟩ :: _) _ _; refine wpList_load_h _ rfl rfl (w.heap.size + 1) 0 rfl rb hbl ?_))
        refine (Compare_any ha hb).mono ?_
        rintro e w9 ⟨rfl, b9⟩
        rw [HKK.out]
        have H9 := Lib.hid (And.intro (H8.out.1.below b9) (And.intro (H8.out.2.1.below b9) (bl_then H8.out.2.2 b9)))
        clear b9 ra rb
        have ra := H9.out.1.range
        have rb := H9.out.2.1.range
        go_wp2_with (first
          | (with_reducible show wpList _ _ _ (⟨some 86, _, _, _, _, _⟩ :: _) _ _; refine wpList_load_h _ rfl rfl (w.heap.size + 1) 0 rfl rb hbl ?_)
          | (with_reducible show wpList _ _ _ (⟨some 87, _, _, _, _, _⟩ :: _) _ _; refine wpList_load_h _ rfl rfl w.heap.size 0 rfl ra hal ?_))
        refine (Compare_any hb ha).mono ?_
        rintro e w10 ⟨rfl, b10⟩
        rw [HKN.out]
        have H10 := Lib.hid (And.intro (H9.out.1.below b10) (And.intro (H9.out.2.1.below b10) (bl_then H9.out.2.2 b10)))
        clear b10 ra rb
        have ra := H10.out.1.range
        have rb := H10.out.2.1.range
        go_wp2_with (first
          | (with_reducible show wpList _ _ _ (⟨some 94, _, _, _, _, _⟩ :: _) _ _; refine wpList_load_h _ rfl rfl w.heap.size 0 rfl ra hal ?_)
          | (with_reducible show wpList _ _ _ (⟨some 95, _, _, _, _, _⟩ :: _) _ _; refine wpList_load_h _ rfl rfl (w.heap.size + 1) 0 rfl rb hbl ?_))
        go_ret
        exact ⟨rfl, H10.out.2.2⟩
      · have hlt : Op.bytesLess SA.toList SB.toList = false := hlt
        have heq : (SA.toList == SB.toList) = true := heq
        have hab : ∀ W : World, (binOp .eql 26 (.agg (u8s a).toArray) (.agg (u8s b).toArray)).run Tryd.prog W = .ok (.bool true) W := hab
        go_wp2_with (first
          | (with_reducible show wpList _ _ _ (⟨some 79, _, _, _, _, _⟩ :: _) _ _; refine wpList_load_h _ rfl rfl w.heap.size 0 rfl ra hal ?_)
          | (with_reducible show wpList _ _ _ (⟨some 80, _, _, _, _, _⟩ :: _) _ _; refine wpList_load_h _ rfl rfl (w.heap.size + 1) 0 rfl rb hbl ?_))
        refine (Compare_any ha hb).mono ?_
        rintro e w9 ⟨rfl, b9⟩
        rw [HKK.out]
        have H9 := Lib.hid (And.intro (H8.out.1.below b9) (And.intro (H8.out.2.1.below b9) (bl_then H8.out.2.2 b9)))
        clear b9 ra rb
        have ra := H9.out.1.range
        have rb := H9.out.2.1.range
        go_wp2_with (first
          | (with_reducible show wpList _ _ _ (⟨some 86, _, _, _, _, _⟩ :: _) _ _; refine wpList_load_h _ rfl rfl (w.heap.size + 1) 0 rfl rb hbl ?_)
          | (with_reducible show wpList _ _ _ (⟨some 87, _, _, _, _, _⟩ :: _) _ _; refine wpList_load_h _ rfl rfl w.heap.size 0 rfl ra hal ?_))
        refine (Compare_any hb ha).mono ?_
        rintro e w10 ⟨rfl, b10⟩
        rw [HKN.out]
        have H10 := Lib.hid (And.intro (H9.out.1.below b10) (And.intro (H9.out.2.1.below b10) (bl_then H9.out.2.2 b10)))
        clear b10 ra rb
        have ra := H10.out.1.range
        have rb := H10.out.2.1.range
        go_wp2_with (first
          | (with_reducible show wpList _ _ _ (⟨some 94, _, _, _, _, _⟩ :: _) _ _; refine wpList_load_h _ rfl rfl w.heap.size 0 rfl ra hal ?_)
          | (with_reducible show wpList _ _ _ (⟨some 95, _, _, _, _, _⟩ :: _) _ _; refine wpList_load_h _ rfl rfl (w.heap.size + 1) 0 rfl rb hbl ?_))
        go_ret
        exact ⟨rfl, H10.out.2.2⟩
      · have hlt : Op.bytesLess SA.toList SB.toList = false := hlt
        have heq : (SA.toList == SB.toList) = false := heq
        have hab : ∀ W : World, (binOp .eql 26 (.agg (u8s a).toArray) (.agg (u8s b).toArray)).run Tryd.prog W = .ok (.bool false) W := hab
        go_wp2_with (first
          | (with_reducible show wpList _ _ _ (⟨some 79, _, _, _, _, _⟩ :: _) _ _; refine wpList_load_h _ rfl rfl w.heap.size 0 rfl ra hal ?_)
          | (with_reducible show wpList _ _ _ (⟨some 80, _, _, _, _, _⟩ :: _) _ _; refine wpList_load_h _ rfl rfl (w.heap.size + 1) 0 rfl rb hbl ?_))
        refine (Compare_any ha hb).mono ?_
        rintro e w9 ⟨rfl, b9⟩
        rw [HKK.out]
        have H9 := Lib.hid (And.intro (H8.out.1.below b9) (And.intro (H8.out.2.1.below b9) (bl_then H8.out.2.2 b9)))
        clear b9 ra rb
        have ra := H9.out.1.range
        have rb := H9.out.2.1.range
        go_wp2_with (first
          | (with_reducible show wpList _ _ _ (⟨some 86, _, _, _, _, _⟩ :: _) _ _; refine wpList_load_h _ rfl rfl (w.heap.size + 1) 0 rfl rb hbl ?_)
          | (with_reducible show wpList _ _ _ (⟨some 87, _, _, _, _, _⟩ :: _) _ _; refine wpList_load_h _ rfl rfl w.heap.size 0 rfl ra hal ?_))
        refine (Compare_any hb ha).mono ?_
        rintro e w10 ⟨rfl, b10⟩
        rw [HKN.out]
        have H10 := Lib.hid (And.intro (H9.out.1.below b10) (And.intro (H9.out.2.1.below b10) (bl_then H9.out.2.2 b10)))
        clear b10 ra rb
        have ra := H10.out.1.range
        have rb := H10.out.2.1.range
        go_wp2_with (first
          | (with_reducible show wpList _ _ _ (⟨some 94, _, _, _, _, _⟩ :: _) _ _; refine wpList_load_h _ rfl rfl w.heap.size 0 rfl ra hal ?_)
          | (with_reducible show wpList _ _ _ (⟨some 95, _, _, _, _, _⟩ :: _) _ _; refine wpList_load_h _ rfl rfl (w.heap.size + 1) 0 rfl rb hbl ?_))
        go_ret
        exact ⟨rfl, H10.out.2.2⟩
  · have hll' : 200 < l.length := by omega
    clear hll
    go_wp2_with fail
    go_ret
    exact ⟨rfl, H2.out.2.2⟩
end Go.Proofs.YtmfajippoielhaaDoor
