/- The document's Read. -/
import Derived.Test.YtmfajippoielhaaDoorBl18
namespace Go.Proofs.YtmfajippoielhaaDoor
open Go.RowKit Go.Proofs.YtmfajippoielhaaDoor.Bl BigFrame
set_option linter.unusedSimpArgs false
set_option linter.unusedVariables false
attribute [local go_sem] cell_alloc_some frozen_alloc_some

theorem dgt_le (c : UInt8) : dgt c ≤ 16 := by
  unfold dgt
  have := c.toNat_lt
  split
  · omega
  · split <;> omega
theorem ok_no {s : List UInt8} {i : Nat} (h : dgt (bAt s i) = 16) (hi : i < s.length) : okT s = false := by
  unfold okT
  cases h2 : s.all fun c => decide (dgt c < 16)
  · rw [Bool.and_false]
  · have := all_at h2 hi
    rw [h] at this; cases this
theorem ok_yes {s : List UInt8} (hl : s.length = 64) (h : ∀ j, j < 64 → dgt (bAt s j) < 16) : okT s = true := by
  unfold okT
  rw [Bool.and_eq_true]
  refine ⟨by rw [hl]; rfl, List.all_eq_true.2 fun c hc => ?_⟩
  obtain ⟨j, hj, rfl⟩ := List.getElem_of_mem hc
  have := h j (by omega)
  unfold bAt at this
  rw [List.getD_eq_getElem?_getD, List.getElem?_eq_getElem hj] at this
  simpa using this
theorem okT_len {s : List UInt8} (h : s.length ≠ 64) : okT s = false := by
  unfold okT; simp [h]

set_option maxRecDepth 100000 in
set_option maxHeartbeats 2000000 in
theorem rRead_any (l : List UInt8) (w : World) : Calls Tryd.prog 18 #[.string (strB l)] w fun e w' => e = .returned (.tuple #[.agg (u8s (readP l).1).toArray, .int .i64 (readP l).2]) ∧ Below w.heap.size w w' := by
  have hz32 : (u8s (zeros 32)).length = 32 := by rw [u8s_len, zeros_len]
  have hsz : (strB l).size = l.length := strB_size l
  go_enter Tryd.func18, Tryd.ntmps18
  go_upto_region 1 with fail
  refine wp_world fun w1 hw => ?_
  have b1 : Below w.heap.size w w1 := by rw [hw]; exact bl_alloc (Below.refl _ _) _
  have C1 : Hs w1 w.heap.size (zeros 32) := by rw [hw]; exact hash_new _ _ rfl
  have s1 : w1.heap.size = w.heap.size + 1 := by rw [hw]; simp
  clear hw
  have H1 := Lib.hid (And.intro C1 (And.intro b1 s1))
  clear b1 C1 s1
  by_cases h64 : l.length = 64
  · have hq : ((l.length : Int) != 64) = false := by simp; omega
    have hq2 : (l.length : Int) = 64 := by omega
    go_upto_region 4 with fail
    refine wp_world fun w2 hw => ?_
    have H2 : Hid (Hs w2 w.heap.size (zeros 32) ∧ Hs w2 (w.heap.size + 1) (upto (rdF l) 0) ∧ Below w.heap.size w w2) := by
      rw [hw, upto_zero]; exact Lib.hid ⟨kb_alloc H1.out.1 _, by rw [← H1.out.2.2]; exact hash_new _ _ rfl, bl_alloc H1.out.2.1 _⟩
    clear hw
    rw [H1.out.2.2]
    have HL := Lib.hid h64
    clear hq hq2 h64 H1
    go_wp2_with fail
    go_loopw [5, 6, 7, 12, 13, 14, 15, 16, 17, 18, 19, 20, 21, 22, 23, 24, 25, 26, 27, 28, 29, 30, 31, 32, 33, 34, 35, 36, 37, 38, 39] (fun s5 _ _ _ _ _ _ _ _ _ _ _ _ _ _ _ _ _ _ _ _ _ _ _ _ _ _ _ _ _ _ wr => ∃ i : Nat, i ≤ 32 ∧ s5 = .int .i64 i ∧ Hid (∀ j, j < 2 * i → dgt (bAt l j) < 16) ∧ Hid (Hs wr w.heap.size (zeros 32) ∧ Hs wr (w.heap.size + 1) (upto (rdF l) i) ∧ Below w.heap.size w wr)) (fun s5 _ _ _ _ _ _ _ _ _ _ _ _ _ _ _ _ _ _ _ _ _ _ _ _ _ _ _ _ _ _ _ => 32 - (intOf s5).toNat)
    case atStart => exact ⟨0, by omega, rfl, Lib.hid (fun j hj => by omega), H2⟩
    case round =>
      clear H2
      obtain ⟨i, hi, rfl, HJ, HI⟩ := hrel
      by_cases hi' : i < 32
      · have fi : (i : Int) < 32 := by omega
        have f1 : IntKind.i64.wrap (2 * (i : Int)) = ((2 * i : Nat) : Int) := by rw [IntKind.wrap_i64]; omega
        have f2 : IntKind.i64.wrap (((2 * i : Nat) : Int) + 1) = ((2 * i + 1 : Nat) : Int) := by rw [IntKind.wrap_i64]; omega
        have f3 : ((2 * i : Nat) : Int) < (l.length : Int) := by have := HL.out; omega
        have f4 : ((2 * i + 1 : Nat) : Int) < (l.length : Int) := by have := HL.out; omega
        have g1 : 2 * i < (strB l).size := by rw [hsz, HL.out]; omega
        have g2 : 2 * i + 1 < (strB l).size := by rw [hsz, HL.out]; omega
        have a1 := Lib.hid (show (strB l)[2 * i] = bAt l (2 * i) from bAt_ba (strB l) g1)
        have a2 := Lib.hid (show (strB l)[2 * i + 1] = bAt l (2 * i + 1) from bAt_ba (strB l) g2)
        have hn := Hs.put HI.out.2.1 i (rdF l i)
        rw [upto_next _ hi'] at hn
        have hval := Lib.hid (show dgt (bAt l (2 * i)) < 16 → dgt (bAt l (2 * i + 1)) < 16 → u8v (rdF l i) = .int .u8 ((dgt (bAt l (2 * i)) * 16 + dgt (bAt l (2 * i + 1)) : Nat) : Int) from fun x y => by
          unfold rdF u8v; rw [UInt8.toNat_ofNat', Nat.mod_eq_of_lt (by omega)])
        have HN := Lib.hid hn
        have e0 := (Cs.at HI.out.2.1 i).trans (u8s_get (upto (rdF l) i) i (by rw [upto_len]; exact hi'))
        generalize (upto (rdF l) i)[i]'(by rw [upto_len]; exact hi') = y at e0
        have z0 := kb_frozen HI.out.2.1 i
        have HG := Lib.hid (show (dgt (bAt l (2 * i)) = 16 ∨ dgt (bAt l (2 * i + 1)) = 16) → okT l = false from fun h => by
          have := HL.out
          rcases h with h | h
          · exact ok_no h (by omega)
          · exact ok_no h (by omega))
        have HJ2 := Lib.hid (show dgt (bAt l (2 * i)) < 16 → dgt (bAt l (2 * i + 1)) < 16 → ∀ j, j < 2 * (i + 1) → dgt (bAt l j) < 16 from fun x y j hj => by
          by_cases e1 : j = 2 * i
          · subst e1; exact x
          · by_cases e2 : j = 2 * i + 1
            · subst e2; exact y
            · exact HJ.out j (by omega))
        have u1 := Lib.hid (dgt_le (bAt l (2 * i)))
        have u2 := Lib.hid (dgt_le (bAt l (2 * i + 1)))
        clear hn HJ
        generalize hn2 : 2 * i + 1 = n2 at *
        generalize hn1 : 2 * i = n1 at *
        clear hn1 hn2
        go_upto_region 7 with fail
        refine wp_region_held_drew (S := (fun W : World => True)) (by kernel_rfl) trivial (fun hHeld => ?_)
        refine wpAnyH_take (i := 0) (oi := { dst := some 16, op := _, type := _, pos := _, after := _, guard := _ }) (v := ?_) rfl (by kernel_rfl) (by kernel_rfl) (by kernel_rfl) (fun _ _ _ h => h) (Or.inl ⟨by rfl, ?_⟩) hHeld ?_
        rotate_left
        · (intro w hSw; (try dsimp only at hSw); go_simp); all_goals with_reducible rfl
        try simp only [Act.put, List.setIfInBounds_toArray, List.set_cons_zero, List.set_cons_succ]
        refine wpAnyH_take (i := 1) (oi := { dst := some 17, op := _, type := _, pos := _, after := _, guard := _ }) (v := ?_) rfl (by kernel_rfl) (by kernel_rfl) (by kernel_rfl) (fun _ _ _ h => h) (Or.inl ⟨by rfl, ?_⟩) hHeld ?_
        rotate_left
        · (intro w hSw; (try dsimp only at hSw); go_simp); all_goals with_reducible rfl
        try simp only [Act.put, List.setIfInBounds_toArray, List.set_cons_zero, List.set_cons_succ]
        refine wpAnyH_take (i := 2) (oi := { dst := some 18, op := _, type := _, pos := _, after := _, guard := _ }) (v := ?_) rfl (by kernel_rfl) (by kernel_rfl) (by kernel_rfl) (fun _ _ _ h => h) (Or.inl ⟨by rfl, ?_⟩) hHeld ?_
        rotate_left
        · (intro w hSw; (try dsimp only at hSw); go_simp); all_goals with_reducible rfl
        try simp only [Act.put, List.setIfInBounds_toArray, List.set_cons_zero, List.set_cons_succ]
        refine wpAnyH_take (i := 3) (oi := { dst := some 19, op := _, type := _, pos := _, after := _, guard := _ }) (v := ?_) rfl (by kernel_rfl) (by kernel_rfl) (by kernel_rfl) (fun _ _ _ h => h) (Or.inl ⟨by rfl, ?_⟩) hHeld ?_
        rotate_left
        · (intro w hSw; (try dsimp only at hSw); go_simp); all_goals with_reducible rfl
        try simp only [Act.put, List.setIfInBounds_toArray, List.set_cons_zero, List.set_cons_succ]
        refine wpAnyH_take (i := 5) (oi := { dst := some 21, op := _, type := _, pos := _, after := _, guard := _ }) (v := ?_) rfl (by kernel_rfl) (by kernel_rfl) (by kernel_rfl) (fun _ _ _ h => h) (Or.inl ⟨by rfl, ?_⟩) hHeld ?_
        rotate_left
        · (intro w hSw; (try dsimp only at hSw); go_simp); all_goals with_reducible rfl
        try simp only [Act.put, List.setIfInBounds_toArray, List.set_cons_zero, List.set_cons_succ]
        refine wpAnyH_take (i := 6) (oi := { dst := some 22, op := _, type := _, pos := _, after := _, guard := _ }) (v := ?_) rfl (by kernel_rfl) (by kernel_rfl) (by kernel_rfl) (fun _ _ _ h => h) (Or.inl ⟨by rfl, ?_⟩) hHeld ?_
        rotate_left
        · (intro w hSw; (try dsimp only at hSw); go_simp); all_goals with_reducible rfl
        try simp only [Act.put, List.setIfInBounds_toArray, List.set_cons_zero, List.set_cons_succ]
        refine wpAnyH_take (i := 7) (oi := { dst := some 23, op := _, type := _, pos := _, after := _, guard := _ }) (v := ?_) rfl (by kernel_rfl) (by kernel_rfl) (by kernel_rfl) (fun _ _ _ h => h) (Or.inl ⟨by rfl, ?_⟩) hHeld ?_
        rotate_left
        · (intro w hSw; (try dsimp only at hSw); go_simp); all_goals with_reducible rfl
        try simp only [Act.put, List.setIfInBounds_toArray, List.set_cons_zero, List.set_cons_succ]
        refine wpAnyH_take (i := 8) (oi := { dst := some 24, op := _, type := _, pos := _, after := _, guard := _ }) (v := ?_) rfl (by kernel_rfl) (by kernel_rfl) (by kernel_rfl) (fun _ _ _ h => h) (Or.inl ⟨by rfl, ?_⟩) hHeld ?_
        rotate_left
        · (intro w hSw; (try dsimp only at hSw); go_simp); all_goals with_reducible rfl
        try simp only [Act.put, List.setIfInBounds_toArray, List.set_cons_zero, List.set_cons_succ]
        refine wpAnyH_take (i := 9) (oi := { dst := some 25, op := _, type := _, pos := _, after := _, guard := _ }) (v := ?_) rfl (by kernel_rfl) (by kernel_rfl) (by kernel_rfl) (fun _ _ _ h => h) (Or.inl ⟨by rfl, ?_⟩) hHeld ?_
        rotate_left
        · (intro w hSw; (try dsimp only at hSw); go_simp); all_goals with_reducible rfl
        try simp only [Act.put, List.setIfInBounds_toArray, List.set_cons_zero, List.set_cons_succ]
        rw [a1.out, a2.out]
        refine wpAnyH_ready (rs := [4]) (by kernel_rfl) (by simp) (AllReadyH.cons (o := _) rfl (fun K hK => ?_) AllReadyH.nil)
        go_simp
        refine (rDigit_any _ _).mono ?_
        rintro e w2 ⟨rfl, hw2⟩
        subst hw2
        refine hK.out _ _ trivial (fun hHeld => ?_)
        clear hK K
        refine wpAnyH_ready (rs := [10]) (by kernel_rfl) (by simp) (AllReadyH.cons (o := _) rfl (fun K hK => ?_) AllReadyH.nil)
        go_simp
        refine (rDigit_any _ _).mono ?_
        rintro e w2 ⟨rfl, hw2⟩
        subst hw2
        refine hK.out _ _ trivial (fun hHeld => ?_)
        clear hK K
        refine wpAnyH_take (i := 11) (oi := { dst := some 6, op := _, type := _, pos := _, after := _, guard := _ }) (v := ?_) rfl (by kernel_rfl) (by kernel_rfl) (by kernel_rfl) (fun _ _ _ h => h) (Or.inl ⟨by rfl, ?_⟩) hHeld ?_
        rotate_left
        · (intro w hSw; (try dsimp only at hSw); go_simp); all_goals with_reducible rfl
        try simp only [Act.put, List.setIfInBounds_toArray, List.set_cons_zero, List.set_cons_succ]
        refine wpAnyH_take (i := 12) (oi := { dst := some 7, op := _, type := _, pos := _, after := _, guard := _ }) (v := ?_) rfl (by kernel_rfl) (by kernel_rfl) (by kernel_rfl) (fun _ _ _ h => h) (Or.inl ⟨by rfl, ?_⟩) hHeld ?_
        rotate_left
        · (intro w hSw; (try dsimp only at hSw); go_simp); all_goals with_reducible rfl
        try simp only [Act.put, List.setIfInBounds_toArray, List.set_cons_zero, List.set_cons_succ]
        refine wpAnyH_done (by kernel_rfl) ?_ _
        clear hHeld a1 a2
        generalize dgt (bAt l n1) = d1 at *
        generalize dgt (bAt l n2) = d2 at *
        by_cases q1 : d1 = 16
        · have HB := Lib.hid (HG.out (.inl q1))
          subst q1
          have C2 := HI.out.1.drew
          clear e0 z0 HG HJ2 hval HN
          go_wp2_with (first
            | (with_reducible show wpList _ _ _ (⟨some 33, _, _, _, _, _⟩ :: _) _ _; refine wpList_build_0 rfl rfl ?_)
            | (refine wpList_store_h (op := ⟨none, .store 26 _ _, _, _, _, _⟩) (cs := u8s (zeros 32)) rfl _ _ rfl w.heap.size rfl rfl C2 hz32 hz32 (u8s_one _) ?_; intro w9 c9 k9))
          refine bodyPost_ret (results_h2 rfl _ _ w.heap.size (cs := u8s (zeros 32)) hz32 rfl c9 rfl) rfl ⟨by unfold readP; rw [HB.out]; rfl, ?_⟩
          exact ((Keep.of_below (S := fun _ => False) (bl_drew HI.out.2.2)).trans k9 (fun b hb e => by omega)).below (Nat.le_refl _) (fun b e => e.elim)
        · have p1 : ¬ (d1 : Int) = 16 := by omega
          have p1' : ((d1 : Int) == 16) = false := by simpa using p1
          by_cases q2 : d2 = 16
          · have HB := Lib.hid (HG.out (.inr q2))
            subst q2
            have C2 := HI.out.1.drew
            clear e0 z0 HG HJ2 hval HN
            go_wp2_with (first
              | (with_reducible show wpList _ _ _ (⟨some 33, _, _, _, _, _⟩ :: _) _ _; refine wpList_build_0 rfl rfl ?_)
              | (refine wpList_store_h (op := ⟨none, .store 26 _ _, _, _, _, _⟩) (cs := u8s (zeros 32)) rfl _ _ rfl w.heap.size rfl rfl C2 hz32 hz32 (u8s_one _) ?_; intro w9 c9 k9))
            refine bodyPost_ret (results_h2 rfl _ _ w.heap.size (cs := u8s (zeros 32)) hz32 rfl c9 rfl) rfl ⟨by unfold readP; rw [HB.out]; rfl, ?_⟩
            exact ((Keep.of_below (S := fun _ => False) (bl_drew HI.out.2.2)).trans k9 (fun b hb e => by omega)).below (Nat.le_refl _) (fun b e => e.elim)
          · have p2 : ¬ (d2 : Int) = 16 := by omega
            have p2' : ((d2 : Int) == 16) = false := by simpa using p2
            have r1 : d1 < 16 := by have := u1.out; omega
            have r2 : d2 < 16 := by have := u2.out; omega
            have HJ3 := Lib.hid (HJ2.out r1 r2)
            have HN2 := HN.out
            rw [hval.out r1 r2] at HN2
            have HN3 := Lib.hid HN2
            have f5 : IntKind.u8.wrap ((d1 : Int) * 16) = ((d1 * 16 : Nat) : Int) := by rw [IntKind.wrap_u8]; omega
            have f6 : IntKind.u8.wrap (((d1 * 16 : Nat) : Int) + (d2 : Int)) = ((d1 * 16 + d2 : Nat) : Int) := by rw [IntKind.wrap_u8]; omega
            have k8 := Lib.hid ((Keep.refl (fun b => b = w.heap.size + 1) wr).set (p := ⟨w.heap.size + 1, i, none⟩) (fun _ => rfl) (.int .u8 ((d1 * 16 + d2 : Nat) : Int)))
            clear HG HJ2 hval HN HN2 r1 r2 q1 q2
            go_wp2_with fail
            have e9 : ((d1 : Int) * 16 + (d2 : Int)) % 256 = ((d1 * 16 + d2 : Nat) : Int) := by have := u1.out; have := u2.out; omega
            rw [e9]
            refine ⟨⟨i + 1, by omega, by go_num, HJ3, Lib.hid ⟨(HI.out.1.keep k8.out (by omega)).drew, HN3.out.drew, bl_drew (bl_set (p := ⟨w.heap.size + 1, i, none⟩) (by simp) HI.out.2.2 _)⟩⟩, ?_⟩
            simp [intOf]; omega
      · obtain rfl : i = 32 := by omega
        have HB := Lib.hid (ok_yes HL.out (fun j hj => HJ.out j (by omega)))
        rw [← rdB_eq] at HI
        have hrl := rdB_len l
        generalize hr : rdB l = r at *
        have hr := Lib.hid hr
        have hul : (u8s r).length = 32 := by rw [u8s_len, hrl]
        have hrg := Cs.range HI.out.2.1
        go_wp2_with (first
          | (with_reducible show wpList _ _ _ (⟨some 40, _, _, _, _, _⟩ :: _) _ _; refine wpList_load_h _ rfl rfl (w.heap.size + 1) 0 rfl hrg hul ?_)
          | (refine wpList_store_h (op := ⟨none, .store 26 _ _, _, _, _, _⟩) (cs := u8s r) rfl _ _ rfl w.heap.size rfl rfl HI.out.1 hz32 hul (u8s_one _) ?_; intro w9 c9 k9))
        refine bodyPost_ret (results_h2 rfl _ _ w.heap.size (cs := u8s r) hul rfl c9 rfl) rfl ⟨by unfold readP; rw [HB.out, hr.out]; rfl, ?_⟩
        exact ((Keep.of_below (S := fun _ => False) HI.out.2.2).trans k9 (fun b hb e => by omega)).below (Nat.le_refl _) (fun b e => e.elim)
  · have hq : ((l.length : Int) != 64) = true := by simp; omega
    have hq2 : ¬ (l.length : Int) = 64 := by omega
    have HB := Lib.hid (okT_len h64)
    clear h64
    go_wp2_with (first
      | (with_reducible show wpList _ _ _ (⟨some 11, _, _, _, _, _⟩ :: _) _ _; refine wpList_build_0 rfl rfl ?_)
      | (refine wpList_store_h (op := ⟨none, .store 26 _ _, _, _, _, _⟩) (cs := u8s (zeros 32)) rfl _ _ rfl w.heap.size rfl rfl H1.out.1 hz32 hz32 (u8s_one _) ?_; intro w9 c9 k9))
    refine bodyPost_ret (results_h2 rfl _ _ w.heap.size (cs := u8s (zeros 32)) hz32 rfl c9 rfl) rfl ⟨by unfold readP; rw [HB.out]; rfl, ?_⟩
    exact ((Keep.of_below (S := fun _ => False) H1.out.2.1).trans k9 (fun b hb e => by omega)).below (Nat.le_refl _) (fun b e => e.elim)
end Go.Proofs.YtmfajippoielhaaDoor
