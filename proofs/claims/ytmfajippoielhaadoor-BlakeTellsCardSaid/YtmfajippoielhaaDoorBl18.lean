/- The document's digit, Text, Compare. -/
import Derived.Test.YtmfajippoielhaaDoorBl16
namespace Go.Proofs.YtmfajippoielhaaDoor
open Go.RowKit Go.Proofs.YtmfajippoielhaaDoor.Bl BigFrame
set_option linter.unusedSimpArgs false
set_option linter.unusedVariables false
attribute [local go_sem] cell_alloc_some frozen_alloc_some

theorem rDigit_any (c : UInt8) (w : World) : Calls Tryd.prog 37 #[.int .u8 (c.toNat : Int)] w fun e w' => e = .returned (.int .u8 (dgt c : Int)) ∧ w = w' := by
  have hc := c.toNat_lt
  by_cases h1 : 48 ≤ c.toNat
  · by_cases h2 : c.toNat ≤ 57
    · have hd : dgt c = c.toNat - 48 := by unfold dgt; rw [if_pos ⟨h1, h2⟩]
      rw [hd]
      have e1 : (48 : Int) ≤ (c.toNat : Int) := by omega
      have e2 : (c.toNat : Int) ≤ 57 := by omega
      have e3 : IntKind.u8.wrap ((c.toNat : Int) - 48) = ((c.toNat - 48 : Nat) : Int) := by rw [IntKind.wrap_u8]; omega
      clear hd h1 h2
      go_enter Tryd.func37, Tryd.ntmps37
      go_wp2_with fail
      go_ret
      exact ⟨rfl, rfl⟩
    · have e1 : (48 : Int) ≤ (c.toNat : Int) := by omega
      have e2 : ¬ (c.toNat : Int) ≤ 57 := by omega
      by_cases h3 : 97 ≤ c.toNat
      · have e3 : (97 : Int) ≤ (c.toNat : Int) := by omega
        by_cases h4 : c.toNat ≤ 102
        · have hd : dgt c = c.toNat - 87 := by unfold dgt; rw [if_neg (by omega), if_pos ⟨h3, h4⟩]
          rw [hd]
          have e4 : (c.toNat : Int) ≤ 102 := by omega
          have e5 : IntKind.u8.wrap ((c.toNat : Int) - 97) = ((c.toNat - 97 : Nat) : Int) := by rw [IntKind.wrap_u8]; omega
          have e6 : IntKind.u8.wrap (((c.toNat - 97 : Nat) : Int) + 10) = ((c.toNat - 87 : Nat) : Int) := by rw [IntKind.wrap_u8]; omega
          clear hd h1 h2 h3 h4
          go_enter Tryd.func37, Tryd.ntmps37
          go_wp2_with fail
          go_ret
          exact ⟨rfl, rfl⟩
        · have hd : dgt c = 16 := by unfold dgt; rw [if_neg (by omega), if_neg (by omega)]
          rw [hd]
          have e4 : ¬ (c.toNat : Int) ≤ 102 := by omega
          clear hd h1 h2 h3 h4
          go_enter Tryd.func37, Tryd.ntmps37
          go_wp2_with fail
          go_ret
          exact ⟨rfl, rfl⟩
      · have hd : dgt c = 16 := by unfold dgt; rw [if_neg (by omega), if_neg (by omega)]
        rw [hd]
        have e3 : ¬ (97 : Int) ≤ (c.toNat : Int) := by omega
        clear hd h1 h2 h3
        go_enter Tryd.func37, Tryd.ntmps37
        go_wp2_with fail
        go_ret
        exact ⟨rfl, rfl⟩
  · have hd : dgt c = 16 := by unfold dgt; rw [if_neg (by omega), if_neg (by omega)]
    rw [hd]
    have e1 : ¬ (48 : Int) ≤ (c.toNat : Int) := by omega
    have e3 : ¬ (97 : Int) ≤ (c.toNat : Int) := by omega
    clear hd h1
    go_enter Tryd.func37, Tryd.ntmps37
    go_wp2_with fail
    go_ret
    exact ⟨rfl, rfl⟩

set_option maxRecDepth 100000 in
set_option maxHeartbeats 1000000 in
theorem rText_any {w : World} {l : List UInt8} (hl : l.length = 32) :
    Calls Tryd.prog 20 #[.agg (u8s l).toArray] w fun e w' => e = .returned (.string (strB (textB l))) ∧ Below w.heap.size w w' := by
  go_enter Tryd.func20, Tryd.ntmps20
  go_upto_region 2 with fail
  refine wp_world fun w1 hw => ?_
  have b1 : Below w.heap.size w w1 := by rw [hw]; exact bl_alloc (Below.refl _ _) _
  have C1 : Hs w1 w.heap.size l := by rw [hw]; exact Cs.new rfl _
  clear hw
  have H1 := Lib.hid (And.intro C1 b1)
  clear b1 C1
  go_wp2_with fail
  go_loopw [3, 4, 5, 6, 7, 8, 9, 10, 11, 12, 13, 14, 15, 16, 17, 18, 19, 20, 21, 22] (fun s3 s4 _ _ _ _ _ _ _ _ _ _ _ _ _ _ _ _ _ _ wr => ∃ i : Nat, i ≤ 32 ∧ s4 = .int .i64 i ∧ s3 = .string (strB (textB (l.take i))) ∧ Hid (Hs wr w.heap.size l ∧ Below w.heap.size w wr)) (fun _ s4 _ _ _ _ _ _ _ _ _ _ _ _ _ _ _ _ _ _ _ => 32 - (intOf s4).toNat)
  case atStart => exact ⟨0, by omega, rfl, rfl, H1⟩
  case round =>
    clear H1
    obtain ⟨i, hi, rfl, rfl, HI⟩ := hrel
    by_cases hi' : i < 32
    · have HT := Lib.hid (text_next l (i := i) (by omega))
      have htl : Hid ((textB (l.take i)).length = 2 * i) := Lib.hid (by rw [text_len, List.length_take]; omega)
      generalize textB (l.take i) = T at *
      have d0 : wr.drew.cell? ⟨w.heap.size, i, none⟩ = _ := HI.out.1.at (i := i) (by omega)
      generalize bAt l i = c at *
      have hc := c.toNat_lt
      have f1 : Int.tdiv (c.toNat : Int) 16 = ((c.toNat / 16 : Nat) : Int) := by rw [Int.tdiv_eq_ediv_of_nonneg (by omega)]; omega
      have f2 : Int.tmod (c.toNat : Int) 16 = ((c.toNat % 16 : Nat) : Int) := by rw [Int.tmod_eq_emod_of_nonneg (by omega)]; omega
      have l1 : c.toNat / 16 < 16 := by omega
      have l2 : c.toNat % 16 < 16 := by omega
      generalize hn1 : c.toNat / 16 = n1 at f1 l1 HT
      generalize hn2 : c.toNat % 16 = n2 at f2 l2 HT
      have f3 : IntKind.u8.wrap (n1 : Int) = (n1 : Int) := by rw [IntKind.wrap_u8]; omega
      have f4 : IntKind.u8.wrap (n2 : Int) = (n2 : Int) := by rw [IntKind.wrap_u8]; omega
      have g1 : (n1 : Int) < 16 := by omega
      have g2 : (n2 : Int) < 16 := by omega
      have fi : (i : Int) < 32 := by omega
      clear hn1 hn2
      go_upto_region 5 with fail
      refine wp_region_held_drew (S := (fun W : World => W.cell? ⟨w.heap.size, i, none⟩ = some (.int .u8 (c.toNat : Int)))) (by kernel_rfl) d0 (fun hHeld => ?_)
      refine wpAnyH_take (i := 0) (oi := { dst := some 9, op := _, type := _, pos := _, after := _, guard := _ }) (v := ?_) rfl (by kernel_rfl) (by kernel_rfl) (by kernel_rfl) (fun _ _ _ h => h) (Or.inl ⟨by rfl, ?_⟩) hHeld ?_
      rotate_left
      · (intro w hSw; (try dsimp only at hSw); go_simp); all_goals with_reducible rfl
      try simp only [Act.put, List.setIfInBounds_toArray, List.set_cons_zero, List.set_cons_succ]
      refine wpAnyH_take (i := 1) (oi := { dst := some 10, op := _, type := _, pos := _, after := _, guard := _ }) (v := ?_) rfl (by kernel_rfl) (by kernel_rfl) (by kernel_rfl) (fun _ _ _ h => h) (Or.inl ⟨by rfl, ?_⟩) hHeld ?_
      rotate_left
      · (intro w hSw; (try dsimp only at hSw); go_simp); all_goals with_reducible rfl
      try simp only [Act.put, List.setIfInBounds_toArray, List.set_cons_zero, List.set_cons_succ]
      refine wpAnyH_take (i := 2) (oi := { dst := some 11, op := _, type := _, pos := _, after := _, guard := _ }) (v := ?_) rfl (by kernel_rfl) (by kernel_rfl) (by kernel_rfl) (fun _ _ _ h => h) (Or.inl ⟨by rfl, ?_⟩) hHeld ?_
      rotate_left
      · (intro w hSw; (try dsimp only at hSw); go_simp); all_goals with_reducible rfl
      try simp only [Act.put, List.setIfInBounds_toArray, List.set_cons_zero, List.set_cons_succ]
      refine wpAnyH_take (i := 3) (oi := { dst := some 12, op := _, type := _, pos := _, after := _, guard := _ }) (v := ?_) rfl (by kernel_rfl) (by kernel_rfl) (by kernel_rfl) (fun _ _ _ h => h) (Or.inl ⟨by rfl, ?_⟩) hHeld ?_
      rotate_left
      · (intro w hSw; (try dsimp only at hSw); go_simp); all_goals with_reducible rfl
      try simp only [Act.put, List.setIfInBounds_toArray, List.set_cons_zero, List.set_cons_succ]
      refine wpAnyH_take (i := 4) (oi := { dst := some 13, op := _, type := _, pos := _, after := _, guard := _ }) (v := ?_) rfl (by kernel_rfl) (by kernel_rfl) (by kernel_rfl) (fun _ _ _ h => h) (Or.inl ⟨by rfl, ?_⟩) hHeld ?_
      rotate_left
      · (intro w hSw; (try dsimp only at hSw); go_simp); all_goals with_reducible rfl
      try simp only [Act.put, List.setIfInBounds_toArray, List.set_cons_zero, List.set_cons_succ]
      refine wpAnyH_take (i := 5) (oi := { dst := some 14, op := _, type := _, pos := _, after := _, guard := _ }) (v := ?_) rfl (by kernel_rfl) (by kernel_rfl) (by kernel_rfl) (fun _ _ _ h => h) (Or.inl ⟨by rfl, ?_⟩) hHeld ?_
      rotate_left
      · (intro w hSw; (try dsimp only at hSw); go_simp); all_goals with_reducible rfl
      try simp only [Act.put, List.setIfInBounds_toArray, List.set_cons_zero, List.set_cons_succ]
      rw [hex_at n1 l1]
      refine wpAnyH_take (i := 6) (oi := { dst := some 15, op := _, type := _, pos := _, after := _, guard := _ }) (v := ?_) rfl (by kernel_rfl) (by kernel_rfl) (by kernel_rfl) (fun _ _ _ h => h) (Or.inl ⟨by rfl, ?_⟩) hHeld ?_
      rotate_left
      · (intro w hSw; (try dsimp only at hSw); go_simp); all_goals with_reducible rfl
      try simp only [Act.put, List.setIfInBounds_toArray, List.set_cons_zero, List.set_cons_succ]
      refine wpAnyH_take (i := 7) (oi := { dst := some 16, op := _, type := _, pos := _, after := _, guard := _ }) (v := ?_) rfl (by kernel_rfl) (by kernel_rfl) (by kernel_rfl) (fun _ _ _ h => h) (Or.inl ⟨by rfl, ?_⟩) hHeld ?_
      rotate_left
      · (intro w hSw; (try dsimp only at hSw); go_simp); all_goals with_reducible rfl
      try simp only [Act.put, List.setIfInBounds_toArray, List.set_cons_zero, List.set_cons_succ]
      refine wpAnyH_take (i := 8) (oi := { dst := some 17, op := _, type := _, pos := _, after := _, guard := _ }) (v := ?_) rfl (by kernel_rfl) (by kernel_rfl) (by kernel_rfl) (fun _ _ _ h => h) (Or.inl ⟨by rfl, ?_⟩) hHeld ?_
      rotate_left
      · (intro w hSw; (try dsimp only at hSw); go_simp); all_goals with_reducible rfl
      try simp only [Act.put, List.setIfInBounds_toArray, List.set_cons_zero, List.set_cons_succ]
      refine wpAnyH_take (i := 9) (oi := { dst := some 18, op := _, type := _, pos := _, after := _, guard := _ }) (v := ?_) rfl (by kernel_rfl) (by kernel_rfl) (by kernel_rfl) (fun _ _ _ h => h) (Or.inl ⟨by rfl, ?_⟩) hHeld ?_
      rotate_left
      · (intro w hSw; (try dsimp only at hSw); go_simp); all_goals with_reducible rfl
      try simp only [Act.put, List.setIfInBounds_toArray, List.set_cons_zero, List.set_cons_succ]
      refine wpAnyH_take (i := 10) (oi := { dst := some 19, op := _, type := _, pos := _, after := _, guard := _ }) (v := ?_) rfl (by kernel_rfl) (by kernel_rfl) (by kernel_rfl) (fun _ _ _ h => h) (Or.inl ⟨by rfl, ?_⟩) hHeld ?_
      rotate_left
      · (intro w hSw; (try dsimp only at hSw); go_simp); all_goals with_reducible rfl
      try simp only [Act.put, List.setIfInBounds_toArray, List.set_cons_zero, List.set_cons_succ]
      rw [hex_at n2 l2]
      refine wpAnyH_ready (rs := [11]) (by kernel_rfl) (by simp) (AllReadyH.cons (o := _) rfl (fun K hK => ?_) AllReadyH.nil)
      go_simp
      have HB := Lib.hid (And.intro (HI.out.1.drew.below (bl_alloc (Below.refl _ _) (.cells #[.int .u8 ((dig n1).toNat : Int), .int .u8 ((dig n2).toNat : Int)] 5))) (bl_alloc (bl_drew HI.out.2) (.cells #[.int .u8 ((dig n1).toNat : Int), .int .u8 ((dig n2).toNat : Int)] 5)))
      have hLit : BytesOf (wr.drew.alloc (.cells #[.int .u8 ((dig n1).toNat : Int), .int .u8 ((dig n2).toNat : Int)] 5)) (.slice (some ⟨wr.heap.size, 0, none⟩) 2 2) [dig n1, dig n2] := RowOf.lit (cap := 2) (cs := #[.int .u8 ((dig n1).toNat : Int), .int .u8 ((dig n2).toNat : Int)]) (kb_new rfl _) rfl
      have hcv : (convert 22 9 (.slice (some ⟨wr.heap.size, 0, none⟩) 2 2)).run Tryd.prog (wr.alloc (.cells #[.int .u8 ((dig n1).toNat : Int), .int .u8 ((dig n2).toNat : Int)] 5)).drew = .ok (.string (strB [dig n1, dig n2])) (wr.alloc (.cells #[.int .u8 ((dig n1).toNat : Int), .int .u8 ((dig n2).toNat : Int)] 5)).drew := run_conv hLit
      have d1 := (kb_cell (kb_alloc HI.out.1.drew (.cells #[.int .u8 ((dig n1).toNat : Int), .int .u8 ((dig n2).toNat : Int)] 5)) i).trans ((kb_cell HI.out.1.drew i).symm.trans d0)
      clear HI hLit
      refine hK.out _ _ d1 (fun hHeld => ?_)
      clear hK K
      refine wpAnyH_ready (rs := [12]) (by kernel_rfl) (by simp) (AllReadyH.cons (o := _) rfl (fun K hK => ?_) AllReadyH.nil)
      go_simp
      refine hK.out _ _ d1 (fun hHeld => ?_)
      clear hK K hcv
      have hsz : ¬ 9223372036854775807 < (strB T).size + (strB [dig n1, dig n2]).size := by rw [strB_size, strB_size, htl.out]; simp; omega
      have hcat := Lib.hid (show strB T ++ strB [dig n1, dig n2] = strB (textB (l.take (i + 1))) by rw [strB_append, HT.out])
      refine wpAnyH_take (i := 13) (oi := { dst := some 22, op := _, type := _, pos := _, after := _, guard := _ }) (v := ?_) rfl (by kernel_rfl) (by kernel_rfl) (by kernel_rfl) (fun _ _ _ h => h) (Or.inl ⟨by rfl, ?_⟩) hHeld ?_
      rotate_left
      · (intro w hSw; (try dsimp only at hSw); go_simp); all_goals with_reducible rfl
      try simp only [Act.put, List.setIfInBounds_toArray, List.set_cons_zero, List.set_cons_succ]
      rw [hcat.out]
      refine wpAnyH_take (i := 14) (oi := { dst := some 3, op := _, type := _, pos := _, after := _, guard := _ }) (v := ?_) rfl (by kernel_rfl) (by kernel_rfl) (by kernel_rfl) (fun _ _ _ h => h) (Or.inl ⟨by rfl, ?_⟩) hHeld ?_
      rotate_left
      · (intro w hSw; (try dsimp only at hSw); go_simp); all_goals with_reducible rfl
      try simp only [Act.put, List.setIfInBounds_toArray, List.set_cons_zero, List.set_cons_succ]
      refine wpAnyH_done (by kernel_rfl) ?_ _
      clear hHeld hsz d0 d1
      go_wp2_with fail
      go_roundw
      case rel => exact ⟨i + 1, by omega, by go_num, rfl, HB⟩
      case measure => simp [intOf]; omega
    · obtain rfl : i = 32 := by omega
      rw [List.take_of_length_le (by omega)]
      go_wp2_with fail
      go_ret
      exact ⟨rfl, HI.out.2⟩

set_option maxRecDepth 100000 in
set_option maxHeartbeats 1000000 in
theorem rCompare_any {w : World} {a b : List UInt8} (ha : a.length = 32) (hb : b.length = 32) :
    Calls Tryd.prog 22 #[.agg (u8s a).toArray, .agg (u8s b).toArray] w fun e w' => e = .returned (.int .i64 (cmpL a b)) ∧ Below w.heap.size w w' := by
  go_enter Tryd.func22, Tryd.ntmps22
  go_upto_region 1 with fail
  refine wp_world fun w1 hw => ?_
  have H1 : Hid (Hs w1 w.heap.size a ∧ Hs w1 (w.heap.size + 1) b ∧ Below w.heap.size w w1) := by
    rw [hw]; exact Lib.hid ⟨kb_alloc (Cs.new rfl _) _, Cs.new (by simp) _, bl_alloc (bl_alloc (Below.refl _ _) _) _⟩
  clear hw
  go_wp2_with fail
  go_loopw [5, 6, 7, 8, 9, 10, 11, 12, 13, 14, 15, 16, 17, 18, 19, 20, 21, 22, 23, 24, 25] (fun s5 _ _ _ _ _ _ _ _ _ _ _ _ _ _ _ _ _ _ _ _ wr => ∃ i : Nat, i ≤ 32 ∧ s5 = .int .i64 i ∧ Hid (∀ j, j < i → bAt a j = bAt b j) ∧ Hid (Hs wr w.heap.size a ∧ Hs wr (w.heap.size + 1) b ∧ Below w.heap.size w wr)) (fun s5 _ _ _ _ _ _ _ _ _ _ _ _ _ _ _ _ _ _ _ _ _ => 32 - (intOf s5).toNat)
  case atStart => exact ⟨0, by omega, rfl, Lib.hid (fun j hj => by omega), H1⟩
  case round =>
    clear H1
    obtain ⟨i, hi, rfl, HJ, HI⟩ := hrel
    by_cases hi' : i < 32
    · have d0 := HI.out.1.at (i := i) (by omega)
      have d1 := HI.out.2.1.at (i := i) (by omega)
      have fi : (i : Int) < 32 := by omega
      have hat := Lib.hid (fun hne => cmpL_at a b i (by omega) (by omega) HJ.out hne)
      have hnx := Lib.hid (show bAt a i = bAt b i → ∀ j, j < i + 1 → bAt a j = bAt b j from fun h j hj => by
        by_cases e : j = i
        · subst e; exact h
        · exact HJ.out j (by omega))
      generalize bAt a i = x at *
      generalize bAt b i = y at *
      have exy : x < y ↔ x.toNat < y.toNat := UInt8.lt_iff_toNat_lt
      by_cases h1 : x.toNat < y.toNat
      · have hd := Lib.hid (show cmpL a b = -1 by rw [hat.out (fun e => by subst e; omega), if_pos (exy.2 h1)])
        have e1 : (x.toNat : Int) < (y.toNat : Int) := by omega
        clear hat hnx exy h1
        go_wp2_with fail
        go_region
        go_wp2_with fail
        go_ret
        exact ⟨by rw [hd.out]; rfl, bl_drew HI.out.2.2⟩
      · have e1 : ¬ (x.toNat : Int) < (y.toNat : Int) := by omega
        by_cases h2 : y.toNat < x.toNat
        · have hd := Lib.hid (show cmpL a b = 1 by rw [hat.out (fun e => by subst e; omega), if_neg (fun h => h1 (exy.1 h))])
          have e2 : (y.toNat : Int) < (x.toNat : Int) := by omega
          clear hat hnx exy h1 h2
          go_wp2_with fail
          go_region
          go_wp2_with fail
          go_region
          go_wp2_with fail
          go_ret
          exact ⟨by rw [hd.out]; rfl, bl_drew (bl_drew HI.out.2.2)⟩
        · have e2 : ¬ (y.toNat : Int) < (x.toNat : Int) := by omega
          have HJ2 := Lib.hid (hnx.out (by rw [← UInt8.toNat_inj]; omega))
          clear hat hnx exy h1 h2
          go_wp2_with fail
          go_region
          go_wp2_with fail
          go_region
          go_wp2_with fail
          go_roundw
          case rel => exact ⟨i + 1, by omega, by go_num, HJ2, Lib.hid ⟨HI.out.1.drew.drew, HI.out.2.1.drew.drew, bl_drew (bl_drew HI.out.2.2)⟩⟩
          case measure => simp [intOf]; omega
    · obtain rfl : i = 32 := by omega
      have hs := Lib.hid (show cmpL a b = 0 by rw [cmpL_zero]; exact same_at (by omega) (fun j hj => HJ.out j (by omega)))
      go_wp2_with fail
      go_ret
      exact ⟨by rw [hs.out]; rfl, HI.out.2.2⟩
end Go.Proofs.YtmfajippoielhaaDoor
