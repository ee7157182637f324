/- BlakePieces' walk. -/
import Derived.Test.YtmfajippoielhaaDoorBl21
namespace Go.Proofs.YtmfajippoielhaaDoor
open Go.RowKit Go.Proofs.YtmfajippoielhaaDoor.Bl BigFrame
set_option linter.unusedSimpArgs false
set_option linter.unusedVariables false
attribute [local go_sem] cell_alloc_some frozen_alloc_some

theorem take_more (b : List UInt8) (k n : Nat) : b.take k ++ (b.drop k).take n = b.take (k + n) := by rw [List.take_add]
/-- Rows of older blocks stay. -/
theorem keep_low {w w' : World} {v : Value} {l : List UInt8} {S : Nat → Prop} {B : Nat} (h : BytesOf w v l) (hl : ∀ k, v.ownBlock = some k → 0 < l.length → k < B) (k : Keep S w w') (hS : ∀ k, k < B → ¬ S k) : BytesOf w' v l := by
  obtain ⟨A, cap, rfl, h1, hc⟩ := h
  refine ⟨A, cap, rfl, h1, fun h0 => ?_⟩
  obtain ⟨g, off, rfl, hg, hh⟩ := hc h0
  have hb : w'.heap[g]? = w.heap[g]? := k.block g hg (hS g (hl g rfl h0))
  exact ⟨g, off, rfl, Nat.lt_of_lt_of_le hg k.size, fun j u hu => (World.cell?_of_block hb).trans (hh j u hu)⟩
theorem int_low {w w' : World} {A : Option Addr} {zs : List Int} {S : Nat → Prop} {B : Nat} (h : IntRow w A zs) (hl : ∀ g, (∃ o, A = some ⟨g, o, none⟩) → 0 < zs.length → g < B) (k : Keep S w w') (hS : ∀ k, k < B → ¬ S k) : IntRow w' A zs := fun h0 => by
  obtain ⟨g, off, rfl, hg, hh⟩ := h h0
  have hb : w'.heap[g]? = w.heap[g]? := k.block g hg (hS g (hl g ⟨off, rfl⟩ h0))
  exact ⟨g, off, rfl, Nat.lt_of_lt_of_le hg k.size, fun j u hu => (World.cell?_of_block hb).trans (hh j u hu)⟩

set_option maxRecDepth 100000 in
set_option maxHeartbeats 2000000 in
theorem BlakePieces_walk {w : World} {A B : Option Addr} {cap cap2 : Nat} {b : List UInt8} {zs : List Int} (hb : BytesOf w (.slice A b.length cap) b) (hcap : b.length ≤ cap) (hz : IntRow w B zs) :
    Calls Tryd.prog 7 #[.slice A b.length cap, .slice B zs.length cap2] w fun e w' => e = .returned (.bool true) ∧ Below w.heap.size w w' := by
  have HB0 : Hid ((∀ k, (Value.slice A b.length cap).ownBlock = some k → 0 < b.length → k < w.heap.size) ∧ ∀ g, (∃ o, B = some ⟨g, o, none⟩) → 0 < zs.length → g < w.heap.size) := by
    refine Lib.hid ⟨fun k hk h0 => ?_, fun g hg h0 => ?_⟩
    · obtain ⟨A', c', e, _, hc⟩ := hb
      injection e with e1 e2 e3
      obtain ⟨g, off, e', hg, _⟩ := hc h0
      rw [e1, e'] at hk
      simp [Value.ownBlock] at hk
      omega
    · obtain ⟨o, rfl⟩ := hg
      obtain ⟨g', off, e', hg', _⟩ := hz h0
      injection e' with e'
      injection e' with e' _
      omega
  have HIN := Lib.hid (And.intro hb hz)
  clear hb hz
  go_enter Tryd.func7, Tryd.ntmps7
  go_wp2_with fail
  refine (BlakeKnown_any _).mono ?_
  rintro e w1 ⟨rfl, b1⟩
  have H1 := Lib.hid (And.intro b1 (And.intro (HIN.out.1.below b1) (HIN.out.2.below b1)))
  clear b1 HIN
  by_cases hg : b.length ≤ 400 ∧ zs.length ≤ 12
  · obtain ⟨g1, g2⟩ := hg
    have g1' : ¬ 400 < b.length := by omega
    have g2' : ¬ 12 < zs.length := by omega
    have HG := Lib.hid (And.intro g1 g2)
    clear g1 g2
    go_wp2_with fail
    refine (New_any _).mono ?_
    rintro e w2 ⟨p, c, rfl, t2, hp, hc, b2⟩
    have HW0 : Hid (w.heap.size ≤ w1.heap.size) := Lib.hid H1.out.1.size
    have HPC : Hid (w.heap.size ≤ p ∧ w.heap.size ≤ c) := Lib.hid ⟨Nat.le_trans HW0.out hp, Nat.le_trans HW0.out hc⟩
    have H2 : Hid (St w2 p c (stOf (b.take 0)) (.slice none 0 0) ∧ Below w.heap.size w w2 ∧ (∀ k, (Value.slice none 0 0).ownBlock = some k → w.heap.size ≤ k) ∧ BytesOf w2 (.slice A b.length cap) b ∧ IntRow w2 B zs) :=
      Lib.hid ⟨New_st t2, bl_then H1.out.1 b2, fun k hk => by simp [Value.ownBlock] at hk, H1.out.2.1.below b2, H1.out.2.2.below b2⟩
    clear t2 b2 hp hc H1 HW0
    go_wp2_with fail
    go_loopw [7, 8, 9, 10, 11, 12, 13, 14, 15, 29, 30, 31, 32, 33, 34, 35, 36, 37, 38, 39, 40, 41, 42, 43, 44, 45, 46, 47, 48, 49, 50, 51, 52, 53, 54, 55, 56, 57, 58, 59, 60, 61, 62, 63, 64, 65, 66, 67, 68, 69, 70, 71, 72, 73, 74, 75, 76, 77, 78, 79, 80, 81, 82, 83, 84, 85, 86, 87, 88, 89, 90, 91, 92, 93, 94, 95, 96, 97, 98, 99, 100, 101, 102, 103] (fun s7 s8 _ _ _ _ _ _ _ _ _ _ _ _ _ _ _ _ _ _ _ _ _ _ _ _ _ _ _ _ _ _ _ _ _ _ _ _ _ _ _ _ _ _ _ _ _ _ _ _ _ _ _ _ _ _ _ _ _ _ _ _ _ _ _ _ _ _ _ _ _ _ _ _ _ _ _ _ _ _ _ _ _ _ wr => ∃ (i at_ : Nat) (v : Value), i ≤ zs.length + 1 ∧ at_ ≤ b.length ∧ s8 = .int .i64 i ∧ s7 = .int .i64 at_ ∧ Hid (i = zs.length + 1 → at_ = b.length) ∧ Hid (St wr p c (stOf (b.take at_)) v ∧ Below w.heap.size w wr ∧ (∀ k, v.ownBlock = some k → w.heap.size ≤ k) ∧ BytesOf wr (.slice A b.length cap) b ∧ IntRow wr B zs)) (fun _ s8 _ _ _ _ _ _ _ _ _ _ _ _ _ _ _ _ _ _ _ _ _ _ _ _ _ _ _ _ _ _ _ _ _ _ _ _ _ _ _ _ _ _ _ _ _ _ _ _ _ _ _ _ _ _ _ _ _ _ _ _ _ _ _ _ _ _ _ _ _ _ _ _ _ _ _ _ _ _ _ _ _ _ _ => zs.length + 1 - (intOf s8).toNat)
    case atStart => exact ⟨0, 0, _, by omega, by omega, rfl, rfl, Lib.hid (fun h => by omega), H2⟩
    case round =>
      clear H2
      obtain ⟨i, at_, v, hi, hat, rfl, rfl, HE0, HI⟩ := hrel
      have HW0 : Hid (w.heap.size ≤ wr.heap.size) := Lib.hid HI.out.2.1.size
      by_cases hi' : i ≤ zs.length
      · have hle : (i : Int) ≤ (zs.length : Int) := by omega
        have f1 : IntKind.i64.wrap ((b.length : Int) - (at_ : Int)) = ((b.length - at_ : Nat) : Int) := by have := HG.out; rw [IntKind.wrap_i64]; omega
        have hb4 : b.length ≤ 400 := HG.out.1
        have hz12 : zs.length ≤ 12 := HG.out.2
        by_cases hi2 : i < zs.length
        · have hlt : (i : Int) < (zs.length : Int) := by omega
          obtain ⟨gb, ob, hB, hgb, hcell⟩ := HI.out.2.2.2.2 (by omega)
          have c0 := hcell i _ (List.getElem?_eq_getElem hi2)
          clear hcell
          subst hB
          generalize zs[i] = z at c0
          have hpk := pick_bd (x := z) (n := ((b.length - at_ : Nat) : Int) + 1) (by omega)
          have f2 : IntKind.i64.wrap (((b.length - at_ : Nat) : Int) + 1) = ((b.length - at_ : Nat) : Int) + 1 := by rw [IntKind.wrap_i64]; omega
          generalize hm : b.length - at_ = m at *
          go_wp2_with fail
          refine (Pick_any _ _ _ (by omega)).mono ?_
          rintro e w4 ⟨rfl, hw4⟩
          subst hw4
          obtain ⟨n, hn⟩ := Int.eq_ofNat_of_zero_le hpk.1
          rw [hn]
          have hnm : n ≤ m := by have := hpk.2; omega
          have f3 : IntKind.i64.wrap ((at_ : Int) + (n : Int)) = ((at_ + n : Nat) : Int) := by rw [IntKind.wrap_i64]; omega
          have HEND : Hid (i + 1 = zs.length + 1 → at_ + n = b.length) := Lib.hid (fun h => by omega)
          clear hpk hn f1 f2 c0
          go_wp2_with (first
            | (with_reducible show wpList _ _ _ (⟨some 55, _, _, _, _, _⟩ :: _) _ _; refine wpList_cut rfl _ _ _ rfl (lo := at_) (hi := at_ + n) rfl rfl rfl (by omega) (by omega) ?_))
          have hcut := cut_bytes (HI.out.2.2.2.1) hcap (lo := at_) (hi := at_ + n) (by omega) (by omega)
          rw [show at_ + n - at_ = n by omega] at hcut
          have hpl : ((b.drop at_).take n).length = n := by rw [List.length_take, List.length_drop]; omega
          have hpart := Lib.hid (take_more b at_ n)
          refine (CopyBytes_any hcut (by omega)).mono ?_
          rintro e w5 ⟨v5, rfl, o5, b5⟩
          generalize (b.drop at_).take n = P at *
          obtain ⟨A5, c5, hv5⟩ := owns_slice0 o5
          rw [hpl] at o5 hv5
          subst hv5
          have B5 := Lib.hid (RowOf.of_own o5)
          have H5 := Lib.hid (And.intro (HI.out.1.below b5) (And.intro (bl_then HI.out.2.1 b5) (And.intro HI.out.2.2.1 (And.intro (HI.out.2.2.2.1.below b5) (HI.out.2.2.2.2.below b5)))))
          have HO5 := Lib.hid (And.intro o5 (And.intro (fun k hk => HI.out.1.ob.lt k hk) (show p < wr.heap.size ∧ c < wr.heap.size from ⟨kb_lt HI.out.1.st.st, kb_lt HI.out.1.st.ct⟩)))
          clear o5 b5 hcut HI
          go_wp2_with fail
          have hbb : BytesOf w5 (.slice A5 n c5) P := by have := B5.out; rw [← hpl] at this ⊢; exact this
          refine (Write_more H5.out.1 hbb (by rw [List.length_take, hpl]; omega)).mono ?_
          rintro e w6 ⟨rfl, v6, W6⟩
          rw [hpart.out] at W6
          have B6 := W6.below H5.out.2.1 HPC.out.1 HPC.out.2 H5.out.2.2.1
          have hn5 : ∀ k, (Value.slice A5 n c5).ownBlock = some k → wr.heap.size ≤ k ∧ k < w5.heap.size := fun k hk => HO5.out.1.lt k hk
          have hsep : ∀ k, (Value.slice A5 n c5).ownBlock = some k → ¬ (k = p ∨ k = c ∨ v.ownBlock = some k) := fun k hk e => by
            have h1 := hn5 k hk
            have h2 := HO5.out.2.2
            rcases e with e | e | e
            · omega
            · omega
            · have := HO5.out.2.1 k e; omega
          have hsep6 : ∀ k, v6.ownBlock = some k → ¬ (Value.slice A5 n c5).ownBlock = some k := fun k hk e => by
            rcases W6.own k hk with h | h
            · exact hsep k e (.inr (.inr h))
            · have := hn5 k e; omega
          have o6 := W6.k.row HO5.out.1 hsep
          have H6 := Lib.hid (And.intro W6.st (And.intro B6.1 (And.intro B6.2 (And.intro o6 (And.intro hsep6 (And.intro hsep hn5))))))
          have hlow : ∀ k, k < w.heap.size → ¬ (k = p ∨ k = c ∨ v.ownBlock = some k) := fun k hk e => by
            have h2 := HPC.out
            rcases e with e | e | e
            · omega
            · omega
            · have := H5.out.2.2.1 k e; omega
          have R6 := Lib.hid (And.intro (keep_low H5.out.2.2.2.1 (fun k hk => HB0.out.1 k hk) W6.k hlow) (int_low H5.out.2.2.2.2 (fun k hk => HB0.out.2 k hk) W6.k hlow))
          clear W6 B6 o6 hsep hsep6 hlow hbb HO5 H5 B5 hn5
          go_wp2_with fail
          refine (OverBytes_own (l := P) (by rw [← hpl] at H6 ⊢; exact H6.out.2.2.2.1) (by omega)).mono ?_
          rintro e w7 ⟨⟨u7, rfl⟩, k7⟩
          have hlow7 : ∀ k, k < w.heap.size → ¬ (Value.slice A5 n c5).ownBlock = some k := fun k hk e => by
            have h1 := (H6.out.2.2.2.2.2.2 k e).1
            have h2 := HW0.out
            omega
          have S7 := H6.out.1.keep k7 (fun e => H6.out.2.2.2.2.2.1 p e (.inl rfl)) (fun e => H6.out.2.2.2.2.2.1 c e (.inr (.inl rfl))) (fun k hk e => H6.out.2.2.2.2.1 k hk e)
          have H7 := Lib.hid (And.intro S7 (And.intro (((Keep.of_below (S := fun _ => False) H6.out.2.1).trans k7 (fun k hk e => hlow7 k hk e)).below (Nat.le_refl _) (fun b e => e.elim)) (And.intro H6.out.2.2.1 (And.intro (keep_low R6.out.1 (fun k hk => HB0.out.1 k hk) k7 hlow7) (int_low R6.out.2 (fun k hk => HB0.out.2 k hk) k7 hlow7)))))
          clear S7 k7 hlow7 H6 R6
          go_wp2_with fail
          have hxl : (b.take (at_ + n)).length = at_ + n := by rw [List.length_take]; omega
          refine (Sum_more H7.out.1 (by omega)).mono ?_
          rintro e w8 ⟨rfl, b8⟩
          have H8 := Lib.hid (And.intro (H7.out.1.below b8) (And.intro (bl_then H7.out.2.1 b8) (And.intro H7.out.2.2.1 (And.intro (H7.out.2.2.2.1.below b8) (H7.out.2.2.2.2.below b8)))))
          clear b8 H7
          have hsl := sumB_len (b.take (at_ + n))
          generalize hE : sumB (b.take (at_ + n)) = hs at *
          have HE := Lib.hid hE
          clear hE
          have hul : (u8s hs).length = 32 := by rw [u8s_len, hsl]
          go_wp2_with (first
            | (refine wpList_stnew_h (op := ⟨none, .store 26 (.tmp 12) _, _, _, _, _⟩) (cs := u8s hs) rfl _ _ rfl rfl rfl rfl hul (u8s_one _) ?_))
          have k8 := bl_alloc (Below.refl w8.heap.size w8) (.cells (u8s hs).toArray 26)
          refine (Sum_more (H8.out.1.below k8) (by omega)).mono ?_
          rintro e w9 ⟨rfl, b9⟩
          rw [HE.out]
          have H9 := Lib.hid (And.intro ((H8.out.1.below k8).below b9) (And.intro (bl_then (bl_then H8.out.2.1 k8) b9) (And.intro H8.out.2.2.1 (And.intro ((H8.out.2.2.2.1.below k8).below b9) (And.intro ((H8.out.2.2.2.2.below k8).below b9)
            ((show Hs (w8.alloc (.cells (u8s hs).toArray 26)) w8.heap.size hs from Cs.new rfl _).below b9))))))
          clear b9 H8 k8
          generalize w8.heap.size = g8 at *
          go_upto_region 20 with (first
            | (refine wpList_stnew_h (op := ⟨none, .store 26 (.tmp 14) _, _, _, _, _⟩) (cs := u8s hs) rfl _ _ rfl rfl rfl rfl hul (u8s_one _) ?_))
          have k9 := bl_then (bl_alloc (Below.refl w9.heap.size w9) (.cells (u8s hs).toArray 26)) (bl_drew (Below.refl _ _))
          have H10 := Lib.hid (And.intro (H9.out.1.below k9) (And.intro (bl_then H9.out.2.1 k9) (And.intro H9.out.2.2.1 (And.intro (H9.out.2.2.2.1.below k9) (And.intro (H9.out.2.2.2.2.1.below k9) (And.intro (H9.out.2.2.2.2.2.below k9)
            (show Hs (w9.alloc (.cells (u8s hs).toArray 26)).drew w9.heap.size hs from Cs.new rfl _)))))))
          clear H9 k9
          have hne : ∀ W : World, (binOp .neq 26 (.agg (u8s hs).toArray) (.agg (u8s hs).toArray)).run Tryd.prog W = .ok (.bool false) W := fun W => by
            rw [run_neq_bytes Tryd.underlying26 hs hs hsl hsl W]; simp
          refine wp_region_held_drew (S := (fun W : World => W.rangeAt g8 0 (u8s hs) ∧ W.rangeAt w9.heap.size 0 (u8s hs))) (by kernel_rfl) ⟨H10.out.2.2.2.2.2.1.range, H10.out.2.2.2.2.2.2.range⟩ (fun hHeld => ?_)
          generalize (w9.alloc (.cells (u8s hs).toArray 26)).drew = w10 at *
          generalize w9.heap.size = g9 at *
          refine wpAnyH_take (i := 0) (oi := { dst := some 75, op := _, type := _, pos := _, after := _, guard := _ }) (v := ?_) rfl (by kernel_rfl) (by kernel_rfl) (by kernel_rfl) (fun _ _ _ h => h) (Or.inl ⟨by rfl, ?_⟩) hHeld ?_
          rotate_left
          · (intro w hSw; (try dsimp only at hSw); go_simp); all_goals with_reducible rfl
          try simp only [Act.put, List.setIfInBounds_toArray, List.set_cons_zero, List.set_cons_succ]
          refine wpAnyH_take (i := 1) (oi := { dst := some 76, op := _, type := _, pos := _, after := _, guard := _ }) (v := ?_) rfl (by kernel_rfl) (by kernel_rfl) (by kernel_rfl) (fun _ _ _ h => h) (Or.inl ⟨by rfl, ?_⟩) hHeld ?_
          rotate_left
          · (intro w hSw; (try dsimp only at hSw); go_simp); all_goals with_reducible rfl
          try simp only [Act.put, List.setIfInBounds_toArray, List.set_cons_zero, List.set_cons_succ]
          refine wpAnyH_take (i := 2) (oi := { dst := some 77, op := _, type := _, pos := _, after := _, guard := _ }) (v := ?_) rfl (by kernel_rfl) (by kernel_rfl) (by kernel_rfl) (fun _ _ _ h => h) (Or.inl ⟨by rfl, ?_⟩) hHeld ?_
          rotate_left
          · (intro w hSw; (try dsimp only at hSw); go_simp); all_goals with_reducible rfl
          try simp only [Act.put, List.setIfInBounds_toArray, List.set_cons_zero, List.set_cons_succ]
          refine wpAnyH_take (i := 3) (oi := { dst := some 78, op := _, type := _, pos := _, after := _, guard := _ }) (v := ?_) rfl (by kernel_rfl) (by kernel_rfl) (by kernel_rfl) (fun _ _ _ h => h) (Or.inl ⟨by rfl, ?_⟩) hHeld ?_
          rotate_left
          · (intro w hSw; (try dsimp only at hSw); go_simp); all_goals with_reducible rfl
          try simp only [Act.put, List.setIfInBounds_toArray, List.set_cons_zero, List.set_cons_succ]
          refine wpAnyH_take (i := 4) (oi := { dst := some 79, op := _, type := _, pos := _, after := _, guard := _ }) (v := ?_) rfl (by kernel_rfl) (by kernel_rfl) (by kernel_rfl) (fun _ _ _ h => h) (Or.inl ⟨by rfl, ?_⟩) hHeld ?_
          rotate_left
          · (intro w hSw; (try dsimp only at hSw); go_simp); all_goals with_reducible rfl
          try simp only [Act.put, List.setIfInBounds_toArray, List.set_cons_zero, List.set_cons_succ]
          refine wpAnyH_take (i := 5) (oi := { dst := some 80, op := _, type := _, pos := _, after := _, guard := _ }) (v := ?_) rfl (by kernel_rfl) (by kernel_rfl) (by kernel_rfl) (fun _ _ _ h => h) (Or.inl ⟨by rfl, ?_⟩) hHeld ?_
          rotate_left
          · (intro w hSw; (try dsimp only at hSw); go_simp); all_goals with_reducible rfl
          try simp only [Act.put, List.setIfInBounds_toArray, List.set_cons_zero, List.set_cons_succ]
          refine wpAnyH_take (i := 6) (oi := { dst := some 81, op := _, type := _, pos := _, after := _, guard := _ }) (v := ?_) rfl (by kernel_rfl) (by kernel_rfl) (by kernel_rfl) (fun _ _ _ h => h) (Or.inl ⟨by rfl, ?_⟩) hHeld ?_
          rotate_left
          · (intro w hSw; (try dsimp only at hSw); go_simp); all_goals with_reducible rfl
          try simp only [Act.put, List.setIfInBounds_toArray, List.set_cons_zero, List.set_cons_succ]
          refine wpAnyH_take (i := 7) (oi := { dst := some 82, op := _, type := _, pos := _, after := _, guard := _ }) (v := ?_) rfl (by kernel_rfl) (by kernel_rfl) (by kernel_rfl) (fun _ _ _ h => h) (Or.inl ⟨by rfl, ?_⟩) hHeld ?_
          rotate_left
          · (intro w hSw; (try dsimp only at hSw); go_simp); all_goals with_reducible rfl
          try simp only [Act.put, List.setIfInBounds_toArray, List.set_cons_zero, List.set_cons_succ]
          refine wpAnyH_take (i := 8) (oi := { dst := some 83, op := _, type := _, pos := _, after := _, guard := _ }) (v := ?_) rfl (by kernel_rfl) (by kernel_rfl) (by kernel_rfl) (fun _ _ _ h => h) (Or.inl ⟨by rfl, ?_⟩) hHeld ?_
          rotate_left
          · (intro w hSw; (try dsimp only at hSw); go_simp); all_goals with_reducible rfl
          try simp only [Act.put, List.setIfInBounds_toArray, List.set_cons_zero, List.set_cons_succ]
          refine wpAnyH_take (i := 9) (oi := { dst := some 84, op := _, type := _, pos := _, after := _, guard := _ }) (v := ?_) rfl (by kernel_rfl) (by kernel_rfl) (by kernel_rfl) (fun _ _ _ h => h) (Or.inl ⟨by rfl, ?_⟩) hHeld ?_
          rotate_left
          · (intro w hSw; (try dsimp only at hSw); go_simp); all_goals with_reducible rfl
          try simp only [Act.put, List.setIfInBounds_toArray, List.set_cons_zero, List.set_cons_succ]
          refine wpAnyH_take (i := 10) (oi := { dst := some 85, op := _, type := _, pos := _, after := _, guard := _ }) (v := ?_) rfl (by kernel_rfl) (by kernel_rfl) (by kernel_rfl) (fun _ _ _ h => h) (Or.inl ⟨by rfl, ?_⟩) hHeld ?_
          rotate_left
          · (intro w hSw; (try dsimp only at hSw); go_simp); all_goals with_reducible rfl
          try simp only [Act.put, List.setIfInBounds_toArray, List.set_cons_zero, List.set_cons_succ]
          refine wpAnyH_take (i := 11) (oi := { dst := some 86, op := _, type := _, pos := _, after := _, guard := _ }) (v := _) rfl (by kernel_rfl) (by kernel_rfl) (by kernel_rfl) (fun _ _ _ h => h) (yieldsIf_load_mid (by rfl) 26 _ rfl g8 0 rfl (u8s hs) _ (fun _ h => h.1) Tryd.underlying26 rfl (size_h.trans (by rw [hul]))) hHeld ?_
          try simp only [Act.put, List.setIfInBounds_toArray, List.set_cons_zero, List.set_cons_succ]
          refine wpAnyH_take (i := 12) (oi := { dst := some 87, op := _, type := _, pos := _, after := _, guard := _ }) (v := _) rfl (by kernel_rfl) (by kernel_rfl) (by kernel_rfl) (fun _ _ _ h => h) (yieldsIf_load_mid (by rfl) 26 _ rfl g9 0 rfl (u8s hs) _ (fun _ h => h.2) Tryd.underlying26 rfl (size_h.trans (by rw [hul]))) hHeld ?_
          try simp only [Act.put, List.setIfInBounds_toArray, List.set_cons_zero, List.set_cons_succ]
          refine wpAnyH_take (i := 13) (oi := { dst := some 88, op := _, type := _, pos := _, after := _, guard := _ }) (v := ?_) rfl (by kernel_rfl) (by kernel_rfl) (by kernel_rfl) (fun _ _ _ h => h) (Or.inl ⟨by rfl, ?_⟩) hHeld ?_
          rotate_left
          · (intro w hSw; (try dsimp only at hSw); go_simp); all_goals with_reducible rfl
          try simp only [Act.put, List.setIfInBounds_toArray, List.set_cons_zero, List.set_cons_succ]
          refine wpAnyH_take (i := 14) (oi := { dst := some 89, op := _, type := _, pos := _, after := _, guard := _ }) (v := ?_) rfl (by kernel_rfl) (by kernel_rfl) (by kernel_rfl) (fun _ _ _ h => h) (Or.inl ⟨by rfl, ?_⟩) hHeld ?_
          rotate_left
          · (intro w hSw; (try dsimp only at hSw); go_simp); all_goals with_reducible rfl
          try simp only [Act.put, List.setIfInBounds_toArray, List.set_cons_zero, List.set_cons_succ]
          refine wpAnyH_take (i := 15) (oi := { dst := some 90, op := _, type := _, pos := _, after := _, guard := _ }) (v := ?_) rfl (by kernel_rfl) (by kernel_rfl) (by kernel_rfl) (fun _ _ _ h => h) (Or.inl ⟨by rfl, ?_⟩) hHeld ?_
          rotate_left
          · (intro w hSw; (try dsimp only at hSw); go_simp); all_goals with_reducible rfl
          try simp only [Act.put, List.setIfInBounds_toArray, List.set_cons_zero, List.set_cons_succ]
          refine wpAnyH_take (i := 16) (oi := { dst := some 91, op := _, type := _, pos := _, after := _, guard := _ }) (v := _) rfl (by kernel_rfl) (by kernel_rfl) (by kernel_rfl) (fun _ _ _ h => h) (yieldsIf_load_mid (by rfl) 26 _ rfl g8 0 rfl (u8s hs) _ (fun _ h => h.1) Tryd.underlying26 rfl (size_h.trans (by rw [hul]))) hHeld ?_
          try simp only [Act.put, List.setIfInBounds_toArray, List.set_cons_zero, List.set_cons_succ]
          refine wpAnyH_take (i := 17) (oi := { dst := some 92, op := _, type := _, pos := _, after := _, guard := _ }) (v := ?_) rfl (by kernel_rfl) (by kernel_rfl) (by kernel_rfl) (fun _ _ _ h => h) (Or.inl ⟨by rfl, ?_⟩) hHeld ?_
          rotate_left
          · (intro w hSw; (try dsimp only at hSw); go_simp); all_goals with_reducible rfl
          try simp only [Act.put, List.setIfInBounds_toArray, List.set_cons_zero, List.set_cons_succ]
          refine wpAnyH_take (i := 18) (oi := { dst := some 93, op := _, type := _, pos := _, after := _, guard := _ }) (v := ?_) rfl (by kernel_rfl) (by kernel_rfl) (by kernel_rfl) (fun _ _ _ h => h) (Or.inl ⟨by rfl, ?_⟩) hHeld ?_
          rotate_left
          · (intro w hSw; (try dsimp only at hSw); go_simp); all_goals with_reducible rfl
          try simp only [Act.put, List.setIfInBounds_toArray, List.set_cons_zero, List.set_cons_succ]
          refine wpAnyH_take (i := 19) (oi := { dst := some 94, op := _, type := _, pos := _, after := _, guard := _ }) (v := _) rfl (by kernel_rfl) (by kernel_rfl) (by kernel_rfl) (fun _ _ _ h => h) (yieldsIf_cut0 (by rfl) _ _ rfl (hi := at_ + n) rfl rfl (by omega)) hHeld ?_
          try simp only [Act.put, List.setIfInBounds_toArray, List.set_cons_zero, List.set_cons_succ]
          refine wpAnyH_ready (rs := [20]) (by kernel_rfl) (by simp) (AllReadyH.cons (o := _) rfl (fun K hK => ?_) AllReadyH.nil)
          go_simp
          refine (SumB_any (b := b.take (at_ + n)) (cut_bytes H10.out.2.2.2.1 hcap (lo := 0) (hi := at_ + n) (by omega) (by omega)) (by omega)).mono ?_
          rintro e w11 ⟨rfl, b11⟩
          rw [HE.out]
          have H11 := Lib.hid (And.intro (H10.out.1.below b11) (And.intro (bl_then H10.out.2.1 b11) (And.intro H10.out.2.2.1 (And.intro (H10.out.2.2.2.1.below b11) (And.intro (H10.out.2.2.2.2.1.below b11) (And.intro (H10.out.2.2.2.2.2.1.below b11) (H10.out.2.2.2.2.2.2.below b11)))))))
          clear b11 H10
          refine hK.out _ _ ⟨H11.out.2.2.2.2.2.1.range, H11.out.2.2.2.2.2.2.range⟩ (fun hHeld => ?_)
          clear hK K
          refine wpAnyH_take (i := 21) (oi := { dst := some 96, op := _, type := _, pos := _, after := _, guard := _ }) (v := ?_) rfl (by kernel_rfl) (by kernel_rfl) (by kernel_rfl) (fun _ _ _ h => h) (Or.inl ⟨by rfl, ?_⟩) hHeld ?_
          rotate_left
          · (intro w hSw; (try dsimp only at hSw); go_simp); all_goals with_reducible rfl
          try simp only [Act.put, List.setIfInBounds_toArray, List.set_cons_zero, List.set_cons_succ]
          refine wpAnyH_take (i := 22) (oi := { dst := some 97, op := _, type := _, pos := _, after := _, guard := _ }) (v := ?_) rfl (by kernel_rfl) (by kernel_rfl) (by kernel_rfl) (fun _ _ _ h => h) (Or.inl ⟨by rfl, ?_⟩) hHeld ?_
          rotate_left
          · (intro w hSw; (try dsimp only at hSw); go_simp); all_goals with_reducible rfl
          try simp only [Act.put, List.setIfInBounds_toArray, List.set_cons_zero, List.set_cons_succ]
          refine wpAnyH_take (i := 23) (oi := { dst := some 98, op := _, type := _, pos := _, after := _, guard := _ }) (v := ?_) rfl (by kernel_rfl) (by kernel_rfl) (by kernel_rfl) (fun _ _ _ h => h) (Or.inl ⟨by rfl, ?_⟩) hHeld ?_
          rotate_left
          · (intro w hSw; (try dsimp only at hSw); go_simp); all_goals with_reducible rfl
          try simp only [Act.put, List.setIfInBounds_toArray, List.set_cons_zero, List.set_cons_succ]
          refine wpAnyH_take (i := 24) (oi := { dst := some 99, op := _, type := _, pos := _, after := _, guard := _ }) (v := ?_) rfl (by kernel_rfl) (by kernel_rfl) (by kernel_rfl) (fun _ _ _ h => h) (Or.inl ⟨by rfl, ?_⟩) hHeld ?_
          rotate_left
          · (intro w hSw; (try dsimp only at hSw); go_simp); all_goals with_reducible rfl
          try simp only [Act.put, List.setIfInBounds_toArray, List.set_cons_zero, List.set_cons_succ]
          refine wpAnyH_take (i := 26) (oi := { dst := some 101, op := _, type := _, pos := _, after := _, guard := _ }) (v := ?_) rfl (by kernel_rfl) (by kernel_rfl) (by kernel_rfl) (fun _ _ _ h => h) (Or.inl ⟨by rfl, ?_⟩) hHeld ?_
          rotate_left
          · (intro w hSw; (try dsimp only at hSw); go_simp); all_goals with_reducible rfl
          try simp only [Act.put, List.setIfInBounds_toArray, List.set_cons_zero, List.set_cons_succ]
          refine wpAnyH_ready (rs := [25]) (by kernel_rfl) (by simp) (AllReadyH.cons (o := _) rfl (fun K hK => ?_) AllReadyH.nil)
          go_simp
          refine (Len_more H11.out.1 (by omega)).mono ?_
          rintro e w12 ⟨rfl, b12⟩
          rw [hxl]
          have H12 := Lib.hid (And.intro (H11.out.1.below b12) (And.intro (bl_then H11.out.2.1 b12) (And.intro H11.out.2.2.1 (And.intro (H11.out.2.2.2.1.below b12) (And.intro (H11.out.2.2.2.2.1.below b12) (And.intro (H11.out.2.2.2.2.2.1.below b12) (H11.out.2.2.2.2.2.2.below b12)))))))
          clear b12 H11
          refine hK.out _ _ ⟨H12.out.2.2.2.2.2.1.range, H12.out.2.2.2.2.2.2.range⟩ (fun hHeld => ?_)
          clear hK K
          refine wpAnyH_take (i := 27) (oi := { dst := some 102, op := _, type := _, pos := _, after := _, guard := _ }) (v := ?_) rfl (by kernel_rfl) (by kernel_rfl) (by kernel_rfl) (fun _ _ _ h => h) (Or.inl ⟨by rfl, ?_⟩) hHeld ?_
          rotate_left
          · (intro w hSw; (try dsimp only at hSw); go_simp); all_goals with_reducible rfl
          try simp only [Act.put, List.setIfInBounds_toArray, List.set_cons_zero, List.set_cons_succ]
          refine wpAnyH_take (i := 28) (oi := { dst := some 103, op := _, type := _, pos := _, after := _, guard := _ }) (v := ?_) rfl (by kernel_rfl) (by kernel_rfl) (by kernel_rfl) (fun _ _ _ h => h) (Or.inl ⟨by rfl, ?_⟩) hHeld ?_
          rotate_left
          · (intro w hSw; (try dsimp only at hSw); go_simp); all_goals with_reducible rfl
          try simp only [Act.put, List.setIfInBounds_toArray, List.set_cons_zero, List.set_cons_succ]
          refine wpAnyH_done (by kernel_rfl) ?_ _
          clear hHeld hne
          go_wp2_with fail
          go_roundw
          case rel => exact ⟨i + 1, at_ + n, v6, by omega, by omega, by go_num, by go_num, HEND, Lib.hid ⟨H12.out.1, H12.out.2.1, H12.out.2.2.1, H12.out.2.2.2.1, H12.out.2.2.2.2.1⟩⟩
          case measure => simp [intOf]; omega
        · have hlt : ¬ (i : Int) < (zs.length : Int) := by omega
          have hieq : i = zs.length := by omega
          obtain ⟨n, hn⟩ : ∃ n, b.length - at_ = n := ⟨_, rfl⟩
          have f3 : IntKind.i64.wrap ((at_ : Int) + (n : Int)) = ((at_ + n : Nat) : Int) := by rw [IntKind.wrap_i64]; omega
          have HEND : Hid (i + 1 = zs.length + 1 → at_ + n = b.length) := Lib.hid (fun h => by omega)
          rw [hn] at f1
          go_wp2_with (first
            | (with_reducible show wpList _ _ _ (⟨some 55, _, _, _, _, _⟩ :: _) _ _; refine wpList_cut rfl _ _ _ rfl (lo := at_) (hi := at_ + n) rfl rfl rfl (by omega) (by omega) ?_))
          have hcut := cut_bytes (HI.out.2.2.2.1) hcap (lo := at_) (hi := at_ + n) (by omega) (by omega)
          rw [show at_ + n - at_ = n by omega] at hcut
          have hpl : ((b.drop at_).take n).length = n := by rw [List.length_take, List.length_drop]; omega
          have hpart := Lib.hid (take_more b at_ n)
          refine (CopyBytes_any hcut (by omega)).mono ?_
          rintro e w5 ⟨v5, rfl, o5, b5⟩
          generalize (b.drop at_).take n = P at *
          obtain ⟨A5, c5, hv5⟩ := owns_slice0 o5
          rw [hpl] at o5 hv5
          subst hv5
          have B5 := Lib.hid (RowOf.of_own o5)
          have H5 := Lib.hid (And.intro (HI.out.1.below b5) (And.intro (bl_then HI.out.2.1 b5) (And.intro HI.out.2.2.1 (And.intro (HI.out.2.2.2.1.below b5) (HI.out.2.2.2.2.below b5)))))
          have HO5 := Lib.hid (And.intro o5 (And.intro (fun k hk => HI.out.1.ob.lt k hk) (show p < wr.heap.size ∧ c < wr.heap.size from ⟨kb_lt HI.out.1.st.st, kb_lt HI.out.1.st.ct⟩)))
          clear o5 b5 hcut HI
          go_wp2_with fail
          have hbb : BytesOf w5 (.slice A5 n c5) P := by have := B5.out; rw [← hpl] at this ⊢; exact this
          refine (Write_more H5.out.1 hbb (by rw [List.length_take, hpl]; omega)).mono ?_
          rintro e w6 ⟨rfl, v6, W6⟩
          rw [hpart.out] at W6
          have B6 := W6.below H5.out.2.1 HPC.out.1 HPC.out.2 H5.out.2.2.1
          have hn5 : ∀ k, (Value.slice A5 n c5).ownBlock = some k → wr.heap.size ≤ k ∧ k < w5.heap.size := fun k hk => HO5.out.1.lt k hk
          have hsep : ∀ k, (Value.slice A5 n c5).ownBlock = some k → ¬ (k = p ∨ k = c ∨ v.ownBlock = some k) := fun k hk e => by
            have h1 := hn5 k hk
            have h2 := HO5.out.2.2
            rcases e with e | e | e
            · omega
            · omega
            · have := HO5.out.2.1 k e; omega
          have hsep6 : ∀ k, v6.ownBlock = some k → ¬ (Value.slice A5 n c5).ownBlock = some k := fun k hk e => by
            rcases W6.own k hk with h | h
            · exact hsep k e (.inr (.inr h))
            · have := hn5 k e; omega
          have o6 := W6.k.row HO5.out.1 hsep
          have H6 := Lib.hid (And.intro W6.st (And.intro B6.1 (And.intro B6.2 (And.intro o6 (And.intro hsep6 (And.intro hsep hn5))))))
          have hlow : ∀ k, k < w.heap.size → ¬ (k = p ∨ k = c ∨ v.ownBlock = some k) := fun k hk e => by
            have h2 := HPC.out
            rcases e with e | e | e
            · omega
            · omega
            · have := H5.out.2.2.1 k e; omega
          have R6 := Lib.hid (And.intro (keep_low H5.out.2.2.2.1 (fun k hk => HB0.out.1 k hk) W6.k hlow) (int_low H5.out.2.2.2.2 (fun k hk => HB0.out.2 k hk) W6.k hlow))
          clear W6 B6 o6 hsep hsep6 hlow hbb HO5 H5 B5 hn5
          go_wp2_with fail
          refine (OverBytes_own (l := P) (by rw [← hpl] at H6 ⊢; exact H6.out.2.2.2.1) (by omega)).mono ?_
          rintro e w7 ⟨⟨u7, rfl⟩, k7⟩
          have hlow7 : ∀ k, k < w.heap.size → ¬ (Value.slice A5 n c5).ownBlock = some k := fun k hk e => by
            have h1 := (H6.out.2.2.2.2.2.2 k e).1
            have h2 := HW0.out
            omega
          have S7 := H6.out.1.keep k7 (fun e => H6.out.2.2.2.2.2.1 p e (.inl rfl)) (fun e => H6.out.2.2.2.2.2.1 c e (.inr (.inl rfl))) (fun k hk e => H6.out.2.2.2.2.1 k hk e)
          have H7 := Lib.hid (And.intro S7 (And.intro (((Keep.of_below (S := fun _ => False) H6.out.2.1).trans k7 (fun k hk e => hlow7 k hk e)).below (Nat.le_refl _) (fun b e => e.elim)) (And.intro H6.out.2.2.1 (And.intro (keep_low R6.out.1 (fun k hk => HB0.out.1 k hk) k7 hlow7) (int_low R6.out.2 (fun k hk => HB0.out.2 k hk) k7 hlow7)))))
          clear S7 k7 hlow7 H6 R6
          go_wp2_with fail
          have hxl : (b.take (at_ + n)).length = at_ + n := by rw [List.length_take]; omega
          refine (Sum_more H7.out.1 (by omega)).mono ?_
          rintro e w8 ⟨rfl, b8⟩
          have H8 := Lib.hid (And.intro (H7.out.1.below b8) (And.intro (bl_then H7.out.2.1 b8) (And.intro H7.out.2.2.1 (And.intro (H7.out.2.2.2.1.below b8) (H7.out.2.2.2.2.below b8)))))
          clear b8 H7
          have hsl := sumB_len (b.take (at_ + n))
          generalize hE : sumB (b.take (at_ + n)) = hs at *
          have HE := Lib.hid hE
          clear hE
          have hul : (u8s hs).length = 32 := by rw [u8s_len, hsl]
          go_wp2_with (first
            | (refine wpList_stnew_h (op := ⟨none, .store 26 (.tmp 12) _, _, _, _, _⟩) (cs := u8s hs) rfl _ _ rfl rfl rfl rfl hul (u8s_one _) ?_))
          have k8 := bl_alloc (Below.refl w8.heap.size w8) (.cells (u8s hs).toArray 26)
          refine (Sum_more (H8.out.1.below k8) (by omega)).mono ?_
          rintro e w9 ⟨rfl, b9⟩
          rw [HE.out]
          have H9 := Lib.hid (And.intro ((H8.out.1.below k8).below b9) (And.intro (bl_then (bl_then H8.out.2.1 k8) b9) (And.intro H8.out.2.2.1 (And.intro ((H8.out.2.2.2.1.below k8).below b9) (And.intro ((H8.out.2.2.2.2.below k8).below b9)
            ((show Hs (w8.alloc (.cells (u8s hs).toArray 26)) w8.heap.size hs from Cs.new rfl _).below b9))))))
          clear b9 H8 k8
          generalize w8.heap.size = g8 at *
          go_upto_region 20 with (first
            | (refine wpList_stnew_h (op := ⟨none, .store 26 (.tmp 14) _, _, _, _, _⟩) (cs := u8s hs) rfl _ _ rfl rfl rfl rfl hul (u8s_one _) ?_))
          have k9 := bl_then (bl_alloc (Below.refl w9.heap.size w9) (.cells (u8s hs).toArray 26)) (bl_drew (Below.refl _ _))
          have H10 := Lib.hid (And.intro (H9.out.1.below k9) (And.intro (bl_then H9.out.2.1 k9) (And.intro H9.out.2.2.1 (And.intro (H9.out.2.2.2.1.below k9) (And.intro (H9.out.2.2.2.2.1.below k9) (And.intro (H9.out.2.2.2.2.2.below k9)
            (show Hs (w9.alloc (.cells (u8s hs).toArray 26)).drew w9.heap.size hs from Cs.new rfl _)))))))
          clear H9 k9
          have hne : ∀ W : World, (binOp .neq 26 (.agg (u8s hs).toArray) (.agg (u8s hs).toArray)).run Tryd.prog W = .ok (.bool false) W := fun W => by
            rw [run_neq_bytes Tryd.underlying26 hs hs hsl hsl W]; simp
          refine wp_region_held_drew (S := (fun W : World => W.rangeAt g8 0 (u8s hs) ∧ W.rangeAt w9.heap.size 0 (u8s hs))) (by kernel_rfl) ⟨H10.out.2.2.2.2.2.1.range, H10.out.2.2.2.2.2.2.range⟩ (fun hHeld => ?_)
          generalize (w9.alloc (.cells (u8s hs).toArray 26)).drew = w10 at *
          generalize w9.heap.size = g9 at *
          refine wpAnyH_take (i := 0) (oi := { dst := some 75, op := _, type := _, pos := _, after := _, guard := _ }) (v := ?_) rfl (by kernel_rfl) (by kernel_rfl) (by kernel_rfl) (fun _ _ _ h => h) (Or.inl ⟨by rfl, ?_⟩) hHeld ?_
          rotate_left
          · (intro w hSw; (try dsimp only at hSw); go_simp); all_goals with_reducible rfl
          try simp only [Act.put, List.setIfInBounds_toArray, List.set_cons_zero, List.set_cons_succ]
          refine wpAnyH_take (i := 1) (oi := { dst := some 76, op := _, type := _, pos := _, after := _, guard := _ }) (v := ?_) rfl (by kernel_rfl) (by kernel_rfl) (by kernel_rfl) (fun _ _ _ h => h) (Or.inl ⟨by rfl, ?_⟩) hHeld ?_
          rotate_left
          · (intro w hSw; (try dsimp only at hSw); go_simp); all_goals with_reducible rfl
          try simp only [Act.put, List.setIfInBounds_toArray, List.set_cons_zero, List.set_cons_succ]
          refine wpAnyH_take (i := 2) (oi := { dst := some 77, op := _, type := _, pos := _, after := _, guard := _ }) (v := ?_) rfl (by kernel_rfl) (by kernel_rfl) (by kernel_rfl) (fun _ _ _ h => h) (Or.inl ⟨by rfl, ?_⟩) hHeld ?_
          rotate_left
          · (intro w hSw; (try dsimp only at hSw); go_simp); all_goals with_reducible rfl
          try simp only [Act.put, List.setIfInBounds_toArray, List.set_cons_zero, List.set_cons_succ]
          refine wpAnyH_take (i := 3) (oi := { dst := some 78, op := _, type := _, pos := _, after := _, guard := _ }) (v := ?_) rfl (by kernel_rfl) (by kernel_rfl) (by kernel_rfl) (fun _ _ _ h => h) (Or.inl ⟨by rfl, ?_⟩) hHeld ?_
          rotate_left
          · (intro w hSw; (try dsimp only at hSw); go_simp); all_goals with_reducible rfl
          try simp only [Act.put, List.setIfInBounds_toArray, List.set_cons_zero, List.set_cons_succ]
          refine wpAnyH_take (i := 4) (oi := { dst := some 79, op := _, type := _, pos := _, after := _, guard := _ }) (v := ?_) rfl (by kernel_rfl) (by kernel_rfl) (by kernel_rfl) (fun _ _ _ h => h) (Or.inl ⟨by rfl, ?_⟩) hHeld ?_
          rotate_left
          · (intro w hSw; (try dsimp only at hSw); go_simp); all_goals with_reducible rfl
          try simp only [Act.put, List.setIfInBounds_toArray, List.set_cons_zero, List.set_cons_succ]
          refine wpAnyH_take (i := 5) (oi := { dst := some 80, op := _, type := _, pos := _, after := _, guard := _ }) (v := ?_) rfl (by kernel_rfl) (by kernel_rfl) (by kernel_rfl) (fun _ _ _ h => h) (Or.inl ⟨by rfl, ?_⟩) hHeld ?_
          rotate_left
          · (intro w hSw; (try dsimp only at hSw); go_simp); all_goals with_reducible rfl
          try simp only [Act.put, List.setIfInBounds_toArray, List.set_cons_zero, List.set_cons_succ]
          refine wpAnyH_take (i := 6) (oi := { dst := some 81, op := _, type := _, pos := _, after := _, guard := _ }) (v := ?_) rfl (by kernel_rfl) (by kernel_rfl) (by kernel_rfl) (fun _ _ _ h => h) (Or.inl ⟨by rfl, ?_⟩) hHeld ?_
          rotate_left
          · (intro w hSw; (try dsimp only at hSw); go_simp); all_goals with_reducible rfl
          try simp only [Act.put, List.setIfInBounds_toArray, List.set_cons_zero, List.set_cons_succ]
          refine wpAnyH_take (i := 7) (oi := { dst := some 82, op := _, type := _, pos := _, after := _, guard := _ }) (v := ?_) rfl (by kernel_rfl) (by kernel_rfl) (by kernel_rfl) (fun _ _ _ h => h) (Or.inl ⟨by rfl, ?_⟩) hHeld ?_
          rotate_left
          · (intro w hSw; (try dsimp only at hSw); go_simp); all_goals with_reducible rfl
          try simp only [Act.put, List.setIfInBounds_toArray, List.set_cons_zero, List.set_cons_succ]
          refine wpAnyH_take (i := 8) (oi := { dst := some 83, op := _, type := _, pos := _, after := _, guard := _ }) (v := ?_) rfl (by kernel_rfl) (by kernel_rfl) (by kernel_rfl) (fun _ _ _ h => h) (Or.inl ⟨by rfl, ?_⟩) hHeld ?_
          rotate_left
          · (intro w hSw; (try dsimp only at hSw); go_simp); all_goals with_reducible rfl
          try simp only [Act.put, List.setIfInBounds_toArray, List.set_cons_zero, List.set_cons_succ]
          refine wpAnyH_take (i := 9) (oi := { dst := some 84, op := _, type := _, pos := _, after := _, guard := _ }) (v := ?_) rfl (by kernel_rfl) (by kernel_rfl) (by kernel_rfl) (fun _ _ _ h => h) (Or.inl ⟨by rfl, ?_⟩) hHeld ?_
          rotate_left
          · (intro w hSw; (try dsimp only at hSw); go_simp); all_goals with_reducible rfl
          try simp only [Act.put, List.setIfInBounds_toArray, List.set_cons_zero, List.set_cons_succ]
          refine wpAnyH_take (i := 10) (oi := { dst := some 85, op := _, type := _, pos := _, after := _, guard := _ }) (v := ?_) rfl (by kernel_rfl) (by kernel_rfl) (by kernel_rfl) (fun _ _ _ h => h) (Or.inl ⟨by rfl, ?_⟩) hHeld ?_
          rotate_left
          · (intro w hSw; (try dsimp only at hSw); go_simp); all_goals with_reducible rfl
          try simp only [Act.put, List.setIfInBounds_toArray, List.set_cons_zero, List.set_cons_succ]
          refine wpAnyH_take (i := 11) (oi := { dst := some 86, op := _, type := _, pos := _, after := _, guard := _ }) (v := _) rfl (by kernel_rfl) (by kernel_rfl) (by kernel_rfl) (fun _ _ _ h => h) (yieldsIf_load_mid (by rfl) 26 _ rfl g8 0 rfl (u8s hs) _ (fun _ h => h.1) Tryd.underlying26 rfl (size_h.trans (by rw [hul]))) hHeld ?_
          try simp only [Act.put, List.setIfInBounds_toArray, List.set_cons_zero, List.set_cons_succ]
          refine wpAnyH_take (i := 12) (oi := { dst := some 87, op := _, type := _, pos := _, after := _, guard := _ }) (v := _) rfl (by kernel_rfl) (by kernel_rfl) (by kernel_rfl) (fun _ _ _ h => h) (yieldsIf_load_mid (by rfl) 26 _ rfl g9 0 rfl (u8s hs) _ (fun _ h => h.2) Tryd.underlying26 rfl (size_h.trans (by rw [hul]))) hHeld ?_
          try simp only [Act.put, List.setIfInBounds_toArray, List.set_cons_zero, List.set_cons_succ]
          refine wpAnyH_take (i := 13) (oi := { dst := some 88, op := _, type := _, pos := _, after := _, guard := _ }) (v := ?_) rfl (by kernel_rfl) (by kernel_rfl) (by kernel_rfl) (fun _ _ _ h => h) (Or.inl ⟨by rfl, ?_⟩) hHeld ?_
          rotate_left
          · (intro w hSw; (try dsimp only at hSw); go_simp); all_goals with_reducible rfl
          try simp only [Act.put, List.setIfInBounds_toArray, List.set_cons_zero, List.set_cons_succ]
          refine wpAnyH_take (i := 14) (oi := { dst := some 89, op := _, type := _, pos := _, after := _, guard := _ }) (v := ?_) rfl (by kernel_rfl) (by kernel_rfl) (by kernel_rfl) (fun _ _ _ h => h) (Or.inl ⟨by rfl, ?_⟩) hHeld ?_
          rotate_left
          · (intro w hSw; (try dsimp only at hSw); go_simp); all_goals with_reducible rfl
          try simp only [Act.put, List.setIfInBounds_toArray, List.set_cons_zero, List.set_cons_succ]
          refine wpAnyH_take (i := 15) (oi := { dst := some 90, op := _, type := _, pos := _, after := _, guard := _ }) (v := ?_) rfl (by kernel_rfl) (by kernel_rfl) (by kernel_rfl) (fun _ _ _ h => h) (Or.inl ⟨by rfl, ?_⟩) hHeld ?_
          rotate_left
          · (intro w hSw; (try dsimp only at hSw); go_simp); all_goals with_reducible rfl
          try simp only [Act.put, List.setIfInBounds_toArray, List.set_cons_zero, List.set_cons_succ]
          refine wpAnyH_take (i := 16) (oi := { dst := some 91, op := _, type := _, pos := _, after := _, guard := _ }) (v := _) rfl (by kernel_rfl) (by kernel_rfl) (by kernel_rfl) (fun _ _ _ h => h) (yieldsIf_load_mid (by rfl) 26 _ rfl g8 0 rfl (u8s hs) _ (fun _ h => h.1) Tryd.underlying26 rfl (size_h.trans (by rw [hul]))) hHeld ?_
          try simp only [Act.put, List.setIfInBounds_toArray, List.set_cons_zero, List.set_cons_succ]
          refine wpAnyH_take (i := 17) (oi := { dst := some 92, op := _, type := _, pos := _, after := _, guard := _ }) (v := ?_) rfl (by kernel_rfl) (by kernel_rfl) (by kernel_rfl) (fun _ _ _ h => h) (Or.inl ⟨by rfl, ?_⟩) hHeld ?_
          rotate_left
          · (intro w hSw; (try dsimp only at hSw); go_simp); all_goals with_reducible rfl
          try simp only [Act.put, List.setIfInBounds_toArray, List.set_cons_zero, List.set_cons_succ]
          refine wpAnyH_take (i := 18) (oi := { dst := some 93, op := _, type := _, pos := _, after := _, guard := _ }) (v := ?_) rfl (by kernel_rfl) (by kernel_rfl) (by kernel_rfl) (fun _ _ _ h => h) (Or.inl ⟨by rfl, ?_⟩) hHeld ?_
          rotate_left
          · (intro w hSw; (try dsimp only at hSw); go_simp); all_goals with_reducible rfl
          try simp only [Act.put, List.setIfInBounds_toArray, List.set_cons_zero, List.set_cons_succ]
          refine wpAnyH_take (i := 19) (oi := { dst := some 94, op := _, type := _, pos := _, after := _, guard := _ }) (v := _) rfl (by kernel_rfl) (by kernel_rfl) (by kernel_rfl) (fun _ _ _ h => h) (yieldsIf_cut0 (by rfl) _ _ rfl (hi := at_ + n) rfl rfl (by omega)) hHeld ?_
          try simp only [Act.put, List.setIfInBounds_toArray, List.set_cons_zero, List.set_cons_succ]
          refine wpAnyH_ready (rs := [20]) (by kernel_rfl) (by simp) (AllReadyH.cons (o := _) rfl (fun K hK => ?_) AllReadyH.nil)
          go_simp
          refine (SumB_any (b := b.take (at_ + n)) (cut_bytes H10.out.2.2.2.1 hcap (lo := 0) (hi := at_ + n) (by omega) (by omega)) (by omega)).mono ?_
          rintro e w11 ⟨rfl, b11⟩
          rw [HE.out]
          have H11 := Lib.hid (And.intro (H10.out.1.below b11) (And.intro (bl_then H10.out.2.1 b11) (And.intro H10.out.2.2.1 (And.intro (H10.out.2.2.2.1.below b11) (And.intro (H10.out.2.2.2.2.1.below b11) (And.intro (H10.out.2.2.2.2.2.1.below b11) (H10.out.2.2.2.2.2.2.below b11)))))))
          clear b11 H10
          refine hK.out _ _ ⟨H11.out.2.2.2.2.2.1.range, H11.out.2.2.2.2.2.2.range⟩ (fun hHeld => ?_)
          clear hK K
          refine wpAnyH_take (i := 21) (oi := { dst := some 96, op := _, type := _, pos := _, after := _, guard := _ }) (v := ?_) rfl (by kernel_rfl) (by kernel_rfl) (by kernel_rfl) (fun _ _ _ h => h) (Or.inl ⟨by rfl, ?_⟩) hHeld ?_
          rotate_left
          · (intro w hSw; (try dsimp only at hSw); go_simp); all_goals with_reducible rfl
          try simp only [Act.put, List.setIfInBounds_toArray, List.set_cons_zero, List.set_cons_succ]
          refine wpAnyH_take (i := 22) (oi := { dst := some 97, op := _, type := _, pos := _, after := _, guard := _ }) (v := ?_) rfl (by kernel_rfl) (by kernel_rfl) (by kernel_rfl) (fun _ _ _ h => h) (Or.inl ⟨by rfl, ?_⟩) hHeld ?_
          rotate_left
          · (intro w hSw; (try dsimp only at hSw); go_simp); all_goals with_reducible rfl
          try simp only [Act.put, List.setIfInBounds_toArray, List.set_cons_zero, List.set_cons_succ]
          refine wpAnyH_take (i := 23) (oi := { dst := some 98, op := _, type := _, pos := _, after := _, guard := _ }) (v := ?_) rfl (by kernel_rfl) (by kernel_rfl) (by kernel_rfl) (fun _ _ _ h => h) (Or.inl ⟨by rfl, ?_⟩) hHeld ?_
          rotate_left
          · (intro w hSw; (try dsimp only at hSw); go_simp); all_goals with_reducible rfl
          try simp only [Act.put, List.setIfInBounds_toArray, List.set_cons_zero, List.set_cons_succ]
          refine wpAnyH_take (i := 24) (oi := { dst := some 99, op := _, type := _, pos := _, after := _, guard := _ }) (v := ?_) rfl (by kernel_rfl) (by kernel_rfl) (by kernel_rfl) (fun _ _ _ h => h) (Or.inl ⟨by rfl, ?_⟩) hHeld ?_
          rotate_left
          · (intro w hSw; (try dsimp only at hSw); go_simp); all_goals with_reducible rfl
          try simp only [Act.put, List.setIfInBounds_toArray, List.set_cons_zero, List.set_cons_succ]
          refine wpAnyH_take (i := 26) (oi := { dst := some 101, op := _, type := _, pos := _, after := _, guard := _ }) (v := ?_) rfl (by kernel_rfl) (by kernel_rfl) (by kernel_rfl) (fun _ _ _ h => h) (Or.inl ⟨by rfl, ?_⟩) hHeld ?_
          rotate_left
          · (intro w hSw; (try dsimp only at hSw); go_simp); all_goals with_reducible rfl
          try simp only [Act.put, List.setIfInBounds_toArray, List.set_cons_zero, List.set_cons_succ]
          refine wpAnyH_ready (rs := [25]) (by kernel_rfl) (by simp) (AllReadyH.cons (o := _) rfl (fun K hK => ?_) AllReadyH.nil)
          go_simp
          refine (Len_more H11.out.1 (by omega)).mono ?_
          rintro e w12 ⟨rfl, b12⟩
          rw [hxl]
          have H12 := Lib.hid (And.intro (H11.out.1.below b12) (And.intro (bl_then H11.out.2.1 b12) (And.intro H11.out.2.2.1 (And.intro (H11.out.2.2.2.1.below b12) (And.intro (H11.out.2.2.2.2.1.below b12) (And.intro (H11.out.2.2.2.2.2.1.below b12) (H11.out.2.2.2.2.2.2.below b12)))))))
          clear b12 H11
          refine hK.out _ _ ⟨H12.out.2.2.2.2.2.1.range, H12.out.2.2.2.2.2.2.range⟩ (fun hHeld => ?_)
          clear hK K
          refine wpAnyH_take (i := 27) (oi := { dst := some 102, op := _, type := _, pos := _, after := _, guard := _ }) (v := ?_) rfl (by kernel_rfl) (by kernel_rfl) (by kernel_rfl) (fun _ _ _ h => h) (Or.inl ⟨by rfl, ?_⟩) hHeld ?_
          rotate_left
          · (intro w hSw; (try dsimp only at hSw); go_simp); all_goals with_reducible rfl
          try simp only [Act.put, List.setIfInBounds_toArray, List.set_cons_zero, List.set_cons_succ]
          refine wpAnyH_take (i := 28) (oi := { dst := some 103, op := _, type := _, pos := _, after := _, guard := _ }) (v := ?_) rfl (by kernel_rfl) (by kernel_rfl) (by kernel_rfl) (fun _ _ _ h => h) (Or.inl ⟨by rfl, ?_⟩) hHeld ?_
          rotate_left
          · (intro w hSw; (try dsimp only at hSw); go_simp); all_goals with_reducible rfl
          try simp only [Act.put, List.setIfInBounds_toArray, List.set_cons_zero, List.set_cons_succ]
          refine wpAnyH_done (by kernel_rfl) ?_ _
          clear hHeld hne
          go_wp2_with fail
          go_roundw
          case rel => exact ⟨i + 1, at_ + n, v6, by omega, by omega, by go_num, by go_num, HEND, Lib.hid ⟨H12.out.1, H12.out.2.1, H12.out.2.2.1, H12.out.2.2.2.1, H12.out.2.2.2.2.1⟩⟩
          case measure => simp [intOf]; omega
      · have hle : ¬ (i : Int) ≤ (zs.length : Int) := by omega
        have hab := HE0.out (by omega)
        subst hab
        go_wp2_with fail
        go_ret
        exact ⟨rfl, HI.out.2.1⟩
  · by_cases g1 : 400 < b.length
    · clear hg
      go_wp2_with fail
      go_ret
      exact ⟨rfl, H1.out.1⟩
    · have g2 : 12 < zs.length := by omega
      clear hg
      go_wp2_with fail
      go_ret
      exact ⟨rfl, H1.out.1⟩
end Go.Proofs.YtmfajippoielhaaDoor
