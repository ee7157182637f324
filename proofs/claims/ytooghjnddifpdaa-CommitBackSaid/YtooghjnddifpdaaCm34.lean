/- The walk of CommitBack. Printed by wip/mkcm34.py. -/
import Derived.Test.YtooghjnddifpdaaBytes4
import Derived.Test.YtooghjnddifpdaaCm21
import Derived.Test.YtooghjnddifpdaaCm25
import Derived.Test.YtooghjnddifpdaaCm33
namespace Go.Proofs.Ytooghjnddifpdaa
open Go.RowKit Go.Proofs.Ytooghjnddifpdaa.Cm Go.Proofs.Ytooghjnddifpdaa.Wi BigFrame
set_option linter.unusedSimpArgs false
set_option linter.unusedVariables false
attribute [local go_sem] cell_alloc_some frozen_alloc_some

theorem encB_pos (c : C) : 0 < (encB c).length := by simp [encB, encAt, numL]

set_option maxRecDepth 100000 in
set_option maxHeartbeats 8000000 in
theorem CommitBack_walk {w : World} {c : C} {u v : Value} {xs : List UInt8} (p : Int) (hc : Ci w c u) (hg : ∀ x ∈ c.vs, x.g < 18446744073709551616) (hb : BytesOf w v xs) :
    Calls Try.prog 8 #[.agg (ccs c u).toArray, .int .i64 p, v] w fun e w' => e = .returned (.bool true) ∧ Below w.heap.size w w' := by
  have HU := Lib.hid hc
  have HG := Lib.hid hg
  have HB := Lib.hid hb
  have honu := hc.r.one
  obtain ⟨A, cap, hvv⟩ := hb.form
  subst hvv
  clear hc hg hb
  have HX1 := Lib.hid (decR_x xs)
  have HN1 := Lib.hid (decR_len xs)
  have HG1 := Lib.hid (decR_g xs)
  obtain ⟨i0, hi, hz0, hz1, hz2⟩ := info_parts infoU
  go_enter Try.func8, Try.ntmps8
  go_upto_region 1 with fail
  refine wp_world fun wA hwA => ?_
  have HA := Lib.hid (show wA.heap[w.heap.size]? = some (.cells (ccs c u).toArray 26 (0, 0)) ∧ Below w.heap.size w wA by rw [hwA]; exact ⟨kb_new rfl _, bl_alloc (Below.refl _ _) _⟩)
  clear hwA
  go_wp2_with fail
  refine (CommitKnown_walk _).mono ?_
  rintro e w0 ⟨rfl, b0⟩
  have HA := Lib.hid (And.intro (kb_below b0 HA.out.1) (bl_then HA.out.2 b0))
  clear b0
  go_wp2_with (with_reducible refine wpList_load_cw _ rfl (by kernel_rfl) _ rfl HA.out.1 HU.out.x ?_)
  refine (long_any' HU.out.x (HU.out.below HA.out.2).r).mono ?_
  rintro e w1 ⟨rfl, b1⟩
  have HA := Lib.hid (And.intro (kb_below b1 HA.out.1) (bl_then HA.out.2 b1))
  clear b1
  by_cases hla : 70 < c.vs.length
  · rw [decide_eq_true hla]
    clear hla
    go_wp2_with fail
    go_ret
    exact ⟨rfl, HA.out.2⟩
  rw [decide_eq_false hla]
  by_cases hlb : 1000 < xs.length
  · have hlb' : (1000 : Int) < (xs.length : Int) := by omega
    go_wp2_with fail
    go_ret
    exact ⟨rfl, HA.out.2⟩
  have hlb' : ¬ (1000 : Int) < (xs.length : Int) := by omega
  have HL := Lib.hid (And.intro hla hlb)
  clear hla hlb
  go_wp2_with fail
  refine (Decode_any (xs := xs) (HB.out.below HA.out.2) (by have := HL.out.2; omega)).mono ?_
  rintro e wA1 ⟨va1, rfl, n⟩
  have h1 := own1 n.1
  have N := Lib.hid n
  clear n
  go_wp2_with (refine wpList_store_c (op := ⟨none, .store 26 _ _, _, _, _, _⟩) rfl _ _ rfl _ rfl rfl (kb_alloc (kb_new rfl _) _) rfl HX1.out h1 ?_)
  intro wB1 g3 k3
  obtain ⟨d3, b3, F3⟩ := Dx.made (w := w) ((decF (xs)).1 : Int) ((decF (xs)).2 : Int) N.out g3 k3
  have HD1 := Lib.hid d3
  have HA := Lib.hid (And.intro (kb_below b3 HA.out.1) (bl_then HA.out.2 b3))
  obtain ⟨f0, f1, z0, z1⟩ := flt_cells F3
  clear d3 b3 F3 g3 k3 N
  go_upto_region 5 with fail
  clear f0 f1 z0 z1
  generalize hw4 : (wB1.setCell _ _).setCell _ _ = wC1 at *
  clear hw4 h1
  generalize wA1.heap.size = z1 at *
  go_wp2_with (with_reducible refine wpList_load_cw _ rfl (by kernel_rfl) _ rfl HD1.out.c0 HX1.out ?_)
  refine (Encode_any HX1.out (VRow.of_own HD1.out.o) (by have := HN1.out; omega) HG1.out).mono ?_
  rintro e w5 ⟨vb, rfl, n5⟩
  generalize hq5 : (if chk (decR xs) = 0 then encB (decR xs) else []) = as5 at n5
  have HQ5 := Lib.hid hq5
  clear hq5
  obtain ⟨A5, c5, rfl⟩ := owns_slice0 n5.1
  have HA := Lib.hid (And.intro (kb_below n5.2 HA.out.1) (bl_then HA.out.2 n5.2))
  have HD1 := Lib.hid (HD1.out.below n5.2)
  have HN5 := Lib.hid n5
  clear n5
  go_upto_region 6 with fail
  go_cut [8, 9, 10, 11, 74] from 20 to 74 (fun _ _ _ _ s74 wx => s74 = .bool false ∧ Hid (wx.heap[w.heap.size]? = some (.cells (ccs c u).toArray 26 (0, 0)) ∧ Below w.heap.size w wx))
  case first =>
    obtain ⟨f0, f1, z0, z1⟩ := flt_cells HD1.out.f0
    by_cases hF : decF xs = (0, 0)
    · obtain ⟨k0, k1⟩ := enc_dec hF
      obtain rfl : xs = as5 := by rw [← HQ5.out, if_pos k0, k1]
      have HN5 := Lib.hid HN5.out.bytes
      rw [k0]
      have hq := eql_flt ((decF xs).1 : Int) ((decF xs).2 : Int) 0 0
      rw [show decide (((decF xs).1 : Int) = 0 ∧ ((decF xs).2 : Int) = 0) = true by rw [hF]; simp] at hq
      have hr := neq_flt ((decF xs).1 : Int) ((decF xs).2 : Int) 0 0
      rw [show decide (((decF xs).1 : Int) = 0 ∧ ((decF xs).2 : Int) = 0) = true by rw [hF]; simp] at hr
      clear hF k0 k1
      go_wp2_with fail
      refine (SameBytes_any HN5.out (HB.out.below HA.out.2)).mono ?_
      rintro e w6 ⟨rfl, rfl⟩
      rw [show (xs == xs) = true by simp]
      go_wp2_with fail
      go_meet
      case rel => exact ⟨by simp, HA⟩
    · have hq := eql_flt ((decF xs).1 : Int) ((decF xs).2 : Int) 0 0
      have hF' : ¬ (((decF xs).1 : Int) = 0 ∧ ((decF xs).2 : Int) = 0) := fun h => hF (Prod.ext (by have := h.1; omega) (by have := h.2; omega))
      rw [decide_eq_false hF'] at hq
      have hr := neq_flt ((decF xs).1 : Int) ((decF xs).2 : Int) 0 0
      rw [decide_eq_false hF'] at hr
      have hR := Lib.hid (decR_no hF)
      have hin := decF_in xs
      have i1 : ¬ ((decF xs).2 : Int) < 0 := by omega
      have i2 : ¬ (xs.length : Int) < ((decF xs).2 : Int) := by omega
      clear hF hF' hin
      go_wp2_with (with_reducible refine wpList_load_cw _ rfl (by kernel_rfl) _ rfl HD1.out.c0 HX1.out ?_)
      refine (SameCommit_any (c := decR xs) (d := cZ) (v := vZ) HX1.out cZ_x (VRow.of_own HD1.out.o) (VRow.nil _) (by have := HN1.out; omega) (by simp [cZ])).mono ?_
      rintro e w6 ⟨rfl, b6⟩
      rw [show sameC (decR xs) cZ = true by rw [hR.out]; exact sameC_refl _]
      have HA := Lib.hid (And.intro (kb_below b6 HA.out.1) (bl_then HA.out.2 b6))
      have HD1 := Lib.hid (HD1.out.below b6)
      clear b6 f0 f1 z0 z1
      obtain ⟨f0, f1, z0, z1⟩ := flt_cells HD1.out.f0
      go_wp2_with fail
      go_meet
      case rel => exact ⟨by simp [decF_in xs], HA⟩
  case rest =>
    obtain ⟨rfl, HA⟩ := hcut
    clear HN5 HD1 HX1 HN1 HG1
    go_wp2_with (with_reducible refine wpList_load_cw _ rfl (by kernel_rfl) _ rfl HA.out.1 HU.out.x ?_)
    refine (Check_any' HU.out.x (HU.out.below HA.out.2).r (by have := HL.out.1; omega)).mono ?_
    rintro e w8 ⟨rfl, b8⟩
    have HA := Lib.hid (And.intro (kb_below b8 HA.out.1) (bl_then HA.out.2 b8))
    clear b8
    by_cases hk : chk c = 0
    case neg =>
      have hk' : ¬ ((chk c : Nat) : Int) = 0 := by omega
      go_wp2_with fail
      go_ret
      exact ⟨rfl, HA.out.2⟩
    rw [hk]
    go_wp2_with (with_reducible refine wpList_load_cw _ rfl (by kernel_rfl) _ rfl HA.out.1 HU.out.x ?_)
    refine (Encode_any HU.out.x (HU.out.below HA.out.2).r (by have := HL.out.1; omega) HG.out).mono ?_
    rintro e w9 ⟨vd, rfl, n9⟩
    rw [hk]
    rw [if_pos hk] at n9
    have F1 := dec_enc HU.out.x hk HG.out
    have F2 := fun k (h : k < (encB c).length) => dec_less (k := k) HU.out.x hk HG.out h
    have F3 := dec_more 0 HU.out.x hk HG.out
    have hlen : (encB c).length ≤ 1200 := by
      have h1 := encAt_len HU.out.x c.vs.length
      have h2 := (chk_parts hk).2.2.1
      unfold encB; omega
    have hpos := encB_pos c
    clear hk
    generalize encB c = bs at n9 F1 F2 F3 hlen hpos
    obtain ⟨g, cp, hvd, hcp⟩ : ∃ g cp, vd = .slice (some ⟨g, 0, none⟩) bs.length cp ∧ bs.length ≤ cp := by
      rcases n9.1.2 with ⟨_, h0⟩ | ⟨g, cap, cur, e, _, _, h1, _⟩
      · omega
      · exact ⟨g, cap, e, h1⟩
    subst hvd
    have HE := Lib.hid n9.1
    have HA := Lib.hid (And.intro (kb_below n9.2 HA.out.1) (bl_then HA.out.2 n9.2))
    clear n9
    have hm : (bs.length : Int) ≤ 4611686018427387904 := by omega
    have hp0 : (0 : Int) < (bs.length : Int) := by omega
    obtain ⟨pk0, pk1⟩ := pick_bd (x := p) hp0
    obtain ⟨k, hk⟩ := Int.eq_ofNat_of_zero_le pk0
    have hkl : k < bs.length := by omega
    have HK := Lib.hid hk
    have HF1 := Lib.hid F1
    have HF2 := Lib.hid (F2 k hkl)
    have HF3 := Lib.hid F3
    have HM := Lib.hid (And.intro hm (And.intro hlen hkl))
    have HX2 := Lib.hid (decR_x bs)
    have HX3 := Lib.hid (decR_x (bs.take k))
    have HX4 := Lib.hid (decR_x (bs ++ [0]))
    clear F1 F2 F3 hm hp0 pk0 pk1 hk hlen hpos
    go_wp2_with fail
    refine (Decode_any (xs := bs) (RowOf.of_own HE.out) (by have := HM.out.2.1; omega)).mono ?_
    rintro e wA2 ⟨va2, rfl, n⟩
    have h1 := own1 n.1
    have N := Lib.hid n
    clear n
    go_wp2_with (refine wpList_store_c (op := ⟨none, .store 26 _ _, _, _, _, _⟩) rfl _ _ rfl _ rfl rfl (kb_alloc (kb_new rfl _) _) rfl HX2.out h1 ?_)
    intro wB2 g3 k3
    obtain ⟨d3, b3, F3⟩ := Dx.made (w := w) ((decF (bs)).1 : Int) ((decF (bs)).2 : Int) N.out g3 k3
    have HD2 := Lib.hid d3
    have HA := Lib.hid (And.intro (kb_below b3 HA.out.1) (bl_then HA.out.2 b3))
    have HE := Lib.hid ((Keep.of_below (S := fun _ => False) b3).row HE.out (fun _ _ e => e))
    obtain ⟨f0, f1, z0, z1⟩ := flt_cells F3
    clear d3 b3 F3 g3 k3 N
    go_upto_region 12 with fail
    clear f0 f1 z0 z1
    generalize hw4 : (wB2.setCell _ _).setCell _ _ = wC2 at *
    clear hw4 h1
    generalize wA2.heap.size = z2 at *
    go_wp2_with fail
    refine (Pick_any p (bs.length : Int) _ HM.out.1).mono ?_
    rintro e w12 ⟨rfl, rfl⟩
    rw [HK.out]
    have hk1 : k ≤ cp := by omega
    go_wp2_with fail
    refine (Decode_any (xs := bs.take k) (bytes_take HE.out (Nat.le_of_lt HM.out.2.2)) (by have := HM.out.2.1; rw [List.length_take]; omega)).mono ?_
    rintro e wA3 ⟨va3, rfl, n⟩
    have h1 := own1 n.1
    have N := Lib.hid n
    clear n
    go_wp2_with (refine wpList_store_c (op := ⟨none, .store 26 _ _, _, _, _, _⟩) rfl _ _ rfl _ rfl rfl (kb_alloc (kb_new rfl _) _) rfl HX3.out h1 ?_)
    intro wB3 g3 k3
    obtain ⟨d3, b3, F3⟩ := Dx.made (w := w) ((decF (bs.take k)).1 : Int) ((decF (bs.take k)).2 : Int) N.out g3 k3
    have HD3 := Lib.hid d3
    have HA := Lib.hid (And.intro (kb_below b3 HA.out.1) (bl_then HA.out.2 b3))
    have HE := Lib.hid ((Keep.of_below (S := fun _ => False) b3).row HE.out (fun _ _ e => e))
    have HD2 := Lib.hid (HD2.out.below b3)
    obtain ⟨f0, f1, z0, z1⟩ := flt_cells F3
    clear d3 b3 F3 g3 k3 N
    go_upto_region 13 with fail
    clear f0 f1 z0 z1
    generalize hw4 : (wB3.setCell _ _).setCell _ _ = wC3 at *
    clear hw4 h1
    generalize wA3.heap.size = z3 at *
    go_wp2_with fail
    refine (CopyBytes_any (RowOf.of_own HE.out) (by have := HM.out.2.1; omega)).mono ?_
    rintro e w13 ⟨v13, rfl, n13⟩
    obtain ⟨A13, c13, rfl⟩ := owns_slice0 n13.1
    have H13 := Lib.hid n13.2
    have H4 := Lib.hid (show RowOf (w13.alloc (.cells #[.int .u8 0] 5)) (.slice (some ⟨w13.heap.size, 0, none⟩) 1 1) 1 (u8s [0]) from RowOf.lit (cap := 1) (cs := #[.int .u8 0]) (kb_new rfl _) rfl)
    have HO := Lib.hid (n13.1.alloc (.cells #[.int .u8 0] 5))
    clear n13
    go_wp2_with (at_builtin; refine wpList_append_row _ rfl _ _ 58 rfl wC3.heap.size 5 i0 (.int .u8 0) 1 Try.underlying58 hi hz0 hz1 hz2 rfl _ _ _ rfl HO.out _ _ _ rfl H4.out (u8s_one _) ?c3 ?c4 ?c5 ?_)
    case c3 => have := HM.out.2.1; unfold maxLen; omega
    case c4 => have := HM.out.2.1; omega
    case c5 => have := H13.out.size; simp; omega
    intro v14 w14 hown2 hgrow2 _ _
    have b14 : Below wC3.heap.size wC3 w14 := (bl_alloc H13.out _).grown hgrow2 (by simp; have := H13.out.size; omega) (fun j hj => (HO.out.lt j hj).1)
    rw [← u8s_append] at hown2
    obtain ⟨A14, c14, rfl⟩ := owns_slice0 hown2
    have HE14 := Lib.hid hown2
    have HA := Lib.hid (And.intro (kb_below b14 HA.out.1) (bl_then HA.out.2 b14))
    have HE := Lib.hid ((Keep.of_below (S := fun _ => False) b14).row HE.out (fun _ _ e => e))
    have HD2 := Lib.hid (HD2.out.below b14)
    have HD3 := Lib.hid (HD3.out.below b14)
    clear hown2 hgrow2 b14 H4 HO H13
    go_wp2_with fail
    refine (Decode_any (xs := bs ++ [0]) (by have h := RowOf.of_own HE14.out; show RowOf _ _ (bs ++ [0]).length _; rw [List.length_append]; exact h) (by have := HM.out.2.1; rw [List.length_append]; simp; omega)).mono ?_
    rintro e wA4 ⟨va4, rfl, n⟩
    have h1 := own1 n.1
    have N := Lib.hid n
    clear n
    go_wp2_with (refine wpList_store_c (op := ⟨none, .store 26 _ _, _, _, _, _⟩) rfl _ _ rfl _ rfl rfl (kb_alloc (kb_new rfl _) _) rfl HX4.out h1 ?_)
    intro wB4 g3 k3
    obtain ⟨d3, b3, F3⟩ := Dx.made (w := w) ((decF (bs ++ [0])).1 : Int) ((decF (bs ++ [0])).2 : Int) N.out g3 k3
    have HD4 := Lib.hid d3
    have HA := Lib.hid (And.intro (kb_below b3 HA.out.1) (bl_then HA.out.2 b3))
    have HD2 := Lib.hid (HD2.out.below b3)
    have HD3 := Lib.hid (HD3.out.below b3)
    obtain ⟨f0, f1, z0, z1⟩ := flt_cells F3
    clear d3 b3 F3 g3 k3 N
    go_upto_region 14 with fail
    clear f0 f1 z0 z1
    generalize hw4 : (wB4.setCell _ _).setCell _ _ = wC4 at *
    clear hw4 h1
    generalize wA4.heap.size = z4 at *
    have hq := eql_flt ((decF bs).1 : Int) ((decF bs).2 : Int) 0 0
    rw [show decide (((decF bs).1 : Int) = 0 ∧ ((decF bs).2 : Int) = 0) = true by rw [HF1.out.1]; simp] at hq
    have hq4 := eql_flt ((decF (bs ++ [0])).1 : Int) ((decF (bs ++ [0])).2 : Int) 4 (bs.length : Int)
    rw [show decide (((decF (bs ++ [0])).1 : Int) = 4 ∧ ((decF (bs ++ [0])).2 : Int) = (bs.length : Int)) = true by rw [HF3.out]; simp] at hq4
    have hne : ¬ ((decF (bs.take k)).1 : Int) = 0 := by have := HF2.out; omega
    have hne' : (((decF (bs.take k)).1 : Int) != 0) = true := by simpa using hne
    obtain ⟨f0, f1, z0, z1⟩ := flt_cells HD2.out.f0
    go_wp2_with (first
      | (with_reducible refine wpList_load_cw _ rfl (by kernel_rfl) _ rfl HD2.out.c0 HX2.out ?_)
      | (with_reducible refine wpList_load_cw _ rfl (by kernel_rfl) _ rfl HA.out.1 HU.out.x ?_))
    refine (SameCommit_any (c := decR bs) (d := c) HX2.out HU.out.x (VRow.of_own HD2.out.o) (HU.out.below HA.out.2).r (by have := decR_len bs; omega) (by have := HL.out.1; omega)).mono ?_
    rintro e w15 ⟨rfl, b15⟩
    rw [show sameC (decR bs) c = true by rw [HF1.out.2]; exact sameC_refl _]
    have HA := Lib.hid (And.intro (kb_below b15 HA.out.1) (bl_then HA.out.2 b15))
    have HD3 := Lib.hid (HD3.out.below b15)
    have HD4 := Lib.hid (HD4.out.below b15)
    clear b15 f0 f1 z0 z1 HD2
    obtain ⟨f0, f1, z0, z1⟩ := flt_cells HD3.out.f0
    obtain ⟨g0, g1, y0, y1⟩ := flt_cells HD4.out.f0
    go_wp2_with fail
    go_ret
    exact ⟨rfl, HA.out.2⟩
end Go.Proofs.Ytooghjnddifpdaa
