/- The walk of CommitKnown. -/
import Derived.Test.YtooghjnddifpdaaCm20
import Derived.Test.YtooghjnddifpdaaCm24
namespace Go.Proofs.Ytooghjnddifpdaa
open Go.RowKit Go.Proofs.Ytooghjnddifpdaa.Cm BigFrame
set_option linter.unusedSimpArgs false
set_option linter.unusedVariables false
attribute [local go_sem] cell_alloc_some frozen_alloc_some

set_option maxRecDepth 100000 in
set_option maxHeartbeats 8000000 in
theorem CommitKnown_walk (w : World) : Calls Try.prog 4 #[] w fun e w' => e = .returned (.bool true) ∧ Below w.heap.size w w' := by
  go_enter Try.func4, Try.ntmps4
  go_wp2_with fail
  refine (of_any 5 (turns_nil (w := w)) (by simp) (by rfl)).mono ?_
  rintro e w1 ⟨v1, rfl, n1⟩
  have HB1 := Lib.hid (bl_then (bl_then (Below.refl w.heap.size w) (Below.refl _ _)) n1.2)
  have HV1 := Lib.hid n1.row
  obtain ⟨A1, c1, rfl⟩ := owns_slice0 n1.1
  clear n1
  go_wp2_with fail
  refine (Of_any' 0 (ofC_x 5 []) HV1.out (by simp [ofC])).mono ?_
  rintro e w2 ⟨rfl, b2⟩
  have HB2 := Lib.hid (bl_then HB1.out b2)
  have HV1 := Lib.hid (HV1.out.below b2)
  clear b2
  rw [show sigR (ofC 5 []).vs 0 = (0, false) by decide]
  go_wp2_with fail
  refine (of_any 5 (turns_lit (l := [⟨0, 7⟩, ⟨2, 9⟩]) (kb_new (w := w2) rfl _) rfl (by simp)) (by simp) (by rfl)).mono ?_
  rintro e w3 ⟨v3, rfl, n3⟩
  have HB3 := Lib.hid (bl_then (bl_then HB2.out (bl_alloc (Below.refl _ _) (.cells #[.int .i64 0, .int .i64 7, .int .i64 2, .int .i64 9] 3))) n3.2)
  have HV3 := Lib.hid n3.row
  obtain ⟨A3, c3, rfl⟩ := owns_slice0 n3.1
  clear n3
  go_wp2_with fail
  refine (keys_any _).mono ?_
  rintro e w4 ⟨v4, rfl, r4, b4⟩
  have HB4 := Lib.hid (bl_then HB3.out b4)
  have HV3 := Lib.hid (HV3.out.below b4)
  have HV4 := Lib.hid r4
  obtain ⟨A4, c4, rfl⟩ := r4.form
  clear r4 b4
  go_wp2_with fail
  refine (Who_any (c := ofC 5 [⟨0, 7⟩, ⟨2, 9⟩]) (ks := valsABC) (ofC_x 5 _) HV3.out HV4.out (by simp [ofC]) (by decide)).mono ?_
  rintro e w5 ⟨v5, rfl, o5, b5⟩
  rw [show whoE valsABC (ofC 5 [⟨0, 7⟩, ⟨2, 9⟩]) = 0 by decide]
  rw [show whoL valsABC (ofC 5 [⟨0, 7⟩, ⟨2, 9⟩]) = [kA, kC] by decide] at o5
  have HB5 := Lib.hid (bl_then HB4.out b5)
  have HV3 := Lib.hid (HV3.out.below b5)
  have HV4 := Lib.hid (HV4.out.below b5)
  have HV5 := Lib.hid (GRow.of_own kcs_len (by decide) o5)
  obtain ⟨A5, c5, rfl⟩ := owns_slice0 o5
  clear o5 b5
  go_wp2_with fail
  refine (of_any 5 (turns_lit (l := [⟨3, 9⟩]) (kb_new (w := w5) rfl _) rfl (by simp)) (by simp) (by rfl)).mono ?_
  rintro e w6 ⟨v6, rfl, n6⟩
  have HB6 := Lib.hid (bl_then (bl_then HB5.out (bl_alloc (Below.refl _ _) (.cells #[.int .i64 3, .int .i64 9] 3))) n6.2)
  have HV5 := Lib.hid (HV5.out.below (bl_then (bl_alloc (Below.refl _ _) (.cells #[.int .i64 3, .int .i64 9] 3)) n6.2))
  have HV6 := Lib.hid n6.row
  obtain ⟨A6, c6, rfl⟩ := owns_slice0 n6.1
  clear n6
  go_wp2_with fail
  refine (keys_any _).mono ?_
  rintro e w7 ⟨v7, rfl, r7, b7⟩
  have HB7 := Lib.hid (bl_then HB6.out b7)
  have HV5 := Lib.hid (HV5.out.below b7)
  have HV6 := Lib.hid (HV6.out.below b7)
  have HV7 := Lib.hid r7
  obtain ⟨A7, c7, rfl⟩ := r7.form
  clear r7 b7
  go_wp2_with fail
  refine (Who_any (c := ofC 5 [⟨3, 9⟩]) (ks := valsABC) (ofC_x 5 _) HV6.out HV7.out (by simp [ofC]) (by decide)).mono ?_
  rintro e w8 ⟨v8, rfl, o8, b8⟩
  rw [show whoE valsABC (ofC 5 [⟨3, 9⟩]) = 3 by decide]
  rw [show whoL valsABC (ofC 5 [⟨3, 9⟩]) = [] by decide] at o8
  have HB8 := Lib.hid (bl_then HB7.out b8)
  have HV5 := Lib.hid (HV5.out.below b8)
  have HV6 := Lib.hid (HV6.out.below b8)
  have HV7 := Lib.hid (HV7.out.below b8)
  have HV8 := Lib.hid (GRow.of_own kcs_len (by decide) o8)
  obtain ⟨A8, c8, rfl⟩ := owns_slice0 o8
  clear o8 b8
  go_wp2_with fail
  refine (of_any 5 (turns_lit (l := [⟨0, 7⟩, ⟨3, 9⟩]) (kb_new (w := w8) rfl _) rfl (by simp)) (by simp) (by rfl)).mono ?_
  rintro e w9 ⟨v9, rfl, n9⟩
  have HB9 := Lib.hid (bl_then (bl_then HB8.out (bl_alloc (Below.refl _ _) (.cells #[.int .i64 0, .int .i64 7, .int .i64 3, .int .i64 9] 3))) n9.2)
  have HV5 := Lib.hid (HV5.out.below (bl_then (bl_alloc (Below.refl _ _) (.cells #[.int .i64 0, .int .i64 7, .int .i64 3, .int .i64 9] 3)) n9.2))
  have HV9 := Lib.hid n9.row
  obtain ⟨A9, c9, rfl⟩ := owns_slice0 n9.1
  clear n9
  go_wp2_with fail
  refine (Check_any' (c := ofC 5 [⟨0, 7⟩, ⟨3, 9⟩]) (ofC_x 5 _) HV9.out (by simp [ofC])).mono ?_
  rintro e w10 ⟨rfl, b10⟩
  have HB10 := Lib.hid (bl_then HB9.out b10)
  have HV5 := Lib.hid (HV5.out.below b10)
  have HV9 := Lib.hid (HV9.out.below b10)
  clear b10
  rw [show chk (ofC 5 [⟨0, 7⟩, ⟨3, 9⟩]) = 0 by decide]
  go_wp2_with fail
  refine (of_any 5 (turns_lit (l := [⟨3, 1⟩, ⟨3, 1⟩]) (kb_new (w := w10) rfl _) rfl (by simp)) (by simp) (by rfl)).mono ?_
  rintro e w11 ⟨v11, rfl, n11⟩
  have HB11 := Lib.hid (bl_then (bl_then HB10.out (bl_alloc (Below.refl _ _) (.cells #[.int .i64 3, .int .i64 1, .int .i64 3, .int .i64 1] 3))) n11.2)
  have HV5 := Lib.hid (HV5.out.below (bl_then (bl_alloc (Below.refl _ _) (.cells #[.int .i64 3, .int .i64 1, .int .i64 3, .int .i64 1] 3)) n11.2))
  have HV11 := Lib.hid n11.row
  obtain ⟨A11, c11, rfl⟩ := owns_slice0 n11.1
  clear n11
  go_wp2_with fail
  refine (Check_any' (c := ofC 5 [⟨3, 1⟩, ⟨3, 1⟩]) (ofC_x 5 _) HV11.out (by simp [ofC])).mono ?_
  rintro e w12 ⟨rfl, b12⟩
  have HB12 := Lib.hid (bl_then HB11.out b12)
  have HV5 := Lib.hid (HV5.out.below b12)
  have HV11 := Lib.hid (HV11.out.below b12)
  clear b12
  rw [show chk (ofC 5 [⟨3, 1⟩, ⟨3, 1⟩]) = 9 by decide]
  go_wp2_with fail
  refine (of_any 5 (turns_lit (l := [⟨64, 1⟩]) (kb_new (w := w12) rfl _) rfl (by simp)) (by simp) (by rfl)).mono ?_
  rintro e w13 ⟨v13, rfl, n13⟩
  have HB13 := Lib.hid (bl_then (bl_then HB12.out (bl_alloc (Below.refl _ _) (.cells #[.int .i64 64, .int .i64 1] 3))) n13.2)
  have HV5 := Lib.hid (HV5.out.below (bl_then (bl_alloc (Below.refl _ _) (.cells #[.int .i64 64, .int .i64 1] 3)) n13.2))
  have HV13 := Lib.hid n13.row
  obtain ⟨A13, c13, rfl⟩ := owns_slice0 n13.1
  clear n13
  go_wp2_with fail
  refine (Check_any' (c := ofC 5 [⟨64, 1⟩]) (ofC_x 5 _) HV13.out (by simp [ofC])).mono ?_
  rintro e w14 ⟨rfl, b14⟩
  have HB14 := Lib.hid (bl_then HB13.out b14)
  have HV5 := Lib.hid (HV5.out.below b14)
  have HV13 := Lib.hid (HV13.out.below b14)
  clear b14
  rw [show chk (ofC 5 [⟨64, 1⟩]) = 3 by decide]
  go_wp2_with fail
  refine (of_any 5 (turns_lit (l := [⟨3, 9⟩]) (kb_new (w := w14) rfl _) rfl (by simp)) (by simp) (by rfl)).mono ?_
  rintro e w15 ⟨v15, rfl, n15⟩
  have HB15 := Lib.hid (bl_then (bl_then HB14.out (bl_alloc (Below.refl _ _) (.cells #[.int .i64 3, .int .i64 9] 3))) n15.2)
  have HV5 := Lib.hid (HV5.out.below (bl_then (bl_alloc (Below.refl _ _) (.cells #[.int .i64 3, .int .i64 9] 3)) n15.2))
  have HV15 := Lib.hid n15.row
  obtain ⟨A15, c15, rfl⟩ := owns_slice0 n15.1
  clear n15
  go_wp2_with fail
  refine (adds_yes (c := ofC 5 [⟨3, 9⟩]) (d := cZ) (v := vZ) 3 9 8 (ofC_x 5 _) cZ_x HV15.out (VRow.nil _) (by simp [ofC]) (by simp [cZ]) (by decide) (by decide) (by decide)).mono ?_
  rintro e w16 ⟨rfl, b16⟩
  have HB16 := Lib.hid (bl_then HB15.out b16)
  have HV5 := Lib.hid (HV5.out.below b16)
  have HV15 := Lib.hid (HV15.out.below b16)
  clear b16
  go_wp2_with fail
  refine (of_any 5 (turns_nil (w := w16)) (by simp) (by rfl)).mono ?_
  rintro e w17 ⟨v17, rfl, n17⟩
  have HB17 := Lib.hid (bl_then (bl_then HB16.out (Below.refl _ _)) n17.2)
  have HV5 := Lib.hid (HV5.out.below (bl_then (Below.refl _ _) n17.2))
  have HV17 := Lib.hid n17.row
  obtain ⟨A17, c17, rfl⟩ := owns_slice0 n17.1
  clear n17
  go_wp2_with fail
  refine (adds_yes (c := ofC 5 []) (d := cZ) (v := vZ) (-1) 1 3 (ofC_x 5 _) cZ_x HV17.out (VRow.nil _) (by simp [ofC]) (by simp [cZ]) (by decide) (by decide) (by decide)).mono ?_
  rintro e w18 ⟨rfl, b18⟩
  have HB18 := Lib.hid (bl_then HB17.out b18)
  have HV5 := Lib.hid (HV5.out.below b18)
  have HV17 := Lib.hid (HV17.out.below b18)
  clear b18
  go_wp2_with fail
  refine (SameKeys_any (l := [kA, kC]) (m := [kA, kC]) (HV5.out.below (bl_alloc (Below.refl _ _) (.cells #[.int .u8 97, .int .u8 0, .int .u8 0, .int .u8 0, .int .u8 99, .int .u8 0, .int .u8 0, .int .u8 0] 52))) (GRow.lit (l := [kA, kC]) (kb_new (w := w18) rfl (.cells #[.int .u8 97, .int .u8 0, .int .u8 0, .int .u8 0, .int .u8 99, .int .u8 0, .int .u8 0, .int .u8 0] 52)) rfl) (by decide) (by decide)).mono ?_
  rintro e w19 ⟨rfl, b19⟩
  rw [show decide ([kA, kC] = [kA, kC]) = true by decide]
  have HB19 := Lib.hid (bl_then (bl_then HB18.out (bl_alloc (Below.refl _ _) (.cells #[.int .u8 97, .int .u8 0, .int .u8 0, .int .u8 0, .int .u8 99, .int .u8 0, .int .u8 0, .int .u8 0] 52))) b19)
  clear b19
  go_wp2_with fail
  refine (awake_yes _).mono ?_
  rintro e w20 ⟨rfl, b20⟩
  have HB20 := Lib.hid (bl_then HB19.out b20)
  clear b20
  go_wp2_with fail
  refine (of_any 5 (turns_lit (l := [⟨0, 7⟩]) (kb_new (w := w20) rfl _) rfl (by simp)) (by simp) (by rfl)).mono ?_
  rintro e w21 ⟨v21, rfl, n21⟩
  have HB21 := Lib.hid (bl_then (bl_then HB20.out (bl_alloc (Below.refl _ _) (.cells #[.int .i64 0, .int .i64 7] 3))) n21.2)
  have HV21 := Lib.hid n21.row
  obtain ⟨A21, c21, rfl⟩ := owns_slice0 n21.1
  clear n21
  go_wp2_with fail
  refine (of_any 5 (turns_lit (l := [⟨0, 8⟩]) (kb_new (w := w21) rfl _) rfl (by simp)) (by simp) (by rfl)).mono ?_
  rintro e w22 ⟨v22, rfl, n22⟩
  have HB22 := Lib.hid (bl_then (bl_then HB21.out (bl_alloc (Below.refl _ _) (.cells #[.int .i64 0, .int .i64 8] 3))) n22.2)
  have HV21 := Lib.hid (HV21.out.below (bl_then (bl_alloc (Below.refl _ _) (.cells #[.int .i64 0, .int .i64 8] 3)) n22.2))
  have HV22 := Lib.hid n22.row
  obtain ⟨A22, c22, rfl⟩ := owns_slice0 n22.1
  clear n22
  go_wp2_with fail
  refine (joins_yes (a := ofC 5 [⟨0, 7⟩]) (b := ofC 5 [⟨0, 8⟩]) (d := cZ) (v := vZ) 8 (ofC_x 5 _) (ofC_x 5 _) cZ_x HV21.out HV22.out (VRow.nil _) (by simp [ofC]) (by simp [ofC]) (by simp [cZ]) (by decide) (by decide)).mono ?_
  rintro e w23 ⟨rfl, b23⟩
  have HB23 := Lib.hid (bl_then HB22.out b23)
  have HV21 := Lib.hid (HV21.out.below b23)
  have HV22 := Lib.hid (HV22.out.below b23)
  clear b23
  go_wp2_with fail
  refine (of_any 5 (turns_nil (w := w23)) (by simp) (by rfl)).mono ?_
  rintro e w24 ⟨v24, rfl, n24⟩
  have HB24 := Lib.hid (bl_then (bl_then HB23.out (Below.refl _ _)) n24.2)
  have HV24 := Lib.hid n24.row
  obtain ⟨A24, c24, rfl⟩ := owns_slice0 n24.1
  clear n24
  go_wp2_with fail
  refine (of_any 6 (turns_nil (w := w24)) (by simp) (by rfl)).mono ?_
  rintro e w25 ⟨v25, rfl, n25⟩
  have HB25 := Lib.hid (bl_then (bl_then HB24.out (Below.refl _ _)) n25.2)
  have HV24 := Lib.hid (HV24.out.below (bl_then (Below.refl _ _) n25.2))
  have HV25 := Lib.hid n25.row
  obtain ⟨A25, c25, rfl⟩ := owns_slice0 n25.1
  clear n25
  go_wp2_with fail
  refine (joins_yes (a := ofC 5 []) (b := ofC 6 []) (d := cZ) (v := vZ) 9 (ofC_x 5 _) (ofC_x 6 _) cZ_x HV24.out HV25.out (VRow.nil _) (by simp [ofC]) (by simp [ofC]) (by simp [cZ]) (by decide) (by decide)).mono ?_
  rintro e w26 ⟨rfl, b26⟩
  have HB26 := Lib.hid (bl_then HB25.out b26)
  have HV24 := Lib.hid (HV24.out.below b26)
  have HV25 := Lib.hid (HV25.out.below b26)
  clear b26
  go_wp2_with fail
  go_ret
  exact ⟨rfl, HB26.out⟩
end Go.Proofs.Ytooghjnddifpdaa
