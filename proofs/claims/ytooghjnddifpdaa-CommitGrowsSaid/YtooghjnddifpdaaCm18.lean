/- The document's Join. -/
import Derived.Test.YtooghjnddifpdaaCm17
namespace Go.Proofs.Ytooghjnddifpdaa
open Go.RowKit Go.Proofs.Ytooghjnddifpdaa.Cm BigFrame
set_option linter.unusedSimpArgs false
set_option linter.unusedVariables false
attribute [local go_sem] cell_alloc_some frozen_alloc_some

/-- What is left to be laid in. -/
structure Rj (a b : List Vt) (k : Nat) (L : List Vt) : Prop where
  j : refJ a a b = refJ a L (b.drop k)
  n : L.length ≤ a.length + k
theorem Rj.zero (a b : List Vt) : Rj a b 0 a := ⟨by simp, by simp⟩
theorem refJ_cons (a L : List Vt) (v : Vt) (r : List Vt) : refJ a L (v :: r) = match findV a v.p with
    | none => refJ a (laidV L v) r
    | some g => if g = v.g then refJ a L r else none := by
  conv => lhs; unfold refJ
  cases findV a v.p <;> rfl
theorem Rj.laid {a b L : List Vt} {k : Nat} (h : Rj a b k L) (hk : k < b.length) (hf : findV a (vAt b k).p = none) : Rj a b (k + 1) (laidV L (vAt b k)) := by
  refine ⟨?_, by rw [laid_len]; have := h.n; omega⟩
  rw [h.j, drop_at hk, refJ_cons, hf]
theorem Rj.same {a b L : List Vt} {k : Nat} (h : Rj a b k L) (hk : k < b.length) (hf : findV a (vAt b k).p = some (vAt b k).g) : Rj a b (k + 1) L := by
  refine ⟨?_, by have := h.n; omega⟩
  rw [h.j, drop_at hk, refJ_cons, hf]
  simp
theorem Rj.bad {a b L : List Vt} {k g : Nat} (h : Rj a b k L) (hk : k < b.length) (hf : findV a (vAt b k).p = some g) (hg : g ≠ (vAt b k).g) : refJ a a b = none := by
  rw [h.j, drop_at hk, refJ_cons, hf]
  simp [hg]
theorem Rj.end {a b L : List Vt} (h : Rj a b b.length L) : refJ a a b = some L := by
  rw [h.j]; simp [refJ]
theorem ref_is {a b : List Vt} (h : Rs (-1) b) : refJ a a b = joinP a b := ref_join h (fun _ _ => rfl)

set_option maxRecDepth 100000 in
set_option maxHeartbeats 4000000 in
theorem rJoin_any {w : World} {a b : C} {u v : Value} (ha : a.x.length = 32) (hb : b.x.length = 32) (hu : VRow w u a.vs) (hv : VRow w v b.vs) (hla : a.vs.length ≤ 1000) (hlb : b.vs.length ≤ 1000) :
    Calls Try.prog 15 #[.agg (ccs a u).toArray, .agg (ccs b v).toArray] w (COut (joinC a b) (joinE a b) w) := by
  have HU := Lib.hid hu
  have HV := Lib.hid hv
  have HX := Lib.hid (And.intro ha hb)
  obtain ⟨A, c, huu⟩ := hu.form
  subst huu
  obtain ⟨B, d, hvv⟩ := hv.form
  subst hvv
  clear hu hv ha hb
  go_enter Try.func15, Try.ntmps15
  go_upto_region 1 with fail
  refine wp_world fun wA hwA => ?_
  have hA : JoinIn w wA a b (.slice A a.vs.length c) (.slice B b.vs.length d) := by rw [hwA]; exact JoinIn.mk' w a b _ _
  have HA := Lib.hid (hA.below (bl_drew (Below.refl _ _)))
  clear hwA hA
  refine wp_region_held_drew (S := (fun W : World => W.rangeAt w.heap.size 0 (ccs a (.slice A a.vs.length c)) ∧ W.rangeAt (w.heap.size + 1) 0 (ccs b (.slice B b.vs.length d)))) (by kernel_rfl) ⟨range_of_kb HA.out.e0, range_of_kb HA.out.e1⟩ (fun hHeld => ?_)
  generalize wA.drew = wB at *
  refine wpAnyH_take (i := 0) (oi := { dst := some 12, op := _, type := _, pos := _, after := _, guard := _ }) (v := _) rfl (by kernel_rfl) (by kernel_rfl) (by kernel_rfl) (fun _ _ _ h => h) (yieldsIf_load_mid (by rfl) 26 _ rfl w.heap.size 0 rfl (ccs a (.slice A a.vs.length c)) _ (fun _ h => h.1) Try.underlying26 rfl (sizeC.trans (ccs_lenA HX.out.1).symm)) hHeld ?_
  try simp only [Act.put, List.setIfInBounds_toArray, List.set_cons_zero, List.set_cons_succ]
  refine wpAnyH_take (i := 2) (oi := { dst := some 14, op := _, type := _, pos := _, after := _, guard := _ }) (v := _) rfl (by kernel_rfl) (by kernel_rfl) (by kernel_rfl) (fun _ _ _ h => h) (yieldsIf_load_mid (by rfl) 26 _ rfl (w.heap.size + 1) 0 rfl (ccs b (.slice B b.vs.length d)) _ (fun _ h => h.2) Try.underlying26 rfl (sizeC.trans (ccs_lenA HX.out.2).symm)) hHeld ?_
  try simp only [Act.put, List.setIfInBounds_toArray, List.set_cons_zero, List.set_cons_succ]
  refine wpAnyH_ready (rs := [1]) (by kernel_rfl) (by simp) (AllReadyH.cons (o := _) rfl (fun K hK => ?_) AllReadyH.nil)
  go_simp
  refine (rCheck_any' HX.out.1 (HU.out.below HA.out.b) (by omega)).mono ?_
  rintro e w1 ⟨rfl, b1⟩
  have HA1 := Lib.hid (HA.out.below b1)
  refine hK.out _ _ ⟨range_of_kb HA1.out.e0, range_of_kb HA1.out.e1⟩ (fun hHeld => ?_)
  clear hK K b1
  refine wpAnyH_ready (rs := [3]) (by kernel_rfl) (by simp) (AllReadyH.cons (o := _) rfl (fun K hK => ?_) AllReadyH.nil)
  go_simp
  refine (rCheck_any' HX.out.2 (HV.out.below HA1.out.b) (by omega)).mono ?_
  rintro e wr ⟨rfl, b2⟩
  have HR := Lib.hid (HA1.out.below b2)
  refine hK.out _ _ ⟨range_of_kb HR.out.e0, range_of_kb HR.out.e1⟩ (fun hHeld => ?_)
  clear hK K b2
  refine wpAnyH_take (i := 4) (oi := { dst := some 6, op := _, type := _, pos := _, after := _, guard := _ }) (v := ?_) rfl (by kernel_rfl) (by kernel_rfl) (by kernel_rfl) (fun _ _ _ h => h) (Or.inl ⟨by rfl, ?_⟩) hHeld ?_
  rotate_left
  · (intro w hSw; (try dsimp only at hSw); go_simp); all_goals with_reducible rfl
  try simp only [Act.put, List.setIfInBounds_toArray, List.set_cons_zero, List.set_cons_succ]
  refine wpAnyH_take (i := 5) (oi := { dst := some 7, op := _, type := _, pos := _, after := _, guard := _ }) (v := ?_) rfl (by kernel_rfl) (by kernel_rfl) (by kernel_rfl) (fun _ _ _ h => h) (Or.inl ⟨by rfl, ?_⟩) hHeld ?_
  rotate_left
  · (intro w hSw; (try dsimp only at hSw); go_simp); all_goals with_reducible rfl
  try simp only [Act.put, List.setIfInBounds_toArray, List.set_cons_zero, List.set_cons_succ]
  refine wpAnyH_done (by kernel_rfl) ?_ _
  clear HA HA1
  by_cases hca : chk a = 0
  · by_cases hcb : chk b = 0
    · have HA0 := Lib.hid (And.intro hca hcb)
      rw [hca, hcb]
      clear hca hcb
      have qa0 := ccs_0 a (.slice A a.vs.length c)
      have qa33 := ccs_33 HX.out.1 (.slice A a.vs.length c)
      have qb0 := ccs_0 b (.slice B b.vs.length d)
      have qb33 := ccs_33 HX.out.2 (.slice B b.vs.length d)
      have a0 := (kb_cell HR.out.e0 0).trans (by simpa using qa0)
      have a33 := (kb_cell HR.out.e0 33).trans (by simpa using qa33)
      have b0 := (kb_cell HR.out.e1 0).trans (by simpa using qb0)
      have b33 := (kb_cell HR.out.e1 33).trans (by simpa using qb33)
      have hnq := neq_hash a.x b.x HX.out.1 HX.out.2
      by_cases hh : a.h = b.h
      · by_cases hxx : a.x = b.x
        · have hd1 : (a.h == b.h) = true := by simpa using hh
          have hd3 : (a.h != b.h) = false := by simpa using hh
          have hd2 : (a.x == b.x) = true := by simpa using hxx
          rw [hd2] at hnq
          have HQ := Lib.hid (And.intro hh hxx)
          have ra := Lib.hid (rs_of_chk HA0.out.1)
          have rb := Lib.hid (rs_of_chk HA0.out.2)
          clear hh hxx hd2
          go_wp2_with (first
            | (with_reducible refine wpList_load_hw _ rfl (by kernel_rfl) _ rfl HR.out.e0 HX.out.1 ?_)
            | (with_reducible refine wpList_load_hw _ rfl (by kernel_rfl) _ rfl HR.out.e1 HX.out.2 ?_)
            | (with_reducible refine wpList_load_cw _ rfl (by kernel_rfl) _ rfl HR.out.e0 HX.out.1 ?_))
          refine (CopyCommit_any HX.out.1 (HU.out.below HR.out.b) (by omega)).mono ?_
          rintro e w2 ⟨v2, rfl, n2⟩
          have HR2 := Lib.hid (HR.out.below n2.2)
          have HN2 := Lib.hid n2
          obtain ⟨A2, c2, rfl⟩ := owns_slice0 n2.1
          clear n2 a0 a33 b0 b33
          go_wp2_with (refine wpList_store_cn (op := ⟨none, _, _, _, _, _⟩) rfl _ _ rfl rfl rfl (by kernel_rfl) HX.out.1 rfl ?_)
          obtain ⟨O, hO⟩ : ∃ O, O = w2.heap.size := ⟨_, rfl⟩
          have HOb := Lib.hid (show w.heap.size + 2 < O by rw [hO]; exact HR2.out.size)
          have HS0 : ∃ sL, Hid ((w2.alloc (.cells (ccs a (.slice A2 a.vs.length c2)).toArray 26)).heap[O]? = some (.cells (ccs a sL).toArray 26 (0, 0)) ∧ (w2.alloc (.cells (ccs a (.slice A2 a.vs.length c2)).toArray 26)).ownsRow (w.heap.size + 3) 29 2 sL a.vs.length (vcs a.vs) ∧ JoinIn w (w2.alloc (.cells (ccs a (.slice A2 a.vs.length c2)).toArray 26)) a b (.slice A a.vs.length c) (.slice B b.vs.length d)) :=
            ⟨_, Lib.hid ⟨kb_new hO _, owns_mono (HN2.out.1.alloc _) (by have := HR.out.size; omega), HR2.out.below (bl_alloc (Below.refl _ _) _)⟩⟩
          rw [← hO]
          clear hO
          generalize w2.alloc (.cells (ccs a (.slice A2 a.vs.length c2)).toArray 26) = w3 at *
          go_wp2_with fail
          go_loopw [9, 10, 11, 42, 43, 44, 45, 46, 47, 48, 49, 50, 51, 52, 53, 54, 55, 56, 57, 58, 59, 60, 61, 62, 63, 64, 65, 66, 67, 68, 69, 70, 71, 72, 73, 74, 75, 76, 77, 78, 79, 80, 81, 82] (fun s9 _ _ _ _ _ _ _ _ _ _ _ _ _ _ _ _ _ _ _ _ _ _ _ _ _ _ _ _ _ _ _ _ _ _ _ _ _ _ _ _ _ _ _ wr => ∃ (k : Nat) (L : List Vt) (sL : Value), k ≤ b.vs.length ∧ s9 = .int .i64 k ∧ Hid (Rj a.vs b.vs k L) ∧ Hid (wr.heap[O]? = some (.cells (ccs a sL).toArray 26 (0, 0)) ∧ wr.ownsRow (w.heap.size + 3) 29 2 sL L.length (vcs L) ∧ JoinIn w wr a b (.slice A a.vs.length c) (.slice B b.vs.length d))) (fun s9 _ _ _ _ _ _ _ _ _ _ _ _ _ _ _ _ _ _ _ _ _ _ _ _ _ _ _ _ _ _ _ _ _ _ _ _ _ _ _ _ _ _ _ _ => b.vs.length - (intOf s9).toNat)
          case atStart =>
            obtain ⟨sL, hs⟩ := HS0
            exact ⟨0, a.vs, sL, by omega, rfl, Lib.hid (Rj.zero _ _), hs⟩
          case round =>
            clear HR HR2 HN2
            obtain ⟨k, L, sL, hk, rfl, hJ, hS⟩ := hrel
            have HS := hS
            have HJ := hJ
            obtain ⟨A3, c3, rfl⟩ := owns_slice0 hS.out.2.1
            have HLn := HJ.out.n
            clear hJ hS HS0
            by_cases hlt : k < b.vs.length
            · obtain ⟨b', off, cap', hA, hbl, d0', d1'⟩ := HV.out.at hlt
              have HD := Lib.hid (And.intro d0' d1')
              obtain ⟨rfl, rfl⟩ : B = some ⟨b', off, none⟩ ∧ d = cap' := by injection hA with h1 h2 h3; exact ⟨h1, h3⟩
              have SV := Lib.hid (fun (W : World) (h : JoinIn w W a b (.slice A a.vs.length c) (.slice (some ⟨b', off, none⟩) b.vs.length d)) => (show W.rangeAt w.heap.size 0 (ccs a (.slice A a.vs.length c)) ∧ W.cell? ⟨w.heap.size + 1, 33, none⟩ = some (.slice (some ⟨b', off, none⟩) b.vs.length d) ∧ W.cell? ⟨b', off + k * 2, none⟩ = some (.int .i64 (vAt b.vs k).p) ∧ W.cell? ⟨b', off + k * 2 + 1, none⟩ = some (.int .u64 (vAt b.vs k).g) from ⟨range_of_kb h.e0, (kb_cell h.e1 33).trans (by simpa using qb33), (h.b.cell (p := ⟨b', off + k * 2, none⟩) hbl).trans HD.out.1, (h.b.cell (p := ⟨b', off + k * 2 + 1, none⟩) hbl).trans HD.out.2⟩))
              obtain ⟨_, b33, d0, d1⟩ := SV.out _ HS.out.2.2
              clear hA d0' d1'
              have hkI : ((k : Nat) : Int) < (b.vs.length : Int) := by omega
              go_wp2_with fail
              have HJ1 := Lib.hid (HS.out.2.2.below (bl_drew (Below.refl _ _)))
              refine wp_region_held_drew (S := (fun W : World => W.rangeAt w.heap.size 0 (ccs a (.slice A a.vs.length c)) ∧ W.cell? ⟨w.heap.size + 1, 33, none⟩ = some (.slice (some ⟨b', off, none⟩) b.vs.length d) ∧ W.cell? ⟨b', off + k * 2, none⟩ = some (.int .i64 (vAt b.vs k).p) ∧ W.cell? ⟨b', off + k * 2 + 1, none⟩ = some (.int .u64 (vAt b.vs k).g))) (by kernel_rfl) (SV.out _ HJ1.out) (fun hHeld => ?_)
              refine wpAnyH_take (i := 0) (oi := { dst := some 50, op := _, type := _, pos := _, after := _, guard := _ }) (v := _) rfl (by kernel_rfl) (by kernel_rfl) (by kernel_rfl) (fun _ _ _ h => h) (yieldsIf_load_mid (by rfl) 26 _ rfl w.heap.size 0 rfl (ccs a (.slice A a.vs.length c)) _ (fun _ h => h.1) Try.underlying26 rfl (sizeC.trans (ccs_lenA HX.out.1).symm)) hHeld ?_
              try simp only [Act.put, List.setIfInBounds_toArray, List.set_cons_zero, List.set_cons_succ]
              refine wpAnyH_take (i := 1) (oi := { dst := some 51, op := _, type := _, pos := _, after := _, guard := _ }) (v := ?_) rfl (by kernel_rfl) (by kernel_rfl) (by kernel_rfl) (fun _ _ _ h => h) (Or.inl ⟨by rfl, ?_⟩) hHeld ?_
              rotate_left
              · (intro w hSw; (try dsimp only at hSw); go_simp); all_goals with_reducible rfl
              try simp only [Act.put, List.setIfInBounds_toArray, List.set_cons_zero, List.set_cons_succ]
              refine wpAnyH_take (i := 2) (oi := { dst := some 52, op := _, type := _, pos := _, after := _, guard := _ }) (v := ?_) rfl (by kernel_rfl) (by kernel_rfl) (by kernel_rfl) (fun _ _ _ h => h) (Or.inl ⟨by rfl, ?_⟩) hHeld ?_
              rotate_left
              · (intro w hSw; (try dsimp only at hSw); go_simp); all_goals with_reducible rfl
              try simp only [Act.put, List.setIfInBounds_toArray, List.set_cons_zero, List.set_cons_succ]
              refine wpAnyH_take (i := 3) (oi := { dst := some 53, op := _, type := _, pos := _, after := _, guard := _ }) (v := ?_) rfl (by kernel_rfl) (by kernel_rfl) (by kernel_rfl) (fun _ _ _ h => h) (Or.inl ⟨by rfl, ?_⟩) hHeld ?_
              rotate_left
              · (intro w hSw; (try dsimp only at hSw); go_simp); all_goals with_reducible rfl
              try simp only [Act.put, List.setIfInBounds_toArray, List.set_cons_zero, List.set_cons_succ]
              refine wpAnyH_take (i := 4) (oi := { dst := some 54, op := _, type := _, pos := _, after := _, guard := _ }) (v := ?_) rfl (by kernel_rfl) (by kernel_rfl) (by kernel_rfl) (fun _ _ _ h => h) (Or.inl ⟨by rfl, ?_⟩) hHeld ?_
              rotate_left
              · (intro w hSw; (try dsimp only at hSw); go_simp); all_goals with_reducible rfl
              try simp only [Act.put, List.setIfInBounds_toArray, List.set_cons_zero, List.set_cons_succ]
              refine wpAnyH_take (i := 5) (oi := { dst := some 55, op := _, type := _, pos := _, after := _, guard := _ }) (v := ?_) rfl (by kernel_rfl) (by kernel_rfl) (by kernel_rfl) (fun _ _ _ h => h) (Or.inl ⟨by rfl, ?_⟩) hHeld ?_
              rotate_left
              · (intro w hSw; (try dsimp only at hSw); go_simp); all_goals with_reducible rfl
              try simp only [Act.put, List.setIfInBounds_toArray, List.set_cons_zero, List.set_cons_succ]
              refine wpAnyH_take (i := 6) (oi := { dst := some 56, op := _, type := _, pos := _, after := _, guard := _ }) (v := ?_) rfl (by kernel_rfl) (by kernel_rfl) (by kernel_rfl) (fun _ _ _ h => h) (Or.inl ⟨by rfl, ?_⟩) hHeld ?_
              rotate_left
              · (intro w hSw; (try dsimp only at hSw); go_simp); all_goals with_reducible rfl
              try simp only [Act.put, List.setIfInBounds_toArray, List.set_cons_zero, List.set_cons_succ]
              refine wpAnyH_ready (rs := [7]) (by kernel_rfl) (by simp) (AllReadyH.cons (o := _) rfl (fun K hK => ?_) AllReadyH.nil)
              go_simp
              refine (rOf_any' (vAt b.vs k).p HX.out.1 (HU.out.below HJ1.out.b) (by omega)).mono ?_
              rintro e w5 ⟨rfl, b5⟩
              have HJ5 := Lib.hid (HJ1.out.below b5)
              have HO5 := Lib.hid (kb_below b5 (kb_drew HS.out.1))
              have HW5 := Lib.hid ((Keep.of_below (S := fun _ => False) b5).row (owns_drew HS.out.2.1) (fun _ _ h => h))
              refine hK.out _ _ (SV.out _ HJ5.out) (fun hHeld => ?_)
              clear hK K b5 b33 d0 d1
              cases hf : findV a.vs (vAt b.vs k).p with
              | none =>
                rw [show sigR a.vs (vAt b.vs k).p = (0, false) by simp [sigR, hf]]
                have HF := Lib.hid (HJ.out.laid hlt hf)
                clear hf
                refine wpAnyH_take (i := 8) (oi := { dst := some 49, op := _, type := _, pos := _, after := _, guard := _ }) (v := ?_) rfl (by kernel_rfl) (by kernel_rfl) (by kernel_rfl) (fun _ _ _ h => h) (Or.inl ⟨by rfl, ?_⟩) hHeld ?_
                rotate_left
                · (intro w hSw; (try dsimp only at hSw); go_simp); all_goals with_reducible rfl
                try simp only [Act.put, List.setIfInBounds_toArray, List.set_cons_zero, List.set_cons_succ]
                refine wpAnyH_take (i := 9) (oi := { dst := some 58, op := _, type := _, pos := _, after := _, guard := _ }) (v := ?_) rfl (by kernel_rfl) (by kernel_rfl) (by kernel_rfl) (fun _ _ _ h => h) (Or.inl ⟨by rfl, ?_⟩) hHeld ?_
                rotate_left
                · (intro w hSw; (try dsimp only at hSw); go_simp); all_goals with_reducible rfl
                try simp only [Act.put, List.setIfInBounds_toArray, List.set_cons_zero, List.set_cons_succ]
                refine wpAnyH_take (i := 10) (oi := { dst := some 59, op := _, type := _, pos := _, after := _, guard := _ }) (v := ?_) rfl (by kernel_rfl) (by kernel_rfl) (by kernel_rfl) (fun _ _ _ h => h) (Or.inl ⟨by rfl, ?_⟩) hHeld ?_
                rotate_left
                · (intro w hSw; (try dsimp only at hSw); go_simp); all_goals with_reducible rfl
                try simp only [Act.put, List.setIfInBounds_toArray, List.set_cons_zero, List.set_cons_succ]
                refine wpAnyH_take (i := 11) (oi := { dst := some 10, op := _, type := _, pos := _, after := _, guard := _ }) (v := ?_) rfl (by kernel_rfl) (by kernel_rfl) (by kernel_rfl) (fun _ _ _ h => h) (Or.inl ⟨by rfl, ?_⟩) hHeld ?_
                rotate_left
                · (intro w hSw; (try dsimp only at hSw); go_simp); all_goals with_reducible rfl
                try simp only [Act.put, List.setIfInBounds_toArray, List.set_cons_zero, List.set_cons_succ]
                refine wpAnyH_take (i := 12) (oi := { dst := some 11, op := _, type := _, pos := _, after := _, guard := _ }) (v := ?_) rfl (by kernel_rfl) (by kernel_rfl) (by kernel_rfl) (fun _ _ _ h => h) (Or.inl ⟨by rfl, ?_⟩) hHeld ?_
                rotate_left
                · (intro w hSw; (try dsimp only at hSw); go_simp); all_goals with_reducible rfl
                try simp only [Act.put, List.setIfInBounds_toArray, List.set_cons_zero, List.set_cons_succ]
                refine wpAnyH_done (by kernel_rfl) ?_ _
                obtain ⟨_, b33, d0, d1⟩ := SV.out _ HJ5.out
                clear hHeld
                go_wp2_with fail
                clear b33 d0 d1
                have HJ6 := Lib.hid (HJ5.out.below (bl_drew (Below.refl _ _)))
                obtain ⟨_, b33, d0, d1⟩ := SV.out _ HJ6.out
                have o33 := (kb_cell (kb_drew HO5.out) 33).trans (by simpa using ccs_33 HX.out.1 (.slice A3 L.length c3))
                refine wp_region_held_drew (S := (fun W : World => W.cell? ⟨w.heap.size + 1, 33, none⟩ = some (.slice (some ⟨b', off, none⟩) b.vs.length d) ∧ W.cell? ⟨b', off + k * 2, none⟩ = some (.int .i64 (vAt b.vs k).p) ∧ W.cell? ⟨b', off + k * 2 + 1, none⟩ = some (.int .u64 (vAt b.vs k).g))) (by kernel_rfl) ⟨b33, d0, d1⟩ (fun hHeld => ?_)
                refine wpAnyH_take (i := 0) (oi := { dst := some 74, op := _, type := _, pos := _, after := _, guard := _ }) (v := ?_) rfl (by kernel_rfl) (by kernel_rfl) (by kernel_rfl) (fun _ _ _ h => h) (Or.inl ⟨by rfl, ?_⟩) hHeld ?_
                rotate_left
                · (intro w hSw; (try dsimp only at hSw); go_simp); all_goals with_reducible rfl
                try simp only [Act.put, List.setIfInBounds_toArray, List.set_cons_zero, List.set_cons_succ]
                refine wpAnyH_take (i := 2) (oi := { dst := some 76, op := _, type := _, pos := _, after := _, guard := _ }) (v := ?_) rfl (by kernel_rfl) (by kernel_rfl) (by kernel_rfl) (fun _ _ _ h => h) (Or.inl ⟨by rfl, ?_⟩) hHeld ?_
                rotate_left
                · (intro w hSw; (try dsimp only at hSw); go_simp); all_goals with_reducible rfl
                try simp only [Act.put, List.setIfInBounds_toArray, List.set_cons_zero, List.set_cons_succ]
                refine wpAnyH_take (i := 3) (oi := { dst := some 77, op := _, type := _, pos := _, after := _, guard := _ }) (v := ?_) rfl (by kernel_rfl) (by kernel_rfl) (by kernel_rfl) (fun _ _ _ h => h) (Or.inl ⟨by rfl, ?_⟩) hHeld ?_
                rotate_left
                · (intro w hSw; (try dsimp only at hSw); go_simp); all_goals with_reducible rfl
                try simp only [Act.put, List.setIfInBounds_toArray, List.set_cons_zero, List.set_cons_succ]
                refine wpAnyH_take (i := 4) (oi := { dst := some 78, op := _, type := _, pos := _, after := _, guard := _ }) (v := ?_) rfl (by kernel_rfl) (by kernel_rfl) (by kernel_rfl) (fun _ _ _ h => h) (Or.inl ⟨by rfl, ?_⟩) hHeld ?_
                rotate_left
                · (intro w hSw; (try dsimp only at hSw); go_simp); all_goals with_reducible rfl
                try simp only [Act.put, List.setIfInBounds_toArray, List.set_cons_zero, List.set_cons_succ]
                refine wpAnyH_take (i := 5) (oi := { dst := some 79, op := _, type := _, pos := _, after := _, guard := _ }) (v := ?_) rfl (by kernel_rfl) (by kernel_rfl) (by kernel_rfl) (fun _ _ _ h => h) (Or.inl ⟨by rfl, ?_⟩) hHeld ?_
                rotate_left
                · (intro w hSw; (try dsimp only at hSw); go_simp); all_goals with_reducible rfl
                try simp only [Act.put, List.setIfInBounds_toArray, List.set_cons_zero, List.set_cons_succ]
                refine wpAnyH_take (i := 6) (oi := { dst := some 80, op := _, type := _, pos := _, after := _, guard := _ }) (v := ?_) rfl (by kernel_rfl) (by kernel_rfl) (by kernel_rfl) (fun _ _ _ h => h) (Or.inl ⟨by rfl, ?_⟩) hHeld ?_
                rotate_left
                · (intro w hSw; (try dsimp only at hSw); go_simp); all_goals with_reducible rfl
                try simp only [Act.put, List.setIfInBounds_toArray, List.set_cons_zero, List.set_cons_succ]
                refine wpAnyH_ready (rs := [1]) (by kernel_rfl) (by simp) (AllReadyH.cons (o := _) rfl (fun K hK => ?_) AllReadyH.nil)
                go_simp
                refine hK.out _ _ ⟨b33, d0, d1⟩ (fun hHeld => ?_)
                clear hK K
                refine wpAnyH_ready (rs := [7]) (by kernel_rfl) (by simp) (AllReadyH.cons (o := _) rfl (fun K hK => ?_) AllReadyH.nil)
                go_simp
                refine (laid_any (vAt b.vs k) (VRow.of_own (owns_drew HW5.out)) (by omega)).mono ?_
                rintro e w7 ⟨v7, rfl, n7⟩
                have HJ7 := Lib.hid (HJ6.out.below n7.2)
                have HO7 := Lib.hid (kb_below n7.2 (kb_drew HO5.out))
                have HN7 := Lib.hid n7
                have hsz7 : w.heap.size + 3 ≤ w5.heap.size := by have := HJ5.out.size; omega
                have hO5 : O < w5.heap.size := kb_lt HO5.out
                generalize laidV L (vAt b.vs k) = L' at *
                obtain ⟨A7, c7, rfl⟩ := owns_slice0 n7.1
                refine hK.out _ _ (SV.out _ HJ7.out).2 (fun hHeld => ?_)
                clear hK K n7 b33 d0 d1 o33
                have o33 := (kb_cell HO7.out 33).trans (by simpa using ccs_33 HX.out.1 (.slice A3 L.length c3))
                have z33 := kb_frozen HO7.out 33
                have F0 := kb_set (i := 33) HO7.out (.slice A7 L'.length c7)
                rw [ccs_set HX.out.1] at F0
                have kS : Keep (fun b => b = O) w7 (w7.setCell ⟨O, 33, none⟩ (.slice A7 L'.length c7)) := (Keep.refl (fun b => b = O) w7).set (p := ⟨O, 33, none⟩) (fun _ => rfl) _
                have hOO := HOb.out
                have HJ8 := Lib.hid (show JoinIn w (w7.setCell ⟨O, 33, none⟩ (.slice A7 L'.length c7)) a b (.slice A a.vs.length c) (.slice (some ⟨b', off, none⟩) b.vs.length d) from ⟨kS.kb HJ7.out.e0 (by omega), kS.kb HJ7.out.e1 (by omega), kS.kb HJ7.out.e2 (by omega), bl_set (p := ⟨O, 33, none⟩) (by simp; omega) HJ7.out.b _⟩)
                have ho8 := owns_mono (own_set (p := O) (i := 33) (u := .slice A7 L'.length c7) HN7.out.1 (fun e => by have := (HN7.out.1.lt _ e).1; simp at this; omega)) (base' := w.heap.size + 3) (by simp; omega)
                have HP := Lib.hid (And.intro F0 (And.intro ho8 HJ8.out))
                clear F0 kS ho8
                refine wpAnyH_take (i := 8) (oi := { dst := some 82, op := _, type := _, pos := _, after := _, guard := _ }) (v := ?_) rfl (by kernel_rfl) (by kernel_rfl) (by kernel_rfl) (fun _ _ _ h => h) (Or.inl ⟨by rfl, ?_⟩) hHeld ?_
                rotate_left
                · (intro w hSw; (try dsimp only at hSw); go_simp); all_goals with_reducible rfl
                try simp only [Act.put, List.setIfInBounds_toArray, List.set_cons_zero, List.set_cons_succ]
                refine wpAnyH_ready (rs := [9]) (by kernel_rfl) (by simp) (AllReadyH.cons (o := _) rfl (fun K hK => ?_) AllReadyH.nil)
                go_simp
                refine hK.out _ _ (SV.out _ HJ8.out).2 (fun hHeld => ?_)
                clear hK K
                refine wpAnyH_done (by kernel_rfl) ?_ _
                clear hHeld o33 z33
                go_wp2_with fail
                go_roundw
                case rel => exact ⟨k + 1, L', _, by omega, by go_num, Lib.hid HF.out, Lib.hid HP.out⟩
                case measure => simp [intOf]; omega
              | some g =>
                rw [show sigR a.vs (vAt b.vs k).p = (g, true) by simp [sigR, hf]]
                by_cases hg : g = (vAt b.vs k).g
                · have HF := Lib.hid (HJ.out.same hlt (by rw [hf, hg]))
                  have hd1 : ((g : Int) == ((vAt b.vs k).g : Int)) = true := by simp [hg]
                  have hd2 : ((g : Int) != ((vAt b.vs k).g : Int)) = false := by simp [hg]
                  clear hf hg
                  refine wpAnyH_take (i := 8) (oi := { dst := some 49, op := _, type := _, pos := _, after := _, guard := _ }) (v := ?_) rfl (by kernel_rfl) (by kernel_rfl) (by kernel_rfl) (fun _ _ _ h => h) (Or.inl ⟨by rfl, ?_⟩) hHeld ?_
                  rotate_left
                  · (intro w hSw; (try dsimp only at hSw); go_simp); all_goals with_reducible rfl
                  try simp only [Act.put, List.setIfInBounds_toArray, List.set_cons_zero, List.set_cons_succ]
                  refine wpAnyH_take (i := 9) (oi := { dst := some 58, op := _, type := _, pos := _, after := _, guard := _ }) (v := ?_) rfl (by kernel_rfl) (by kernel_rfl) (by kernel_rfl) (fun _ _ _ h => h) (Or.inl ⟨by rfl, ?_⟩) hHeld ?_
                  rotate_left
                  · (intro w hSw; (try dsimp only at hSw); go_simp); all_goals with_reducible rfl
                  try simp only [Act.put, List.setIfInBounds_toArray, List.set_cons_zero, List.set_cons_succ]
                  refine wpAnyH_take (i := 10) (oi := { dst := some 59, op := _, type := _, pos := _, after := _, guard := _ }) (v := ?_) rfl (by kernel_rfl) (by kernel_rfl) (by kernel_rfl) (fun _ _ _ h => h) (Or.inl ⟨by rfl, ?_⟩) hHeld ?_
                  rotate_left
                  · (intro w hSw; (try dsimp only at hSw); go_simp); all_goals with_reducible rfl
                  try simp only [Act.put, List.setIfInBounds_toArray, List.set_cons_zero, List.set_cons_succ]
                  refine wpAnyH_take (i := 11) (oi := { dst := some 10, op := _, type := _, pos := _, after := _, guard := _ }) (v := ?_) rfl (by kernel_rfl) (by kernel_rfl) (by kernel_rfl) (fun _ _ _ h => h) (Or.inl ⟨by rfl, ?_⟩) hHeld ?_
                  rotate_left
                  · (intro w hSw; (try dsimp only at hSw); go_simp); all_goals with_reducible rfl
                  try simp only [Act.put, List.setIfInBounds_toArray, List.set_cons_zero, List.set_cons_succ]
                  refine wpAnyH_take (i := 12) (oi := { dst := some 11, op := _, type := _, pos := _, after := _, guard := _ }) (v := ?_) rfl (by kernel_rfl) (by kernel_rfl) (by kernel_rfl) (fun _ _ _ h => h) (Or.inl ⟨by rfl, ?_⟩) hHeld ?_
                  rotate_left
                  · (intro w hSw; (try dsimp only at hSw); go_simp); all_goals with_reducible rfl
                  try simp only [Act.put, List.setIfInBounds_toArray, List.set_cons_zero, List.set_cons_succ]
                  refine wpAnyH_done (by kernel_rfl) ?_ _
                  obtain ⟨_, b33, d0, d1⟩ := SV.out _ HJ5.out
                  clear hHeld
                  go_wp2_with fail
                  go_roundw
                  case rel => exact ⟨k + 1, L, _, by omega, by go_num, Lib.hid HF.out, Lib.hid ⟨HO5.out, HW5.out, HJ5.out⟩⟩
                  case measure => simp [intOf]; omega
                · have HF := Lib.hid (HJ.out.bad hlt hf hg)
                  have hd1 : ((g : Int) == ((vAt b.vs k).g : Int)) = false := by simp; omega
                  have hd2 : ((g : Int) != ((vAt b.vs k).g : Int)) = true := by simp; omega
                  have HE := Lib.hid (show joinE a b = 8 by unfold joinE; rw [if_neg (by rw [HA0.out.1]; simp), if_neg (by rw [HA0.out.2]; simp), if_neg (by rw [HQ.out.1, HQ.out.2]; simp), ← ref_is rb.out, HF.out]; rfl)
                  have HZ := Lib.hid (show joinE a b ≠ 0 by rw [HE.out]; decide)
                  clear hf hg
                  refine wpAnyH_take (i := 8) (oi := { dst := some 49, op := _, type := _, pos := _, after := _, guard := _ }) (v := ?_) rfl (by kernel_rfl) (by kernel_rfl) (by kernel_rfl) (fun _ _ _ h => h) (Or.inl ⟨by rfl, ?_⟩) hHeld ?_
                  rotate_left
                  · (intro w hSw; (try dsimp only at hSw); go_simp); all_goals with_reducible rfl
                  try simp only [Act.put, List.setIfInBounds_toArray, List.set_cons_zero, List.set_cons_succ]
                  refine wpAnyH_take (i := 9) (oi := { dst := some 58, op := _, type := _, pos := _, after := _, guard := _ }) (v := ?_) rfl (by kernel_rfl) (by kernel_rfl) (by kernel_rfl) (fun _ _ _ h => h) (Or.inl ⟨by rfl, ?_⟩) hHeld ?_
                  rotate_left
                  · (intro w hSw; (try dsimp only at hSw); go_simp); all_goals with_reducible rfl
                  try simp only [Act.put, List.setIfInBounds_toArray, List.set_cons_zero, List.set_cons_succ]
                  refine wpAnyH_take (i := 10) (oi := { dst := some 59, op := _, type := _, pos := _, after := _, guard := _ }) (v := ?_) rfl (by kernel_rfl) (by kernel_rfl) (by kernel_rfl) (fun _ _ _ h => h) (Or.inl ⟨by rfl, ?_⟩) hHeld ?_
                  rotate_left
                  · (intro w hSw; (try dsimp only at hSw); go_simp); all_goals with_reducible rfl
                  try simp only [Act.put, List.setIfInBounds_toArray, List.set_cons_zero, List.set_cons_succ]
                  refine wpAnyH_take (i := 11) (oi := { dst := some 10, op := _, type := _, pos := _, after := _, guard := _ }) (v := ?_) rfl (by kernel_rfl) (by kernel_rfl) (by kernel_rfl) (fun _ _ _ h => h) (Or.inl ⟨by rfl, ?_⟩) hHeld ?_
                  rotate_left
                  · (intro w hSw; (try dsimp only at hSw); go_simp); all_goals with_reducible rfl
                  try simp only [Act.put, List.setIfInBounds_toArray, List.set_cons_zero, List.set_cons_succ]
                  refine wpAnyH_take (i := 12) (oi := { dst := some 11, op := _, type := _, pos := _, after := _, guard := _ }) (v := ?_) rfl (by kernel_rfl) (by kernel_rfl) (by kernel_rfl) (fun _ _ _ h => h) (Or.inl ⟨by rfl, ?_⟩) hHeld ?_
                  rotate_left
                  · (intro w hSw; (try dsimp only at hSw); go_simp); all_goals with_reducible rfl
                  try simp only [Act.put, List.setIfInBounds_toArray, List.set_cons_zero, List.set_cons_succ]
                  refine wpAnyH_done (by kernel_rfl) ?_ _
                  obtain ⟨_, b33, d0, d1⟩ := SV.out _ HJ5.out
                  clear hHeld
                  go_wp2_with (refine wpList_store_c (op := ⟨none, _, _, _, _, _⟩) rfl _ _ rfl _ rfl (congrArg Value.agg zeroC) HJ5.out.e2 zArr cZ_x rfl ?_)
                  intro w9 g2 k2
                  have HG := Lib.hid (And.intro g2 k2)
                  clear g2 k2
                  go_wp2_with fail
                  refine bodyPost_ret (results_c rfl _ _ (w.heap.size + 2) cZ_x rfl HG.out.1 rfl) rfl ?_
                  exact COut.fin (joinC_no HZ.out) (by rw [HE.out]; rfl) rfl HJ5.out.b HG.out.2
            · obtain rfl : k = b.vs.length := by omega
              have hj := HJ.out.end
              rw [ref_is rb.out] at hj
              have HE := Lib.hid (show joinE a b = 0 ∧ joinC a b = ⟨a.h, a.x, L⟩ by
                have e : joinE a b = 0 := by unfold joinE; rw [if_neg (by rw [HA0.out.1]; simp), if_neg (by rw [HA0.out.2]; simp), if_neg (by rw [HQ.out.1, HQ.out.2]; simp), hj]; rfl
                refine ⟨e, ?_⟩
                unfold joinC; rw [if_pos e, hj]; rfl)
              have b33 := (kb_cell HS.out.2.2.e1 33).trans (by simpa using qb33)
              clear hj
              go_wp2_with (first
                | (with_reducible refine wpList_load_cw _ rfl (by kernel_rfl) _ rfl HS.out.1 HX.out.1 ?_)
                | (refine wpList_store_c (op := ⟨none, _, _, _, _, _⟩) rfl _ _ rfl _ rfl rfl HS.out.2.2.e2 zArr HX.out.1 rfl ?_))
              intro w9 g2 k2
              have HG := Lib.hid (And.intro g2 k2)
              clear g2 k2
              go_wp2_with fail
              refine bodyPost_ret (results_c rfl _ _ (w.heap.size + 2) HX.out.1 rfl HG.out.1 rfl) rfl ?_
              rw [HE.out.1, HE.out.2]
              refine ⟨_, rfl, owns_mono (HG.out.2.row HS.out.2.1 (fun b h e => by have := (HS.out.2.1.lt b h).1; omega)) (by omega), ?_⟩
              exact ((Keep.of_below (S := fun _ => False) HS.out.2.2.b).trans HG.out.2 (fun b h e => by omega)).below (Nat.le_refl _) (fun b e => e.elim)
        · have hd1 : (a.h == b.h) = true := by simpa using hh
          have hd3 : (a.h != b.h) = false := by simpa using hh
          have hd2 : (a.x == b.x) = false := by simpa using hxx
          rw [hd2] at hnq
          have HE := Lib.hid (show joinE a b = 9 by unfold joinE; rw [if_neg (by rw [HA0.out.1]; simp), if_neg (by rw [HA0.out.2]; simp), if_pos (.inr hxx)])
          have HZ := Lib.hid (show joinE a b ≠ 0 by rw [HE.out]; decide)
          clear hh hxx hd2
          go_wp2_with (first
            | (with_reducible refine wpList_load_hw _ rfl (by kernel_rfl) _ rfl HR.out.e0 HX.out.1 ?_)
            | (with_reducible refine wpList_load_hw _ rfl (by kernel_rfl) _ rfl HR.out.e1 HX.out.2 ?_)
            | (refine wpList_store_c (op := ⟨none, _, _, _, _, _⟩) rfl _ _ rfl _ rfl (congrArg Value.agg zeroC) HR.out.e2 zArr cZ_x rfl ?_))
          intro w4 g2 k2
          have HG := Lib.hid (And.intro g2 k2)
          clear g2 k2
          go_wp2_with fail
          refine bodyPost_ret (results_c rfl _ _ (w.heap.size + 2) cZ_x rfl HG.out.1 rfl) rfl ?_
          exact COut.fin (joinC_no HZ.out) (by rw [HE.out]; rfl) rfl HR.out.b HG.out.2
      · have hd1 : (a.h == b.h) = false := by simpa using hh
        have hd3 : (a.h != b.h) = true := by simpa using hh
        have HE := Lib.hid (show joinE a b = 9 by unfold joinE; rw [if_neg (by rw [HA0.out.1]; simp), if_neg (by rw [HA0.out.2]; simp), if_pos (.inl hh)])
        have HZ := Lib.hid (show joinE a b ≠ 0 by rw [HE.out]; decide)
        clear hh
        go_wp2_with (first
          | (with_reducible refine wpList_load_hw _ rfl (by kernel_rfl) _ rfl HR.out.e0 HX.out.1 ?_)
          | (with_reducible refine wpList_load_hw _ rfl (by kernel_rfl) _ rfl HR.out.e1 HX.out.2 ?_)
          | (refine wpList_store_c (op := ⟨none, _, _, _, _, _⟩) rfl _ _ rfl _ rfl (congrArg Value.agg zeroC) HR.out.e2 zArr cZ_x rfl ?_))
        intro w4 g2 k2
        have HG := Lib.hid (And.intro g2 k2)
        clear g2 k2
        go_wp2_with fail
        refine bodyPost_ret (results_c rfl _ _ (w.heap.size + 2) cZ_x rfl HG.out.1 rfl) rfl ?_
        exact COut.fin (joinC_no HZ.out) (by rw [HE.out]; rfl) rfl HR.out.b HG.out.2
    · have HE := Lib.hid (show joinE a b = chk b by unfold joinE; rw [if_neg (by rw [hca]; simp), if_pos hcb])
      have HZ := Lib.hid (show joinE a b ≠ 0 by rw [HE.out]; exact hcb)
      have hn : ((chk b : Int) == 0) = false := by simpa using hcb
      have hn' : ¬ ((chk b : Int) = 0) := by omega
      rw [hca]
      clear hca hcb
      go_wp2_with (refine wpList_store_c (op := ⟨none, _, _, _, _, _⟩) rfl _ _ rfl _ rfl (congrArg Value.agg zeroC) HR.out.e2 zArr cZ_x rfl ?_)
      intro w4 g2 k2
      have HG := Lib.hid (And.intro g2 k2)
      clear g2 k2
      go_wp2_with fail
      refine bodyPost_ret (results_c rfl _ _ (w.heap.size + 2) cZ_x rfl HG.out.1 rfl) rfl ?_
      exact COut.fin (joinC_no HZ.out) (by rw [HE.out]) rfl HR.out.b HG.out.2
  · have HE := Lib.hid (show joinE a b = chk a by unfold joinE; rw [if_pos hca])
    have HZ := Lib.hid (show joinE a b ≠ 0 by rw [HE.out]; exact hca)
    have hn : ((chk a : Int) == 0) = false := by simpa using hca
    have hn' : ¬ ((chk a : Int) = 0) := by omega
    clear hca
    go_wp2_with (refine wpList_store_c (op := ⟨none, _, _, _, _, _⟩) rfl _ _ rfl _ rfl (congrArg Value.agg zeroC) HR.out.e2 zArr cZ_x rfl ?_)
    intro w4 g2 k2
    have HG := Lib.hid (And.intro g2 k2)
    clear g2 k2
    go_wp2_with fail
    refine bodyPost_ret (results_c rfl _ _ (w.heap.size + 2) cZ_x rfl HG.out.1 rfl) rfl ?_
    exact COut.fin (joinC_no HZ.out) (by rw [HE.out]) rfl HR.out.b HG.out.2
end Go.Proofs.Ytooghjnddifpdaa
