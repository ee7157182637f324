/- The document's Who. -/
import Derived.Test.YtooghjnddifpdaaCm22
namespace Go.Proofs.Ytooghjnddifpdaa
open Go.RowKit Go.Proofs.Ytooghjnddifpdaa.Cm BigFrame
set_option linter.unusedSimpArgs false
set_option linter.unusedVariables false
attribute [local go_sem] cell_alloc_some frozen_alloc_some

set_option maxRecDepth 100000 in
set_option maxHeartbeats 4000000 in
theorem rWho_any {w : World} {c : C} {v s : Value} {ks : List Vd} (hx : c.x.length = 32) (hv : VRow w v c.vs) (hs : DRow w s ks) (hl : c.vs.length ≤ 1000000) (hk : ks.length ≤ 1000000) :
    Calls Try.prog 35 #[.agg (ccs c v).toArray, s] w (WhoOut ks c w) := by
  have q33 := ccs_33 hx v
  have HX := Lib.hid hx
  have HV := Lib.hid hv
  have HS := Lib.hid hs
  obtain ⟨A, cap, hvv⟩ := hv.form
  subst hvv
  obtain ⟨B, cap2, hss⟩ := hs.form
  subst hss
  clear hx hv hs
  obtain ⟨n, hn⟩ : ∃ n, c.vs.length = n := ⟨_, rfl⟩
  have HN := Lib.hid hn
  rw [hn] at hl HV q33 ⊢
  clear hn
  obtain ⟨m, hm⟩ : ∃ m, ks.length = m := ⟨_, rfl⟩
  have HM := Lib.hid hm
  rw [hm] at hk HS ⊢
  clear hm
  go_enter Try.func35, Try.ntmps35
  go_upto_region 1 with fail
  refine wp_world fun wA hwA => ?_
  have D0 := Lib.hid (show wA.heap[w.heap.size]? = some (.cells (ccs c (.slice A n cap)).toArray 26 (0, 0)) by rw [hwA]; exact kb_new rfl _)
  have bA := Lib.hid (show Below w.heap.size w wA by rw [hwA]; exact bl_alloc (Below.refl _ _) _)
  clear hwA
  go_wp2_with (with_reducible refine wpList_load_cw _ rfl (by kernel_rfl) _ rfl D0.out HX.out ?_)
  refine (rCheck_any' HX.out (HV.out.below bA.out) (by rw [HN.out]; exact hl)).mono ?_
  rintro e w1 ⟨rfl, b1⟩
  have D1 := Lib.hid (kb_below b1 D0.out)
  have HB := Lib.hid (bl_then bA.out b1)
  clear b1
  by_cases hc : chk c = 0
  · have HC := Lib.hid hc
    have HR := Lib.hid (rs_of_chk hc)
    rw [hc]
    clear hc
    have c33 := (kb_cell D1.out 33).trans (by simpa using q33)
    go_wp2_with fail
    clear c33
    obtain ⟨i0, hi0, hz0, hz1, hz2⟩ := info_parts infoKey
    go_loopw [7, 8, 14, 15, 16, 17, 18, 19, 20, 21, 22, 23, 24, 25, 26, 27, 28, 29, 30, 31, 32, 33, 34, 35, 36, 37, 38, 39, 40, 41, 42] (fun s7 s8 _ _ _ _ _ _ _ _ _ _ _ _ _ _ _ _ _ _ _ _ _ _ _ _ _ _ _ _ _ wr => ∃ (k : Nat) (L : List K4), k ≤ n ∧ s8 = .int .i64 k ∧ Hid (wr.ownsRow w1.heap.size 52 4 s7 k (gcs kcs L)) ∧ Hid (WhoAt ks c.vs k L) ∧ Below w1.heap.size w1 wr) (fun _ s8 _ _ _ _ _ _ _ _ _ _ _ _ _ _ _ _ _ _ _ _ _ _ _ _ _ _ _ _ _ _ => n - (intOf s8).toNat)
    case atStart => exact ⟨0, [], by omega, rfl, Lib.hid (World.ownsRow_nil _ _ _ _), Lib.hid (WhoAt.zero _ _), Below.refl _ _⟩
    case round =>
      obtain ⟨k, L, hkn, rfl, hO, hW, hbel⟩ := hrel
      have HO := hO
      have HW := hW
      have HBe := Lib.hid hbel
      obtain ⟨A4, c4, rfl⟩ := owns_slice0 hO.out
      have c33 := (kb_cell (kb_below hbel D1.out) 33).trans (by simpa using q33)
      clear hO hW
      by_cases hlt : k < n
      · have HI := Lib.hid (show k < c.vs.length by rw [HN.out]; exact hlt)
        obtain ⟨b, off, cap', hA, hbl, d0', d1'⟩ := HV.out.at HI.out
        have bw := bl_then HB.out hbel
        have d0 := (bw.cell (p := ⟨b, off + k * 2, none⟩) hbl).trans d0'
        have d1 := (bw.cell (p := ⟨b, off + k * 2 + 1, none⟩) hbl).trans d1'
        obtain ⟨rfl, rfl⟩ : A = some ⟨b, off, none⟩ ∧ cap = cap' := by injection hA with h1 h2 h3; exact ⟨h1, h3⟩
        obtain ⟨p0, p1, _⟩ := HR.out.mem (List.mem_of_getElem? (vAt_some HI.out))
        clear hA d0' d1' hbel
        by_cases hp : (m : Int) ≤ (vAt c.vs k).p
        · have HE := Lib.hid (show whoE ks c = 3 by unfold whoE; rw [if_neg (by rw [HC.out]; simp), HW.out.bad HI.out (by rw [HM.out]; omega)]; rfl)
          go_wp2_with fail
          go_ret2
          exact WhoOut.none (by rw [HE.out]; decide) (by rw [HE.out]; rfl) rfl (bl_then HB.out HBe.out)
        · have hp' : (vAt c.vs k).p < (m : Int) := by omega
          obtain ⟨dd, hdd⟩ : ∃ dd, ks[(vAt c.vs k).p.toNat]? = some dd := ⟨_, List.getElem?_eq_getElem (by rw [HM.out]; omega)⟩
          obtain ⟨b2, off2, cp2, hB, hb2, hcc⟩ := HS.out.at dcs_len hdd
          obtain ⟨rfl, rfl⟩ : B = some ⟨b2, off2, none⟩ ∧ cap2 = cp2 := by injection hB with h1 h2 h3; exact ⟨h1, h3⟩
          have f0 := (bw.cell (p := ⟨b2, off2 + (vAt c.vs k).p.toNat * 5, none⟩) hb2).trans (hcc 0 _ rfl)
          have f1 := (bw.cell (p := ⟨b2, off2 + (vAt c.vs k).p.toNat * 5 + 1, none⟩) hb2).trans (hcc 1 _ rfl)
          have f2 := (bw.cell (p := ⟨b2, off2 + (vAt c.vs k).p.toNat * 5 + 2, none⟩) hb2).trans (hcc 2 _ rfl)
          have f3 := (bw.cell (p := ⟨b2, off2 + (vAt c.vs k).p.toNat * 5 + 3, none⟩) hb2).trans (hcc 3 _ rfl)
          have HQ := Lib.hid (HW.out.next HI.out hdd)
          have ho := HO.out
          have ho2 := ho.alloc (.cells #[u8v dd.k.a, u8v dd.k.b, u8v dd.k.c, u8v dd.k.d] 52)
          have HO1 := Lib.hid ho
          have hlk := lit_key wr dd.k
          have HLK := Lib.hid hlk
          clear hlk
          clear hB hcc hdd bw ho
          go_wp2_with (at_builtin; refine wpList_append_g Try.underlying43 hi0 hz0 hz1 hz2 rfl (by decide) (by decide) kcs_len kcs_one _ rfl _ _ rfl w1.heap.size _ _ _ rfl ho2 _ [dd.k] rfl HLK.out ?c3 ?c4 ?_)
          case c3 => first | omega | (simp; omega)
          case c4 => have := HBe.out.size; first | omega | (simp; omega)
          intro v' w5 hown' hgrow _
          have R := Lib.hid (gapp_rel HO1.out HBe.out hown' hgrow)
          obtain ⟨A6, c6, rfl⟩ := owns_slice0 hown'
          clear hown' hgrow ho2
          go_wp2_with fail
          go_roundw
          case rel => exact ⟨k + 1, _, by omega, by go_num, Lib.hid R.out.1, Lib.hid HQ.out, R.out.2⟩
          case measure => simp [intOf]; omega
      · obtain rfl : k = n := by omega
        have HE := Lib.hid (show whoE ks c = 0 ∧ whoL ks c = L by
          have h := HW.out
          rw [← HN.out] at h
          have he : whoE ks c = 0 := by unfold whoE; rw [if_neg (by rw [HC.out]; simp), h.end]; rfl
          refine ⟨he, ?_⟩
          unfold whoL; rw [if_pos he, h.end]; rfl)
        clear hbel
        go_wp2_with fail
        go_ret2
        refine ⟨.slice A4 k c4, by rw [HE.out.1]; rfl, ?_, bl_then HB.out HBe.out⟩
        rw [HE.out.2, HW.out.2]
        exact owns_mono HO.out HB.out.size
  · have HE := Lib.hid (show whoE ks c = chk c by unfold whoE; rw [if_pos hc])
    have HZ := Lib.hid (show whoE ks c ≠ 0 by rw [HE.out]; exact hc)
    have hn1 : ((chk c : Int) == 0) = false := by simpa using hc
    have hn' : ¬ ((chk c : Int) = 0) := by omega
    clear hc
    go_wp2_with fail
    go_ret2
    exact WhoOut.none HZ.out (by rw [HE.out]) rfl HB.out
end Go.Proofs.Ytooghjnddifpdaa
