/- The walks of the reference of peers: Next, Fill. -/
import Derived.Test.YtlnhofpjeinadaaPee9
namespace Go.Proofs.Ytlnhofpjeinadaa
set_option linter.unusedSimpArgs false
set_option linter.unusedVariables false
open Go.RowKit Go.Proofs.Ytlnhofpjeinadaa.Pc Go.Shelf BigFrame
attribute [local go_sem] run_store_float

set_option maxRecDepth 100000 in
set_option maxHeartbeats 2000000 in
theorem rNext_any {w : World} {q g : Nat} {L : List Pr} (F : RP w q g L) : Calls Try.prog 55 #[.pointer (some ⟨q, 0, none⟩)] w fun e w' => e = .returned (.int .i64 (nextI L)) ∧ RP w' q g (nextL L) ∧ Keep (fun b => b = g) w w' := by
  by_cases h3 : 0 ≤ bestI L 3
  · have e1 : nextI L = -1 := by unfold nextI; rw [if_pos h3]
    have e2 : nextL L = L := by unfold nextL; rw [e1]; rfl
    rw [e1, e2]
    have HP := Lib.hid (rPrimary_any F)
    have HF := Lib.hid F
    generalize bestI L 3 = b at *
    clear F
    go_enter Try.func55, Try.ntmps55
    go_wp2_with (go_at_call 47; (with_reducible refine (HP.out).mono ?_); rintro e w1 ⟨rfl, hb1⟩; have hz1 := hb1.size)
    go_ret
    exact ⟨rfl, HF.out.kept hb1⟩
  · have hb3 : bestI L 3 = -1 := by have := bestI_bd L 3; omega
    have HP := Lib.hid (hb3 ▸ rPrimary_any F)
    have HF := Lib.hid F
    have e1 : nextI L = if 0 ≤ bestI L 2 then bestI L 2 else bestI L 1 := by unfold nextI; rw [if_neg h3]
    have hL := F.hi
    by_cases h2 : 0 ≤ bestI L 2
    · obtain ⟨i, x, hi, hlt, hx⟩ := best_nat h2
      have e2 : nextI L = i := by rw [e1, if_pos h2]; exact hi
      have e3 : nextL L = setR L i 3 := by unfold nextL; rw [e2, if_pos (by omega)]; rfl
      have E2 := Lib.hid e2
      have E3 := Lib.hid e3
      have HB := Lib.hid (fun W (k : Below w.heap.size w W) => hi ▸ rbest_any (F.below k) 2)
      have HX := Lib.hid hx
      have hlt' := Lib.hid hlt
      clear F h3 hb3 e1 e2 e3 h2 hi hx
      go_enter Try.func55, Try.ntmps55
      go_wp2_with (go_at_call 47; (with_reducible refine (HP.out).mono ?_); rintro e w1 ⟨rfl, hb1⟩; have hz1 := hb1.size)
      refine (HB.out _ hb1).mono ?_
      rintro e w2 ⟨rfl, hb2⟩
      have hbw := bl_then hb1 hb2
      have F1 := HF.out.below hbw
      obtain ⟨cap, hst⟩ := F1.st
      have c := kb_cell hst
      have z := F1.frozen
      have cx := F1.cell0 HX.out _ rfl
      have H1 := Lib.hid F1
      generalize L.length = n at *
      clear F1 hst
      go_wp2
      go_ret
      exact ⟨ret_int E2.out.symm, by rw [E3.out]; exact ⟨RP.role H1.out HX.out (by omega) (by omega), keep_set hbw⟩⟩
    · have hb2 : bestI L 2 = -1 := by have := bestI_bd L 2; omega
      have HB := Lib.hid (fun W (k : Below w.heap.size w W) => hb2 ▸ rbest_any (F.below k) 2)
      rw [if_neg h2] at e1
      by_cases h1 : 0 ≤ bestI L 1
      · obtain ⟨i, x, hi, hlt, hx⟩ := best_nat h1
        have e2 : nextI L = i := by rw [e1]; exact hi
        have e3 : nextL L = setR L i 3 := by unfold nextL; rw [e2, if_pos (by omega)]; rfl
        have E2 := Lib.hid e2
        have E3 := Lib.hid e3
        have HB1 := Lib.hid (fun W (k : Below w.heap.size w W) => hi ▸ rbest_any (F.below k) 1)
        have HX := Lib.hid hx
        clear F h3 hb3 hb2 e1 e2 e3 h2 hi hx h1
        go_enter Try.func55, Try.ntmps55
        go_wp2_with (go_at_call 47; (with_reducible refine (HP.out).mono ?_); rintro e w1 ⟨rfl, hb1⟩; have hz1 := hb1.size)
        refine (HB.out _ hb1).mono ?_
        rintro e w2 ⟨rfl, hb2⟩
        have hbw := bl_then hb1 hb2
        go_wp2_with fail
        refine (HB1.out _ hbw).mono ?_
        rintro e w3 ⟨rfl, hb3⟩
        have hbx := bl_then hbw hb3
        have F1 := HF.out.below hbx
        obtain ⟨cap, hst⟩ := F1.st
        have c := kb_cell hst
        have z := F1.frozen
        have cx := F1.cell0 HX.out _ rfl
        have H1 := Lib.hid F1
        generalize L.length = n at *
        clear F1 hst
        go_wp2
        go_ret
        exact ⟨ret_int E2.out.symm, by rw [E3.out]; exact ⟨RP.role H1.out HX.out (by omega) (by omega), keep_set hbx⟩⟩
      · have hbo : bestI L 1 = -1 := by have := bestI_bd L 1; omega
        have e2 : nextI L = -1 := by rw [e1, hbo]
        have e3 : nextL L = L := by unfold nextL; rw [e2]; rfl
        have E2 := Lib.hid e2
        have E3 := Lib.hid e3
        have HB1 := Lib.hid (fun W (k : Below w.heap.size w W) => hbo ▸ rbest_any (F.below k) 1)
        clear F h3 hb3 hb2 e1 e2 e3 h2 hbo h1
        go_enter Try.func55, Try.ntmps55
        go_wp2_with (go_at_call 47; (with_reducible refine (HP.out).mono ?_); rintro e w1 ⟨rfl, hb1⟩; have hz1 := hb1.size)
        refine (HB.out _ hb1).mono ?_
        rintro e w2 ⟨rfl, hb2⟩
        have hbw := bl_then hb1 hb2
        go_wp2_with fail
        refine (HB1.out _ hbw).mono ?_
        rintro e w3 ⟨rfl, hb3⟩
        have hbx := bl_then hbw hb3
        go_wp2
        go_ret
        exact ⟨ret_int E2.out.symm, by rw [E3.out]; exact HF.out.kept hbx⟩

set_option maxRecDepth 100000 in
set_option maxHeartbeats 4000000 in
theorem rFill_any {w : World} {q g : Nat} {L : List Pr} (F : RP w q g L) (most : Int) : Calls Try.prog 45 #[.pointer (some ⟨q, 0, none⟩), .int .i64 most] w (FillPost 87 89 layR q g L most w) := by
  obtain ⟨i0, hi, hz0, hz1, hz2⟩ := info_parts infoI
  have HF := Lib.hid F
  have hg := F.ltg
  have hS : (ofs L 1).length ≤ 16 := by have := ofs_len L 1; have := F.hi; omega
  clear F
  go_enter Try.func45, Try.ntmps45
  go_wp2
  go_loopw [5, 6, 7, 8, 9, 10, 11, 12, 13, 14, 15, 16, 17, 18, 19, 20, 21, 22, 23, 24, 25, 26, 27, 28, 29] (fun s5 _ _ _ _ _ _ _ _ _ _ _ _ _ _ _ _ _ _ _ _ _ _ _ _ wr => ∃ k : Nat, ∃ A cap, s5 = .slice A k cap ∧ k + (ofs (fillL most L k) 1).length = (ofs L 1).length ∧ Hid (wr.ownsRow w.heap.size 3 1 (.slice A k cap) k (intVs (fillI most L k)) ∧ RP wr q g (fillL most L k) ∧ Keep (fun b => b = g) w wr)) (fun s5 _ _ _ _ _ _ _ _ _ _ _ _ _ _ _ _ _ _ _ _ _ _ _ _ _ => 17 - lenV s5)
  case atStart => exact ⟨0, _, _, rfl, by simp [fillL], World.ownsRow_nil _ _ _ _, HF.out, Keep.refl _ _⟩
  case round =>
    obtain ⟨k, A, cap, rfl, hk, hR⟩ := hrel
    have hkl : k ≤ 16 := by omega
    have hk' := Lib.hid hk
    clear hk
    go_wp2_with fail
    refine (rAll_any hR.out.2.1 2).mono ?_
    rintro e w1 ⟨v, rfl, ho1, hb1⟩
    obtain ⟨A1, cap1, rfl⟩ := owns_slice0 ho1
    have HR : Hid (w1.ownsRow w.heap.size 3 1 (.slice A k cap) k (intVs (fillI most L k)) ∧ RP w1 q g (fillL most L k) ∧ Keep (fun b => b = g) w w1) :=
      ⟨(Keep.of_below (S := fun _ => False) hb1).row hR.out.1 (fun _ _ x => x), hR.out.2.1.below hb1, hR.out.2.2.then_below hb1⟩
    have hm16 : (ofs (fillL most L k) 2).length ≤ 16 := by have := ofs_len (fillL most L k) 2; have := hR.out.2.1.hi; omega
    have hbig := HR.out.2.2.size
    clear ho1 hR hb1
    by_cases h1 : (((ofs (fillL most L k) 2).length : Nat) : Int) < most
    · have H1 := Lib.hid h1
      generalize (ofs (fillL most L k) 2).length = m at h1 hm16 ⊢
      by_cases h2 : 0 ≤ bestI (fillL most L k) 1
      · obtain ⟨i, x, hib, hlt, hx⟩ := best_nat h2
        have hf := fills_yes H1.out h2
        obtain ⟨n1, n2⟩ := fill_next hf hib
        have n3 := fill_less hf
        rw [n1] at n3
        have HB := Lib.hid (fun W (F : RP W q g (fillL most L k)) => hib ▸ rbest_any F 1)
        go_wp2_with fail
        refine (HB.out _ HR.out.2.1).mono ?_
        rintro e w2 ⟨rfl, hb2⟩
        go_wp2_with fail
        refine (HB.out _ (HR.out.2.1.below hb2)).mono ?_
        rintro e w3 ⟨rfl, hb3⟩
        have hb13 := bl_then hb2 hb3
        have F3 := HR.out.2.1.below hb13
        obtain ⟨ca, hst⟩ := F3.st
        have c := kb_cell hst
        have z := F3.frozen
        have cx := F3.cell0 hx _ rfl
        have gne : g < w3.heap.size := F3.ltg
        have O3 : w3.ownsRow w.heap.size 3 1 (.slice A k cap) k (intVs (fillI most L k)) := (Keep.of_below (S := fun _ => False) hb13).row HR.out.1 (fun _ _ x => x)
        have K3 := HR.out.2.2.then_below hb13
        have hs3 := K3.size
        have P4 := RP.role F3 hx (r := 2) (by omega) (by omega)
        rw [← n1] at P4
        have HX := Lib.hid (And.intro P4 (And.intro O3 K3))
        have HN := Lib.hid (And.intro n2 (And.intro n1 n3))
        have h16 := F3.hi
        generalize (fillL most L k).length = n at *
        clear HR h2 hf n1 n2 n3 HB hib F3 hst hx P4 O3 K3 hb13 hb3 hb2 h1 H1
        go_wp2_with (at_builtin; refine wpList_append_own _ rfl _ _ 25 rfl w.heap.size 3 i0 (.int .i64 0) 1 8 Try.underlying25 hi hz0 hz1 hz2 rfl (by decide) _ _ _ rfl ((own_setg HX.out.2.1 hg).alloc _) ⟨w3.heap.size, 0, none⟩ 1 1 [.int .i64 i] rfl rfl (by have := cell_one_new (w3.setCell ⟨g, i * 4, none⟩ (.int .i64 2)) (.int .i64 i) 3; simpa using this) ?c2 ?c3 ?c4 ?c5 ?_)
        case c2 => intro v hv; simp at hv; subst hv; rfl
        case c3 => unfold maxLen; omega
        case c4 => omega
        case c5 => simp; omega
        intro v' w5 hown' hgrow _
        obtain ⟨A', cap', rfl⟩ := owns_slice0 hown'
        have P5 := HX.out.1.keep (w' := (w3.setCell ⟨g, i * 4, none⟩ (.int .i64 2)).alloc (.cells #[.int .i64 i] 3)) (S := fun _ => False) ((Keep.refl _ _).alloc _) (fun x => x) (fun x => x)
        have K4 : Keep (fun b => b = g) w ((w3.setCell ⟨g, i * 4, none⟩ (.int .i64 2)).alloc (.cells #[.int .i64 i] 3)) := (HX.out.2.2.set (fun _ => rfl) _).alloc _
        have hrow : ∀ b, (Value.slice A k cap).ownBlock = some b → w.heap.size ≤ b := fun b hb => (HX.out.2.1.lt b hb).1
        have hq := HF.out.ltq
        have P6 := P5.keep (S := fun b => (Value.slice A k cap).ownBlock = some b) (w' := w5) ((Keep.refl _ _).grown hgrow (fun b _ h => h)) (fun h => by have := hrow _ h; omega) (fun h => by have := hrow _ h; omega)
        have K6 : Keep (fun b => b = g) w w5 := K4.grown hgrow (fun b hb h => by have := hrow _ h; omega)
        have h1 := hk'.out
        have h2 := HN.out.2.2
        rw [← HN.out.2.1] at h2
        have HZ := Lib.hid (show k + 1 + (ofs (fillL most L (k + 1)) 1).length = (ofs L 1).length by omega)
        have hZ : Hid (w5.ownsRow w.heap.size 3 1 (.slice A' (k + 1) cap') (k + 1) (intVs (fillI most L (k + 1))) ∧ RP w5 q g (fillL most L (k + 1)) ∧ Keep (fun b => b = g) w w5) := ⟨by rw [HN.out.1, intVs_next]; exact hown', P6, K6⟩
        clear hown' hgrow P5 K4 P6 K6 h1 h2 HN HX c z cx
        go_wp2
        go_roundw
        case rel => exact ⟨k + 1, A', cap', rfl, HZ.out, hZ⟩
        case measure => simp [lenV]; omega
      · have hb : bestI (fillL most L k) 1 = -1 := by have := bestI_bd (fillL most L k) 1; omega
        have hf := fills_no2 (most := most) h2
        have HB := Lib.hid (fun W (F : RP W q g (fillL most L k)) => hb ▸ rbest_any F 1)
        clear h2 hb
        go_wp2_with fail
        refine (HB.out _ HR.out.2.1).mono ?_
        rintro e w3 ⟨rfl, hb3⟩
        go_wp2
        go_ret
        exact ⟨k, _, rfl, hf, (Keep.of_below (S := fun _ => False) hb3).row HR.out.1 (fun _ _ x => x), HR.out.2.1.below hb3, HR.out.2.2.then_below hb3⟩
    · have hf := fills_no1 h1
      generalize (ofs (fillL most L k) 2).length = m at h1 hm16 ⊢
      go_wp2
      go_ret
      exact ⟨k, _, rfl, hf, HR.out.1, HR.out.2.1, HR.out.2.2⟩
end Go.Proofs.Ytlnhofpjeinadaa
