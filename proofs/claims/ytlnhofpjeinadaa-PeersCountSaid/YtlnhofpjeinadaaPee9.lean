/- The walks of package peers: Fill, Move, Strike, Praise. -/
import Derived.Test.YtlnhofpjeinadaaPee8
namespace Go.Proofs.Ytlnhofpjeinadaa
set_option linter.unusedSimpArgs false
set_option linter.unusedVariables false
open Go.RowKit Go.Proofs.Ytlnhofpjeinadaa.Pc Go.Shelf BigFrame
attribute [local go_sem] run_store_float

def lenV : Value → Nat
  | .slice _ n _ => n
  | _ => 0
/-- What Fill leaves. -/
def FillPost (T1 T2 : TypeId) (lay : Pr → List Value) (q g : Nat) (L : List Pr) (most : Int) (w : World) (e : Ending) (w' : World) : Prop :=
  ∃ k v, e = .returned v ∧ fills most (fillL most L k) = false ∧ w'.ownsRow w.heap.size 3 1 v k (intVs (fillI most L k)) ∧ PX T1 T2 lay w' q g (fillL most L k) ∧ Keep (fun b => b = g) w w'
theorem fills_no1 {most : Int} {L : List Pr} (h : ¬ ((ofs L 2).length : Int) < most) : fills most L = false := by simp [fills, h]
theorem fills_no2 {most : Int} {L : List Pr} (h : ¬ 0 ≤ bestI L 1) : fills most L = false := by simp [fills, h]
theorem fills_yes {most : Int} {L : List Pr} (h : ((ofs L 2).length : Int) < most) (h' : 0 ≤ bestI L 1) : fills most L = true := by simp [fills, h, h']
theorem fill_next {most : Int} {L : List Pr} {k : Nat} (h : fills most (fillL most L k) = true) {i : Nat} (hi : bestI (fillL most L k) 1 = i) : fillL most L (k + 1) = setR (fillL most L k) i 2 ∧ fillI most L (k + 1) = fillI most L k ++ [(i : Int)] := by
  simp only [fillL, fillI]
  rw [h, hi]
  exact ⟨rfl, rfl⟩
theorem fill_less {most : Int} {L : List Pr} {k : Nat} (h : fills most (fillL most L k) = true) : (ofs (fillL most L (k + 1)) 1).length + 1 = (ofs (fillL most L k) 1).length := by
  have h1 : 0 ≤ bestI (fillL most L k) 1 := by simp [fills] at h; exact h.2
  simp only [fillL]
  rw [h]
  exact spare_less h1
theorem Keep.ownr {g : Nat} {w w1 w2 : World} {B n : Nat} {v : Value} {xs : List Value} {e : TypeId} (hk : Keep (fun b => b = g) w1 w2) (h : w1.ownsRow B e 1 v n xs) (hg : g < B) : w2.ownsRow B e 1 v n xs :=
  hk.row h fun b hb (hbg : b = g) => by have := (h.lt b hb).1; omega
theorem own_setg {g i : Nat} {w1 : World} {B n : Nat} {v u : Value} {xs : List Value} {e : TypeId} (h : w1.ownsRow B e 1 v n xs) (hg : g < B) : (w1.setCell ⟨g, i, none⟩ u).ownsRow B e 1 v n xs :=
  own_set h fun hb => by have := (h.lt g hb).1; omega

set_option maxRecDepth 100000 in
set_option maxHeartbeats 4000000 in
theorem Fill_any {w : World} {q g : Nat} {L : List Pr} (F : PP w q g L) (most : Int) : Calls Try.prog 30 #[.pointer (some ⟨q, 0, none⟩), .int .i64 most] w (FillPost 80 71 layP q g L most w) := by
  obtain ⟨i0, hi, hz0, hz1, hz2⟩ := info_parts infoI
  have HF := Lib.hid F
  have hg := F.ltg
  have hS : (ofs L 1).length ≤ 16 := by have := ofs_len L 1; have := F.hi; omega
  clear F
  go_enter Try.func30, Try.ntmps30
  go_wp2
  go_loopw [4, 5, 6, 7, 8, 9, 10, 11, 12, 13, 14, 15, 16, 17, 18, 19, 20, 21, 22, 23, 24, 25, 26] (fun s4 _ _ _ _ _ _ _ _ _ _ _ _ _ _ _ _ _ _ _ _ _ _ wr => ∃ k : Nat, ∃ A cap, s4 = .slice A k cap ∧ k + (ofs (fillL most L k) 1).length = (ofs L 1).length ∧ Hid (wr.ownsRow w.heap.size 3 1 (.slice A k cap) k (intVs (fillI most L k)) ∧ PP wr q g (fillL most L k) ∧ Keep (fun b => b = g) w wr)) (fun s4 _ _ _ _ _ _ _ _ _ _ _ _ _ _ _ _ _ _ _ _ _ _ _ => 17 - lenV s4)
  case atStart => exact ⟨0, _, _, rfl, by simp [fillL], World.ownsRow_nil _ _ _ _, HF.out, Keep.refl _ _⟩
  case round =>
    obtain ⟨k, A, cap, rfl, hk, hR⟩ := hrel
    have hkl : k ≤ 16 := by omega
    have hk' := Lib.hid hk
    clear hk
    go_wp2_with fail
    refine (All_any hR.out.2.1 2).mono ?_
    rintro e w1 ⟨v, rfl, ho1, hb1⟩
    obtain ⟨A1, cap1, rfl⟩ := owns_slice0 ho1
    have HR : Hid (w1.ownsRow w.heap.size 3 1 (.slice A k cap) k (intVs (fillI most L k)) ∧ PP w1 q g (fillL most L k) ∧ Keep (fun b => b = g) w w1) :=
      ⟨(Keep.of_below (S := fun _ => False) hb1).row hR.out.1 (fun _ _ x => x), hR.out.2.1.below hb1, hR.out.2.2.then_below hb1⟩
    have hm16 : (ofs (fillL most L k) 2).length ≤ 16 := by have := ofs_len (fillL most L k) 2; have := hR.out.2.1.hi; omega
    have hbig := HR.out.2.2.size
    clear ho1 hR hb1
    by_cases h1 : (((ofs (fillL most L k) 2).length : Nat) : Int) < most
    · have H1 := Lib.hid h1
      generalize (ofs (fillL most L k) 2).length = m at h1 hm16 ⊢
      go_wp2_with fail
      refine (of_any q 1 _).mono ?_
      rintro e w2 ⟨rfl, rfl⟩
      go_wp2_with fail
      have hbx : Below w1.heap.size w1 ((w1.alloc (.cells #[.pointer (some ⟨q, 0, none⟩)] 22)).alloc (.cells #[.int .i64 1] 3)) := by (repeat (with_reducible (first | exact Below.refl _ _ | assumption | refine bl_alloc ?_ _ | refine bl_drew ?_ | refine bl_drewN ?_ _ | (refine bl_set ?_ ?_ _; (focus (first | (simp; done) | (simp; omega) | omega))) | refine bl_then ?_ (by assumption))))
      by_cases h2 : 0 ≤ bestI (fillL most L k) 1
      · obtain ⟨i, x, hib, hlt, hx⟩ := best_nat h2
        have hf := fills_yes H1.out h2
        obtain ⟨n1, n2⟩ := fill_next hf hib
        have n3 := fill_less hf
        rw [n1] at n3
        have HB := Lib.hid (fun W c1 c2 (F : PP W q g (fillL most L k)) h1 h2 => hib ▸ best_any F 1 c1 c2 h1 h2)
        refine (HB.out _ _ _ (HR.out.2.1.below hbx) (kb_alloc (kb_new rfl _) _) (kb_new (by simp) _)).mono ?_
        rintro e w3 ⟨rfl, hb3⟩
        have hb13 := bl_then hbx hb3
        have F3 := HR.out.2.1.below hb13
        obtain ⟨ca, hst⟩ := F3.st
        have c := kb_cell hst
        have z := F3.frozen
        have cx := F3.cell hx 2 _ rfl
        have gne : g < w3.heap.size := F3.ltg
        have O3 : w3.ownsRow w.heap.size 3 1 (.slice A k cap) k (intVs (fillI most L k)) := (Keep.of_below (S := fun _ => False) hb13).row HR.out.1 (fun _ _ x => x)
        have K3 := HR.out.2.2.then_below hb13
        have hs3 := K3.size
        have P4 := PP.role F3 hx (r := 2) (by omega) (by omega)
        rw [← n1] at P4
        have HX := Lib.hid (And.intro P4 (And.intro O3 K3))
        have HN := Lib.hid (And.intro n2 (And.intro n1 n3))
        have h16 := F3.hi
        generalize (fillL most L k).length = n at *
        clear HR h2 hf n1 n2 n3 HB hib F3 hst hx P4 O3 K3 hb13 hb3 hbx h1 H1
        go_wp2_with (at_builtin; refine wpList_append_own _ rfl _ _ 25 rfl w.heap.size 3 i0 (.int .i64 0) 1 8 Try.underlying25 hi hz0 hz1 hz2 rfl (by decide) _ _ _ rfl ((own_setg HX.out.2.1 hg).alloc _) ⟨w3.heap.size, 0, none⟩ 1 1 [.int .i64 i] rfl rfl (by have := cell_one_new (w3.setCell ⟨g, i * 4 + 2, none⟩ (.int .i64 2)) (.int .i64 i) 3; simpa using this) ?c2 ?c3 ?c4 ?c5 ?_)
        case c2 => intro v hv; simp at hv; subst hv; rfl
        case c3 => unfold maxLen; omega
        case c4 => omega
        case c5 => simp; omega
        intro v' w5 hown' hgrow _
        obtain ⟨A', cap', rfl⟩ := owns_slice0 hown'
        have P5 := HX.out.1.keep (w' := (w3.setCell ⟨g, i * 4 + 2, none⟩ (.int .i64 2)).alloc (.cells #[.int .i64 i] 3)) (S := fun _ => False) ((Keep.refl _ _).alloc _) (fun x => x) (fun x => x)
        have K4 : Keep (fun b => b = g) w ((w3.setCell ⟨g, i * 4 + 2, none⟩ (.int .i64 2)).alloc (.cells #[.int .i64 i] 3)) := (HX.out.2.2.set (fun _ => rfl) _).alloc _
        have hrow : ∀ b, (Value.slice A k cap).ownBlock = some b → w.heap.size ≤ b := fun b hb => (HX.out.2.1.lt b hb).1
        have hq := HF.out.ltq
        have P6 := P5.keep (S := fun b => (Value.slice A k cap).ownBlock = some b) (w' := w5) ((Keep.refl _ _).grown hgrow (fun b _ h => h)) (fun h => by have := hrow _ h; omega) (fun h => by have := hrow _ h; omega)
        have K6 : Keep (fun b => b = g) w w5 := K4.grown hgrow (fun b hb h => by have := hrow _ h; omega)
        have h1 := hk'.out
        have h2 := HN.out.2.2
        rw [← HN.out.2.1] at h2
        have HZ := Lib.hid (show k + 1 + (ofs (fillL most L (k + 1)) 1).length = (ofs L 1).length by omega)
        have hZ : Hid (w5.ownsRow w.heap.size 3 1 (.slice A' (k + 1) cap') (k + 1) (intVs (fillI most L (k + 1))) ∧ PP w5 q g (fillL most L (k + 1)) ∧ Keep (fun b => b = g) w w5) := ⟨by rw [HN.out.1, intVs_next]; exact hown', P6, K6⟩
        clear hown' hgrow P5 K4 P6 K6 h1 h2 HN HX c z cx
        go_wp2
        go_roundw
        case rel => exact ⟨k + 1, A', cap', rfl, HZ.out, hZ⟩
        case measure => simp [lenV]; omega
      · have hb : bestI (fillL most L k) 1 = -1 := by have := bestI_bd (fillL most L k) 1; omega
        have hf := fills_no2 (most := most) h2
        have HB := Lib.hid (fun W c1 c2 (F : PP W q g (fillL most L k)) h1 h2 => hb ▸ best_any F 1 c1 c2 h1 h2)
        refine (HB.out _ _ _ (HR.out.2.1.below hbx) (kb_alloc (kb_new rfl _) _) (kb_new (by simp) _)).mono ?_
        rintro e w3 ⟨rfl, hb3⟩
        have hb13 := bl_then hbx hb3
        clear h2 hb
        go_wp2
        go_ret
        exact ⟨k, _, rfl, hf, (Keep.of_below (S := fun _ => False) hb13).row HR.out.1 (fun _ _ x => x), HR.out.2.1.below hb13, HR.out.2.2.then_below hb13⟩
    · have hf := fills_no1 h1
      generalize (ofs (fillL most L k) 2).length = m at h1 hm16 ⊢
      go_wp2
      go_ret
      exact ⟨k, _, rfl, hf, HR.out.1, HR.out.2.1, HR.out.2.2⟩
end Go.Proofs.Ytlnhofpjeinadaa
