/- landfallkit's CopyVals and OverKeys. -/
import Derived.Test.YtooghjnddifpdaaCm22
namespace Go.Proofs.Ytooghjnddifpdaa
open Go.RowKit Go.Proofs.Ytooghjnddifpdaa.Cm BigFrame
set_option linter.unusedSimpArgs false
set_option linter.unusedVariables false
attribute [local go_sem] cell_alloc_some frozen_alloc_some

set_option maxRecDepth 100000 in
set_option maxHeartbeats 4000000 in
theorem CopyVals_any {w : World} {v : Value} {l : List Vd} (hv : DRow w v l) (hl : l.length ≤ 1000000) :
    Calls Try.prog 31 #[v] w fun e w' => ∃ v', e = .returned v' ∧ w'.ownsRow w.heap.size 89 5 v' l.length (gcs dcs l) ∧ Below w.heap.size w w' := by
  obtain ⟨i0, hi0, hz0, hz1, hz2⟩ := info_parts infoD
  have b0 := bl_alloc (Below.refl w.heap.size w) (.cells #[] 89)
  have HV := Lib.hid (hv.below b0)
  have ho : (w.alloc (.cells #[] 89)).ownsRow w.heap.size 89 5 (.slice (some ⟨w.heap.size, 0, none⟩) 0 0) 0 [] := owns_lit0g (kb_new rfl _) (by omega) rfl
  obtain ⟨A, cap, hvv⟩ := hv.form
  subst hvv
  have HB := Lib.hid b0
  clear hv b0
  go_enter Try.func31, Try.ntmps31
  go_wp2_with (at_builtin; refine wpList_append_g Try.underlying46 hi0 hz0 hz1 hz2 rfl (by decide) (by decide) dcs_len dcs_one _ rfl _ _ rfl w.heap.size _ _ _ rfl ho _ l rfl HV.out ?c3 ?c4 ?_)
  case c3 => omega
  case c4 => simp
  intro v' w1 hown' hgrow _
  have b1 : Below w.heap.size w w1 := HB.out.grown hgrow (by simp) (fun j hj => by simp [Value.ownBlock] at hj; omega)
  have HO := Lib.hid (show w1.ownsRow w.heap.size 89 5 v' l.length (gcs dcs l) by simpa using hown')
  have HB1 := Lib.hid b1
  clear hown' hgrow ho b1
  go_wp2_with fail
  go_ret
  exact ⟨_, rfl, HO.out, HB1.out⟩

set_option maxRecDepth 100000 in
set_option maxHeartbeats 4000000 in
theorem OverKeys_any {w : World} {B n : Nat} {v : Value} {xs : List Value} (hv : w.ownsRow B 52 4 v n xs) (hl : n ≤ 1000000) :
    Calls Try.prog 39 #[v] w fun e w' => (∃ u, e = .returned u) ∧ Keep (fun b => v.ownBlock = some b) w w' := by
  rcases hv.2 with ⟨rfl, h0⟩ | ⟨g, cap, cur, rfl, _, hh, hnc, _, hsz, _⟩
  · subst h0
    clear hv
    go_enter Try.func39, Try.ntmps39
    go_wp2_with fail
    go_loopw [2, 3, 4, 5, 6, 7, 8, 9, 10, 11, 12] (fun s2 _ _ _ _ _ _ _ _ _ _ wr => s2 = .int .i64 0 ∧ w = wr) (fun _ _ _ _ _ _ _ _ _ _ _ _ => 0)
    case atStart => exact ⟨rfl, rfl⟩
    case round =>
      obtain ⟨rfl, rfl⟩ := hrel
      go_wp2_with fail
      go_end0
      exact ⟨⟨_, rfl⟩, Keep.refl _ _⟩
  · have hg : g < w.heap.size := kb_lt hh
    clear hv
    go_enter Try.func39, Try.ntmps39
    go_wp2_with fail
    go_loopw [2, 3, 4, 5, 6, 7, 8, 9, 10, 11, 12] (fun s2 _ _ _ _ _ _ _ _ _ _ wr => ∃ (k : Nat) (cr : Array Value), k ≤ n ∧ s2 = .int .i64 k ∧ wr.heap[g]? = some (.cells cr 52 (0, 0)) ∧ cr.size = cap * 4 ∧ Keep (fun b => (Value.slice (some ⟨g, 0, none⟩) n cap).ownBlock = some b) w wr) (fun s2 _ _ _ _ _ _ _ _ _ _ _ => n - (intOf s2).toNat)
    case atStart => exact ⟨0, cur, by omega, rfl, hh, hsz, Keep.refl _ _⟩
    case round =>
      obtain ⟨k, cr, hk, rfl, hr, hcs, hK⟩ := hrel
      have HK := Lib.hid hK
      by_cases hlt : k < n
      · have d0 := (kb_cell hr (k * 4)).trans (Array.getElem?_eq_getElem (by omega))
        have d1 := (kb_cell hr (k * 4 + 1)).trans (Array.getElem?_eq_getElem (by omega))
        have d2 := (kb_cell hr (k * 4 + 2)).trans (Array.getElem?_eq_getElem (by omega))
        have d3 := (kb_cell hr (k * 4 + 3)).trans (Array.getElem?_eq_getElem (by omega))
        have z0 := kb_frozen hr (k * 4)
        have z1 := kb_frozen hr (k * 4 + 1)
        have z2 := kb_frozen hr (k * 4 + 2)
        have z3 := kb_frozen hr (k * 4 + 3)
        have f1 := kb_set (i := k * 4) hr (.int .u8 255)
        have f2 := kb_set (i := k * 4 + 1) f1 (.int .u8 7)
        have f3 := kb_set (i := k * 4 + 2) f2 (.int .u8 7)
        have f4 := kb_set (i := k * 4 + 3) f3 (.int .u8 7)
        have k4 := (((hK.set (p := ⟨g, k * 4, none⟩) (fun _ => rfl) (.int .u8 255)).set (p := ⟨g, k * 4 + 1, none⟩) (fun _ => rfl) (.int .u8 7)).set (p := ⟨g, k * 4 + 2, none⟩) (fun _ => rfl) (.int .u8 7)).set (p := ⟨g, k * 4 + 3, none⟩) (fun _ => rfl) (.int .u8 7)
        have HF := Lib.hid (And.intro f4 k4)
        generalize cr[k * 4] = x0 at *
        generalize cr[k * 4 + 1] = x1 at *
        generalize cr[k * 4 + 2] = x2 at *
        generalize cr[k * 4 + 3] = x3 at *
        clear hr hK f1 f2 f3 f4 k4
        go_wp2_with fail
        go_roundw
        case rel => exact ⟨k + 1, _, by omega, by go_num, HF.out.1, by simpa using hcs, HF.out.2⟩
        case measure => simp [intOf]; omega
      · obtain rfl : k = n := by omega
        go_wp2_with fail
        go_end0
        exact ⟨⟨_, rfl⟩, HK.out⟩
end Go.Proofs.Ytooghjnddifpdaa
