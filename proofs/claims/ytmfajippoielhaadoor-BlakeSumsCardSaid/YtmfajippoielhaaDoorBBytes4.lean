/- landfallkit.CopyBytes; a slice of bytes cut short; a row of bytes with one more. -/
import Derived.Test.YtmfajippoielhaaDoorBBytes2
namespace Go.Proofs.YtmfajippoielhaaDoor
open Go.RowKit
set_option linter.unusedSimpArgs false
set_option linter.unusedVariables false

set_option maxHeartbeats 1000000 in
theorem CopyBytes_any {w : World} {v : Value} {l : List UInt8} (h : BytesOf w v l) (hl : l.length ≤ 1000000) :
    Calls Tryd.prog 26 #[v] w fun e w' => ∃ v', e = .returned v' ∧ NewBytes w w' v' l := by
  obtain ⟨A, c, rfl⟩ := h.form
  have HR := Lib.hid (h.alloc (.cells #[] 5))
  obtain ⟨i0, hi, hz0, hz1, hz2⟩ := info_parts infoU
  have hn := owns_lit0 (w := w.alloc (.cells #[] 5)) (base := w.heap.size) (cap := 0) (kb_new rfl _) (Nat.le_refl _) rfl
  clear h
  go_enter Tryd.func26, Tryd.ntmps26
  go_wp2_with (at_builtin; refine wpList_append_row _ rfl _ _ 22 rfl w.heap.size 5 i0 (.int .u8 0) 1 Tryd.underlying22 hi hz0 hz1 hz2 rfl _ _ _ rfl hn _ _ _ rfl HR.out (u8s_one _) ?c3 ?c4 ?c5 ?_)
  case c3 => unfold maxLen; omega
  case c4 => omega
  case c5 => simp
  intro v' w1 hown' hgrow _ _
  have b1 : Below w.heap.size w w1 := (bl_alloc (Below.refl _ _) _).grown hgrow (by simp) (fun j hj => by simp [Value.ownBlock] at hj; omega)
  have H1 := Lib.hid (show NewBytes w w1 v' l from ⟨by simpa using hown', b1⟩)
  clear hgrow hown' b1
  go_wp2
  go_ret
  exact ⟨_, rfl, H1.out⟩
/-- Bytes cut short. -/
theorem bytes_take {w : World} {B n cap k : Nat} {A : Option Addr} {bs : List UInt8} (h : w.ownsRow B 5 1 (.slice A n cap) n (u8s bs)) (hk : k ≤ n) : BytesOf w (.slice A k cap) (bs.take k) := by
  obtain ⟨A', c', e, hl, hc⟩ := RowOf.of_own h
  injection e with e1 e2 e3
  subst e1; subst e3
  rw [u8s_len] at hl
  refine ⟨_, _, by rw [List.length_take, hl, Nat.min_eq_left hk], u8s_len _, fun h0 => ?_⟩
  rw [List.length_take, hl, Nat.min_eq_left hk] at h0
  obtain ⟨b, off, e, hb, hc⟩ := hc (by omega)
  refine ⟨b, off, e, hb, fun j u hu => hc j u ?_⟩
  rw [← u8s_take, List.getElem?_take] at hu
  split at hu
  · exact hu
  · cases hu
end Go.Proofs.YtmfajippoielhaaDoor
