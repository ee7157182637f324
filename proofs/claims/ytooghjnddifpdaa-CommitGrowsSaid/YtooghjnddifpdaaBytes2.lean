/- Bytes: OverBytes, LentBytes, KeptBytes. -/
import Derived.Test.YtooghjnddifpdaaBytes
import Derived.Deep.RegionWith
import Derived.Deep.RegionHeld3
import Derived.Laws.Closers25b
import Derived.IntWalk
namespace Go.Proofs.Ytooghjnddifpdaa
open Go.RowKit

/-- A slice from a block's head on, of bytes. -/
def HeadOf (w : World) (v : Value) (g n : Nat) : Prop := ∃ cap cs, v = .slice (some ⟨g, 0, none⟩) n cap ∧ w.heap[g]? = some (.cells cs 5 (0, 0)) ∧ ∀ j, j < n → ∃ c, cs[j]? = some (u8v c)

theorem int_u8 {z : Int} (h0 : 0 ≤ z) (h1 : z ≤ 255) : ∃ c : UInt8, Value.int .u8 z = u8v c :=
  ⟨UInt8.ofNat z.toNat, by unfold u8v; congr 1; simp; omega⟩

set_option maxHeartbeats 1000000 in
theorem OverBytes_some {w : World} {v : Value} {g n : Nat} (h : HeadOf w v g n) (hn : n ≤ 1099511627776) :
    Calls Try.prog 38 #[v] w fun e w' => (∃ u, e = .returned u) ∧ Keep (fun b => b = g) w w' := by
  obtain ⟨cap, cs, rfl, hh, hc⟩ := h
  have HC := Lib.hid hc
  have HH := Lib.hid hh
  clear hc hh
  go_enter Try.func38, Try.ntmps38
  go_wp2
  go_loopw [2, 3, 4, 5, 6, 7, 8, 9, 10, 11, 12, 13, 14, 15, 16] (fun s2 _ _ _ _ _ _ _ _ _ _ _ _ _ _ wr => ∃ k : Nat, k ≤ n ∧ s2 = .int .i64 k ∧ Keep (fun b => b = g) w wr ∧ ∃ cs', wr.heap[g]? = some (.cells cs' 5 (0, 0)) ∧ ∀ j, j < n → ∃ c, cs'[j]? = some (u8v c)) (fun s2 _ _ _ _ _ _ _ _ _ _ _ _ _ _ _ => n - (intOf s2).toNat)
  case atStart => exact ⟨0, by omega, rfl, Keep.refl _ _, cs, HH.out, HC.out⟩
  case round =>
    obtain ⟨k, hk, rfl, hkp, cs', hh, hc⟩ := hrel
    by_cases hlt : k < n
    · obtain ⟨c, hcc⟩ := hc k hlt
      have c0 := (kb_cell hh k).trans hcc
      have z0 := kb_frozen hh
      have hHH := Lib.hid hh
      have hHC := Lib.hid hc
      have hKP := Lib.hid hkp
      have hil : ((k : Nat) : Int) < (n : Int) := by omega
      unfold u8v at c0
      clear hh hc hkp hcc
      go_wp2
      obtain ⟨d, hd⟩ := int_u8 (bits_lo_u8 .xor (c.toNat : Int) 165) (bits_hi_u8 .xor (c.toNat : Int) 165)
      rw [hd]
      refine ⟨⟨k + 1, by omega, by go_num, hKP.out.set (fun _ => rfl) _, _, kb_set hHH.out _, fun j hj => ?_⟩, by simp [intOf]; omega⟩
      by_cases e : k = j
      · subst e
        have hsz : k < cs'.size := by
          obtain ⟨x, hx⟩ := hHC.out k hlt
          exact (Array.getElem?_eq_some_iff.1 hx).1
        exact ⟨d, by rw [Array.getElem?_setIfInBounds_self_of_lt hsz]⟩
      · rw [Array.getElem?_setIfInBounds_ne e]
        exact hHC.out j hj
    · obtain rfl : k = n := by omega
      clear hh hc
      go_wp2
      go_end0
      exact ⟨⟨_, rfl⟩, hkp⟩

set_option maxHeartbeats 400000 in
theorem OverBytes_none {w : World} (A : Option Addr) (cap : Nat) :
    Calls Try.prog 38 #[.slice A 0 cap] w fun e w' => (∃ u, e = .returned u) ∧ w = w' := by
  go_enter Try.func38, Try.ntmps38
  go_wp2
  go_loopw [2, 3, 4, 5, 6, 7, 8, 9, 10, 11, 12, 13, 14, 15, 16] (fun s2 _ _ _ _ _ _ _ _ _ _ _ _ _ _ wr => s2 = .int .i64 0 ∧ w = wr) (fun _ _ _ _ _ _ _ _ _ _ _ _ _ _ _ _ => 0)
  case atStart => exact ⟨rfl, rfl⟩
  case round =>
    obtain ⟨rfl, rfl⟩ := hrel
    go_wp2
    go_end0
    exact ⟨⟨_, rfl⟩, rfl⟩

/-- What a call made anew, written over. -/
theorem OverBytes_own {w : World} {B n : Nat} {v : Value} {l : List UInt8} (h : w.ownsRow B 5 1 v n (u8s l)) (hn : n ≤ 1099511627776) :
    Calls Try.prog 38 #[v] w fun e w' => (∃ u, e = .returned u) ∧ Keep (fun b => v.ownBlock = some b) w w' := by
  have hl : l.length = n := by have := h.1; rw [u8s_len] at this; omega
  rcases h.2 with ⟨rfl, rfl⟩ | ⟨g, cap, cur, rfl, _, hh, _, _, _, ht⟩
  · exact (OverBytes_none none 0).mono fun e w' ⟨he, hw⟩ => ⟨he, hw ▸ Keep.refl _ _⟩
  · refine (OverBytes_some ⟨cap, cur, rfl, hh, fun j hj => ⟨l[j], ?_⟩⟩ hn).mono fun e w' ⟨he, hk⟩ => ⟨he, hk.mono fun b _ hb => by simp [Value.ownBlock, hb]⟩
    have e : (u8s l)[j]? = some (u8v l[j]) := u8s_get l j (by omega)
    rw [← ht, List.getElem?_take, if_pos (by omega)] at e
    simpa using e

/-- Bytes with room behind them. -/
def Lent (w : World) (B g : Nat) (v : Value) (l : List UInt8) : Prop :=
  ∃ cap, v = .slice (some ⟨g, 0, none⟩) l.length cap ∧ w.ownsRow B 5 1 (.slice (some ⟨g, 0, none⟩) (l.length + 4) cap) (l.length + 4) (u8s (l ++ [201, 202, 203, 204]))
theorem Lent.bytes {w : World} {B g : Nat} {v : Value} {l : List UInt8} (h : Lent w B g v l) : BytesOf w v l := by
  obtain ⟨cap, rfl, ho⟩ := h
  refine ⟨_, _, rfl, u8s_len l, fun _ => ⟨g, 0, rfl, (ho.lt g rfl).2, fun j u hu => ?_⟩⟩
  have := ho.cells (g := g) rfl j u (by rw [u8s_append, List.getElem?_append_left (by rw [u8s_len]; have := (List.getElem?_eq_some_iff.1 hu).1; rwa [u8s_len] at this)]; exact hu)
  have hadd : (⟨g, 0, none⟩ : Addr).add j = ⟨g, 0 + j, none⟩ := by unfold Addr.add; split <;> simp_all
  rwa [hadd] at this
theorem Lent.keep {w w' : World} {B g : Nat} {v : Value} {l : List UInt8} {S : Nat → Prop} (h : Lent w B g v l) (hk : Keep S w w') (hn : ¬ S g) : Lent w' B g v l := by
  obtain ⟨cap, rfl, ho⟩ := h
  exact ⟨cap, rfl, hk.row ho (fun b hb => by simp [Value.ownBlock] at hb; subst hb; exact hn)⟩

set_option maxHeartbeats 1000000 in
theorem LentBytes_any {w : World} {v : Value} {l : List UInt8} (h : BytesOf w v l) (hl : l.length ≤ 1000000) :
    Calls Try.prog 27 #[v] w fun e w' => ∃ g v', e = .returned v' ∧ Lent w' w.heap.size g v' l ∧ w.heap.size ≤ g ∧ Below w.heap.size w w' := by
  obtain ⟨A, c, rfl⟩ := h.form
  have HR := Lib.hid (h.alloc (.cells #[] 5))
  obtain ⟨i0, hi, hz0, hz1, hz2⟩ := info_parts infoU
  have hn := owns_lit0 (w := w.alloc (.cells #[] 5)) (base := w.heap.size) (cap := 0) (kb_new rfl _) (Nat.le_refl _) rfl
  clear h
  go_enter Try.func27, Try.ntmps27
  go_wp2_with (at_builtin; refine wpList_append_row _ rfl _ _ 58 rfl w.heap.size 5 i0 (.int .u8 0) 1 Try.underlying58 hi hz0 hz1 hz2 rfl _ _ _ rfl hn _ _ _ rfl HR.out (u8s_one _) ?c3 ?c4 ?c5 ?_)
  case c3 => unfold maxLen; omega
  case c4 => omega
  case c5 => simp
  intro v' w1 hown' hgrow _ _
  have b1 : Below w.heap.size w w1 := (bl_alloc (Below.refl _ _) _).grown hgrow (by simp) (fun j hj => by simp [Value.ownBlock] at hj; omega)
  obtain ⟨A', cap', hv'⟩ := owns_slice0 hown'
  subst hv'
  have hb1 : w.heap.size ≤ w1.heap.size := b1.size
  have h4 : RowOf (w1.alloc (.cells #[.int .u8 201, .int .u8 202, .int .u8 203, .int .u8 204] 5)) (.slice (some ⟨w1.heap.size, 0, none⟩) 4 4) 4 (u8s [201, 202, 203, 204]) := RowOf.lit (cap := 4) (cs := #[.int .u8 201, .int .u8 202, .int .u8 203, .int .u8 204]) (kb_new rfl _) rfl
  have H4 := Lib.hid h4
  have HO := Lib.hid (hown'.alloc (.cells #[.int .u8 201, .int .u8 202, .int .u8 203, .int .u8 204] 5))
  clear hgrow hown' h4
  go_wp2_with (at_builtin; refine wpList_append_row _ rfl _ _ 58 rfl w.heap.size 5 i0 (.int .u8 0) 1 Try.underlying58 hi hz0 hz1 hz2 rfl _ _ _ rfl HO.out _ _ _ rfl H4.out (u8s_one _) ?c3 ?c4 ?c5 ?_)
  case c3 => unfold maxLen; omega
  case c4 => omega
  case c5 => simp; omega
  intro v2 w2 hown2 hgrow2 hnil _
  have b2 : Below w.heap.size w w2 := (bl_alloc b1 _).grown hgrow2 (by simp; omega) (fun j hj => (HO.out.lt j hj).1)
  obtain ⟨g, cap, hv2, hcap⟩ : ∃ g cap, v2 = .slice (some ⟨g, 0, none⟩) (l.length + 4) cap ∧ l.length + 4 ≤ cap := by
    rcases hown2.2 with ⟨h0, _⟩ | ⟨g, cap, cur, e, _, _, h1, _⟩
    · exact (hnil h0).elim
    · exact ⟨g, cap, e, h1⟩
  subst hv2
  have hg := (hown2.lt g rfl).1
  rw [← u8s_append] at hown2
  have HO2 := Lib.hid hown2
  have B2 := Lib.hid b2
  clear hgrow2 hown2 hnil b2
  go_wp2
  go_ret
  exact ⟨g, _, rfl, ⟨cap, rfl, HO2.out⟩, hg, B2.out⟩
end Go.Proofs.Ytooghjnddifpdaa
