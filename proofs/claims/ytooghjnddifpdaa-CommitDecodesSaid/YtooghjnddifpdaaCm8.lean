/- OverCommit, slices.Clone of votes. -/
import Derived.Test.YtooghjnddifpdaaCm7
namespace Go.Proofs.Ytooghjnddifpdaa
open Go.RowKit Go.Proofs.Ytooghjnddifpdaa.Cm BigFrame
set_option linter.unusedSimpArgs false
set_option linter.unusedVariables false
attribute [local go_sem] cell_alloc_some frozen_alloc_some

set_option maxRecDepth 100000 in
set_option maxHeartbeats 2000000 in
theorem OverCommit_any {w : World} {B : Nat} {c : C} {v : Value} (hx : c.x.length = 32) (hv : w.ownsRow B 29 2 v c.vs.length (vcs c.vs)) (hl : c.vs.length ≤ 1000000) :
    Calls Try.prog 17 #[.agg (ccs c v).toArray] w fun e w' => (∃ u, e = .returned u) ∧ Keep (fun b => v.ownBlock = some b) w w' := by
  have q33 := ccs_33 hx v
  have D0 : (w.alloc (.cells (ccs c v).toArray 26)).heap[w.heap.size]? = some _ := kb_new rfl _
  have c33 := (kb_cell D0 33).trans (by simpa using q33)
  have b0 : Below w.heap.size w (w.alloc (.cells (ccs c v).toArray 26)) := bl_alloc (Below.refl _ _) _
  obtain ⟨n, hn⟩ : ∃ n, c.vs.length = n := ⟨_, rfl⟩
  rw [hn] at hv hl
  rcases hv.2 with ⟨rfl, h0⟩ | ⟨g, cap, cur, rfl, _, hh, hnc, _, hsz, _⟩
  · subst h0
    clear hv D0
    go_enter Try.func17, Try.ntmps17
    go_wp2_with fail
    go_loopw [2, 3, 4, 5, 6, 7, 8, 9, 10, 11, 12, 13, 14] (fun s2 _ _ _ _ _ _ _ _ _ _ _ _ wr => s2 = .int .i64 0 ∧ w.alloc (.cells (ccs c (.slice none 0 0)).toArray 26) = wr) (fun _ _ _ _ _ _ _ _ _ _ _ _ _ _ => 0)
    case atStart => exact ⟨rfl, rfl⟩
    case round =>
      obtain ⟨rfl, rfl⟩ := hrel
      go_wp2_with fail
      go_end0
      exact ⟨⟨_, rfl⟩, Keep.of_below b0⟩
  · have hg : g < w.heap.size := kb_lt hh
    have E0 := kb_alloc hh (.cells (ccs c (.slice (some ⟨g, 0, none⟩) n cap)).toArray 26)
    have HE := Lib.hid E0
    have HB := Lib.hid b0
    have HC := Lib.hid c33
    clear hv hh b0 D0
    go_enter Try.func17, Try.ntmps17
    go_wp2_with fail
    go_loopw [2, 3, 4, 5, 6, 7, 8, 9, 10, 11, 12, 13, 14] (fun s2 _ _ _ _ _ _ _ _ _ _ _ _ wr => ∃ (k : Nat) (cr : Array Value), k ≤ n ∧ s2 = .int .i64 k ∧ wr.heap[g]? = some (.cells cr 29 (0, 0)) ∧ cr.size = cap * 2 ∧ wr.cell? ⟨w.heap.size, 33, none⟩ = some (.slice (some ⟨g, 0, none⟩) n cap) ∧ Keep (fun b => b = g) w wr) (fun s2 _ _ _ _ _ _ _ _ _ _ _ _ _ => n - (intOf s2).toNat)
    case atStart => exact ⟨0, cur, by omega, rfl, E0, hsz, HC.out, Keep.of_below HB.out⟩
    case round =>
      obtain ⟨k, cr, hk, rfl, hr, hcs, h33, hK⟩ := hrel
      have HK := Lib.hid hK
      by_cases hlt : k < n
      · have i0 : k * 2 < cr.size := by omega
        have i1 : k * 2 + 1 < cr.size := by omega
        have d0 := (kb_cell hr (k * 2)).trans (Array.getElem?_eq_getElem i0)
        have d1 := (kb_cell hr (k * 2 + 1)).trans (Array.getElem?_eq_getElem i1)
        have z0 := kb_frozen hr (k * 2)
        have z1 := kb_frozen hr (k * 2 + 1)
        have hne : w.heap.size ≠ g := by omega
        have f1 := kb_set (i := k * 2) hr (.int .i64 (-7))
        have f2 := kb_set (i := k * 2 + 1) f1 (.int .u64 0)
        have k2 := (hK.set (p := ⟨g, k * 2, none⟩) (fun _ => rfl) (.int .i64 (-7))).set (p := ⟨g, k * 2 + 1, none⟩) (fun _ => rfl) (.int .u64 0)
        have h33' : ((wr.setCell ⟨g, k * 2, none⟩ (.int .i64 (-7))).setCell ⟨g, k * 2 + 1, none⟩ (.int .u64 0)).cell? ⟨w.heap.size, 33, none⟩ = some (.slice (some ⟨g, 0, none⟩) n cap) := by
          rw [World.cell?_setCell_other _ _ _ _ (by simp [hne.symm]), World.cell?_setCell_other _ _ _ _ (by simp [hne.symm])]; exact h33
        have HF := Lib.hid (And.intro f2 (And.intro k2 h33'))
        generalize cr[k * 2] = x0 at *
        generalize cr[k * 2 + 1] = x1 at *
        clear hr hK E0 f1 f2 k2 h33'
        go_wp2_with fail
        go_roundw
        case rel => exact ⟨k + 1, _, by omega, by go_num, HF.out.1, by simpa using hcs, HF.out.2.2, HF.out.2.1⟩
        case measure => simp [intOf]; omega
      · obtain rfl : k = n := by omega
        clear hr hK E0
        go_wp2_with fail
        go_end0
        exact ⟨⟨_, rfl⟩, HK.out.mono (fun b _ e => by simp [Value.ownBlock, e])⟩
theorem run_eql_votes_nil (A : Option Addr) (n c : Nat) (W : World) : (binOp .eql 24 (.slice A n c) (.slice none 0 0)).run Try.prog W = .ok (.bool A.isNone) W :=
  Lib.run_eql_slice_nil W _ _ A n c 0 0 Try.underlying24

set_option maxRecDepth 100000 in
set_option maxHeartbeats 1000000 in
theorem CloneV_any {w : World} {v : Value} {l : List Vt} (h : VRow w v l) (hl : l.length ≤ 1000000) :
    Calls Try.prog 46 #[v] w fun e w' => ∃ v', e = .returned v' ∧ NewVotes w w' v' l := by
  obtain ⟨A, c, rfl, h2⟩ := id h
  cases A with
  | none =>
    have h0 : l = [] := by
      rcases Nat.eq_zero_or_pos l.length with h0 | h0
      · exact List.eq_nil_of_length_eq_zero h0
      · obtain ⟨b, off, h, _⟩ := h2 h0; cases h
    subst h0
    have hq := fun W => run_eql_votes_nil none 0 c W
    clear h h2 hl
    go_enter Try.func46, Try.ntmps46
    go_wp2
    go_ret
    exact ⟨_, rfl, World.ownsRow_nil _ _ _ _, Below.refl _ _⟩
  | some a =>
    have HR := h.below (bl_alloc (Below.refl _ _) (.cells #[] 29))
    have hn := owns_lit0v (w := w.alloc (.cells #[] 29)) (base := w.heap.size) (cap := 0) (kb_new rfl _) (Nat.le_refl _) rfl
    have hq := fun W => run_eql_votes_nil (some a) l.length c W
    clear h h2
    go_enter Try.func46, Try.ntmps46
    go_wp2_with (at_builtin; refine wpList_append_v _ rfl _ _ rfl w.heap.size _ _ _ rfl hn _ _ rfl HR ?c3 ?c4 ?_)
    case c3 => omega
    case c4 => simp
    intro v' w1 hown' hgrow _
    have b1 : Below w.heap.size w w1 := (bl_alloc (Below.refl _ _) _).grown hgrow (by simp) (fun j hj => by simp [Value.ownBlock] at hj; omega)
    obtain ⟨A', cap', hv'⟩ := owns_slice0 hown'
    subst hv'
    have HO := Lib.hid (And.intro hown' b1)
    clear hgrow hown' b1 HR hn
    go_wp2
    go_ret
    exact ⟨_, rfl, by simpa using HO.out.1, HO.out.2⟩
end Go.Proofs.Ytooghjnddifpdaa
