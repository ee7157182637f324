/- landfallkit.Merits: the merits of scores and of paces' bits. -/
import Derived.Test.YtockdfhejbbbeaaSco4
import Derived.WalkKit
namespace Go.Proofs.Ytockdfhejbbbeaa
open Go.RowKit Go.Proofs.Ytockdfhejbbbeaa.Pc BigFrame
attribute [local go_sem] run_store_float
set_option linter.unusedSimpArgs false
set_option linter.unusedVariables false

/-- What came in as numbers of a kind. -/
def KRow (q : IntKind) (w : World) (A : Option Addr) (zs : List Int) : Prop := 0 < zs.length → ∃ b off, A = some ⟨b, off, none⟩ ∧ b < w.heap.size ∧ ∀ i z, zs[i]? = some z → w.cell? ⟨b, off + i, none⟩ = some (.int q z)
theorem KRow.below {q : IntKind} {w w' : World} {A : Option Addr} {zs : List Int} (h : KRow q w A zs) (hb : Below w.heap.size w w') : KRow q w' A zs := fun h0 => by
  obtain ⟨b, off, e, hlt, hc⟩ := h h0
  exact ⟨b, off, e, Nat.lt_of_lt_of_le hlt hb.size, fun i z hz => (hb.cell (by exact hlt)).trans (hc i z hz)⟩
/-- The merits of scores and bits. -/
def mlist (zs us : List Int) : List Mr := (List.range zs.length).map fun i => ⟨zs.getD i 0, (us.getD i 0).toNat⟩
theorem mlist_len (zs us : List Int) : (mlist zs us).length = zs.length := by simp [mlist]
def mtake (zs us : List Int) (k : Nat) : List Mr := (List.range k).map fun i => ⟨zs.getD i 0, (us.getD i 0).toNat⟩
theorem mtake_next (zs us : List Int) (k : Nat) : mcs (mtake zs us (k + 1)) = mcs (mtake zs us k) ++ [.int .i64 (zs.getD k 0), .float .f64 (us.getD k 0).toNat] := by
  simp [mtake, mcs, List.range_succ, Mr.cells]
theorem infoM : (Try.prog.info? 25).map (fun i => (i.zero, i.size, i.bytes)) = some (some (.agg #[.int .i64 0, .float .f64 0]), 2, 16) := by kernel_rfl
theorem m_rel {zs us : List Int} {k : Nat} {w wr w0 w1 : World} {v v' : Value} (hown : wr.ownsRow w.heap.size 25 2 v k (mcs (mtake zs us k))) (hnx : Below w.heap.size w wr) (h0 : Below wr.heap.size wr w0)
    (hown' : w1.ownsRow w.heap.size 25 2 v' (k + 1) (mcs (mtake zs us k) ++ [.int .i64 (zs.getD k 0), .float .f64 (us.getD k 0).toNat])) (hgrow : w0.grownBy w1 v.ownBlock) :
    w1.ownsRow w.heap.size 25 2 v' (k + 1) (mcs (mtake zs us (k + 1))) ∧ Below w.heap.size w w1 := by
  have hs := hnx.size
  exact ⟨by rw [mtake_next]; exact hown', (bl_then hnx h0).grown hgrow (by have := h0.size; omega) (fun j hj => (hown.lt j hj).1)⟩
theorem two_new (w : World) (v0 v1 : Value) (t : TypeId) : ∀ j u, [v0, v1][j]? = some u → (w.alloc (.cells #[v0, v1] t)).cell? ((⟨w.heap.size, 0, none⟩ : Addr).add j) = some u := by
  intro j u hj
  have hb : (w.alloc (.cells #[v0, v1] t)).heap[w.heap.size]? = some _ := kb_new rfl _
  match j, hj with
  | 0, hj => simpa [Addr.add, kb_cell hb] using hj
  | 1, hj => simpa [Addr.add, kb_cell hb] using hj

set_option maxRecDepth 100000 in
set_option maxHeartbeats 4000000 in
theorem Merits_any (A1 A2 : Option Addr) (cap1 cap2 : Nat) (zs us : List Int) (w : World) (h1 : KRow .i64 w A1 zs) (h2 : KRow .u64 w A2 us) (hl : zs.length ≤ 30) :
    Calls Try.prog 18 #[.slice A1 zs.length cap1, .slice A2 us.length cap2] w fun e w' => ∃ v, e = .returned v ∧ w'.ownsRow w.heap.size 25 2 v zs.length (mcs (mlist zs us)) ∧ Below w.heap.size w w' := by
  obtain ⟨i0, hi, hz0, hz1, hz2⟩ := info_parts infoM
  have H1 := Lib.hid h1
  have H2 := Lib.hid h2
  obtain ⟨n, hn⟩ : ∃ n, zs.length = n := ⟨_, rfl⟩
  obtain ⟨m, hm⟩ : ∃ m, us.length = m := ⟨_, rfl⟩
  have HN := Lib.hid hn
  have HMM := Lib.hid hm
  have HML := Lib.hid (show mlist zs us = mtake zs us n by rw [← hn]; rfl)
  rw [hn] at hl ⊢
  rw [hm]
  clear h1 h2 hn hm
  go_enter Try.func18, Try.ntmps18
  go_wp2
  go_loopw [5, 6, 7, 8, 9, 10, 11, 12, 13, 14, 15, 16, 17, 18, 19, 20, 21, 22, 23, 24, 25, 26, 27, 28, 29, 30, 31, 32] (fun s5 s6 _ _ _ _ _ _ _ _ _ _ _ _ _ _ _ _ _ _ _ _ _ _ _ _ _ _ wr => ∃ k : Nat, k ≤ n ∧ s6 = .int .i64 k ∧ Hid (wr.ownsRow w.heap.size 25 2 s5 k (mcs (mtake zs us k))) ∧ Below w.heap.size w wr) (fun _ s6 _ _ _ _ _ _ _ _ _ _ _ _ _ _ _ _ _ _ _ _ _ _ _ _ _ _ _ => n - (intOf s6).toNat)
  case atStart => exact ⟨0, by omega, rfl, World.ownsRow_nil _ _ _ _, Below.refl _ _⟩
  case round =>
    obtain ⟨k, hk, rfl, hown, hnx⟩ := hrel
    by_cases hlt : k < n
    · obtain ⟨b1, off1, rfl, hb1, hc1⟩ := H1.out (by have := HN.out; omega)
      obtain ⟨z, hz⟩ : ∃ z, zs[k]? = some z := ⟨_, List.getElem?_eq_getElem (by have := HN.out; omega)⟩
      have cz := (hnx.cell (by exact hb1)).trans (hc1 k z hz)
      have hbz : b1 < wr.heap.size := Nat.lt_of_lt_of_le hb1 hnx.size
      have hzk : zs.getD k 0 = z := by rw [List.getD, hz]; rfl
      have HZK := Lib.hid hzk
      have ho := hown.out
      have hsz := hnx.size
      clear hc1 hz hzk H1
      by_cases hm : k < m
      · obtain ⟨b2, off2, rfl, hb2, hc2⟩ := H2.out (by have := HMM.out; omega)
        obtain ⟨u, hu⟩ : ∃ u, us[k]? = some u := ⟨_, List.getElem?_eq_getElem (by have := HMM.out; omega)⟩
        have cu0 := (hnx.cell (by exact hb2)).trans (hc2 k u hu)
        have cu := (Below.cell (bl_alloc (Below.refl _ wr) (.cells #[.int .i64 z, .float .f64 0] 25)) (p := ⟨b2, off2 + k, none⟩) (Nat.lt_of_lt_of_le hb2 hnx.size)).trans cu0
        have huk : us.getD k 0 = u := by rw [List.getD, hu]; rfl
        have HUK := Lib.hid huk
        have hr := fun W => run_from u W
        clear hc2 hu huk H2 cu0
        go_wp2_with (at_builtin; refine wpList_append_own _ rfl _ _ 37 rfl w.heap.size 25 i0 (.agg #[.int .i64 0, .float .f64 0]) 2 16 Try.underlying37 hi hz0 hz1 hz2 rfl (by decide) _ _ _ rfl ((ho.alloc _).alloc _) ⟨wr.heap.size + 1, 0, none⟩ 1 1 [.int .i64 z, .float .f64 u.toNat] rfl rfl ?c1 ?c2 ?c3 ?c4 ?c5 ?_)
        case c1 => have := two_new (wr.alloc (.cells #[.int .i64 z, .float .f64 u.toNat] 25)) (.int .i64 z) (.float .f64 u.toNat) 25; simpa using this
        case c2 => intro v hv; simp at hv; rcases hv with rfl | rfl <;> rfl
        case c3 => unfold maxLen; omega
        case c4 => omega
        case c5 => simp; omega
        · intro v' w1 hown' hgrow _
          have R := m_rel (zs := zs) (us := us) ho hnx (bl_alloc (bl_alloc (Below.refl _ wr) _) _) (by rw [HZK.out, HUK.out]; exact hown') hgrow
          have R1 := Lib.hid R.1
          have R2 := R.2
          clear hown' hgrow hown hnx ho R
          go_wp2
          go_roundw
          case rel => exact ⟨k + 1, by omega, by go_num, R1.out, R2⟩
          case measure => simp [intOf]; omega
      · have huk : us.getD k 0 = 0 := by rw [List.getD, List.getElem?_eq_none (by have := HMM.out; omega)]; rfl
        have HUK := Lib.hid huk
        clear huk
        go_wp2_with (at_builtin; refine wpList_append_own _ rfl _ _ 37 rfl w.heap.size 25 i0 (.agg #[.int .i64 0, .float .f64 0]) 2 16 Try.underlying37 hi hz0 hz1 hz2 rfl (by decide) _ _ _ rfl ((ho.alloc _).alloc _) ⟨wr.heap.size + 1, 0, none⟩ 1 1 [.int .i64 z, .float .f64 0] rfl rfl ?c1 ?c2 ?c3 ?c4 ?c5 ?_)
        case c1 => have := two_new (wr.alloc (.cells #[.int .i64 z, .float .f64 0] 25)) (.int .i64 z) (.float .f64 0) 25; simpa using this
        case c2 => intro v hv; simp at hv; rcases hv with rfl | rfl <;> rfl
        case c3 => unfold maxLen; omega
        case c4 => omega
        case c5 => simp; omega
        · intro v' w1 hown' hgrow _
          have R := m_rel (zs := zs) (us := us) ho hnx (bl_alloc (bl_alloc (Below.refl _ wr) _) _) (by rw [HZK.out, HUK.out]; exact hown') hgrow
          have R1 := Lib.hid R.1
          have R2 := R.2
          clear hown' hgrow hown hnx ho R
          go_wp2
          go_roundw
          case rel => exact ⟨k + 1, by omega, by go_num, R1.out, R2⟩
          case measure => simp [intOf]; omega
    · obtain rfl : k = n := by omega
      go_wp2
      go_ret
      exact ⟨_, rfl, by rw [HML.out]; exact hown.out, hnx⟩
end Go.Proofs.Ytockdfhejbbbeaa
