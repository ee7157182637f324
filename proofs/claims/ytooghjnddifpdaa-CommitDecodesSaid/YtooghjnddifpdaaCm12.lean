/- The document's laid. -/
import Derived.Test.YtooghjnddifpdaaCm11
namespace Go.Proofs.Ytooghjnddifpdaa
open Go.RowKit Go.Proofs.Ytooghjnddifpdaa.Cm BigFrame
set_option linter.unusedSimpArgs false
set_option linter.unusedVariables false
attribute [local go_sem] cell_alloc_some frozen_alloc_some

theorem lit_row (w : World) (x : Vt) : VRow (w.alloc (.cells #[.int .i64 x.p, .int .u64 x.g] 29)) (.slice (some ⟨w.heap.size, 0, none⟩) 1 1) [x] :=
  ⟨_, _, rfl, fun _ => ⟨w.heap.size, 0, rfl, by simp, fun j m hj => by
    have h := kb_new (w := w) rfl (.cells #[.int .i64 x.p, .int .u64 x.g] 29)
    cases j with
    | zero => simp at hj; subst hj; exact ⟨kb_cell h 0, kb_cell h 1⟩
    | succ j => simp at hj⟩⟩
theorem vapp_rel {wb wr w1 : World} {u v' : Value} {o : Obj} {L : List Vt} {x : Vt} {n : Nat} (hown : wr.ownsRow wb.heap.size 29 2 u n (vcs L)) (hnx : Below wb.heap.size wb wr)
    (hown' : w1.ownsRow wb.heap.size 29 2 v' (n + 1) (vcs L ++ vcs [x])) (hgrow : (wr.alloc o).grownBy w1 u.ownBlock) :
    w1.ownsRow wb.heap.size 29 2 v' (n + 1) (vcs (L ++ [x])) ∧ Below wb.heap.size wb w1 := by
  have hs := hnx.size
  exact ⟨by rw [vcs_append]; exact hown', (hnx.alloc hs o).grown hgrow (by simp; omega) (fun j hj => (hown.lt j hj).1)⟩
/-- What is laid so far. -/
def LaidAt (l : List Vt) (x : Vt) (k : Nat) (put : Bool) (L : List Vt) : Prop := laidV l x = L ++ if put = true then l.drop k else laidV (l.drop k) x
theorem LaidAt.zero (l : List Vt) (x : Vt) : LaidAt l x 0 false [] := by simp [LaidAt]
theorem LaidAt.yes {l : List Vt} {x : Vt} {k : Nat} {L : List Vt} (h : LaidAt l x k true L) (hk : k < l.length) : LaidAt l x (k + 1) true (L ++ [vAt l k]) := by
  unfold LaidAt at h ⊢
  simp only [if_true] at h ⊢
  rw [h, drop_at hk]; simp
theorem LaidAt.no {l : List Vt} {x : Vt} {k : Nat} {L : List Vt} (h : LaidAt l x k false L) (hk : k < l.length) (hp : ¬ x.p < (vAt l k).p) : LaidAt l x (k + 1) false (L ++ [vAt l k]) := by
  unfold LaidAt at h ⊢
  simp only [Bool.false_eq_true, if_false] at h ⊢
  rw [h, drop_at hk]
  conv => lhs; unfold laidV
  rw [if_neg hp]; simp
theorem LaidAt.now {l : List Vt} {x : Vt} {k : Nat} {L : List Vt} (h : LaidAt l x k false L) (hk : k < l.length) (hp : x.p < (vAt l k).p) : LaidAt l x (k + 1) true (L ++ [x] ++ [vAt l k]) := by
  unfold LaidAt at h ⊢
  simp only [Bool.false_eq_true, if_false, if_true] at h ⊢
  rw [h, drop_at hk]
  conv => lhs; unfold laidV
  rw [if_pos hp]; simp
theorem LaidAt.end1 {l : List Vt} {x : Vt} {L : List Vt} (h : LaidAt l x l.length true L) : L = laidV l x := by
  unfold LaidAt at h; simp at h; exact h.symm
theorem LaidAt.end2 {l : List Vt} {x : Vt} {L : List Vt} (h : LaidAt l x l.length false L) : L ++ [x] = laidV l x := by
  unfold LaidAt at h; simp [laidV] at h; exact h.symm

set_option maxRecDepth 100000 in
set_option maxHeartbeats 4000000 in
theorem laid_any {w : World} {v : Value} {l : List Vt} (x : Vt) (hv : VRow w v l) (hl : l.length ≤ 1000000) :
    Calls Try.prog 47 #[v, vtV x] w fun e w' => ∃ v', e = .returned v' ∧ NewVotes w w' v' (laidV l x) := by
  have HV0 := Lib.hid hv
  obtain ⟨A, cap, rfl⟩ := hv.form
  clear hv
  obtain ⟨n, hn⟩ : ∃ n, l.length = n := ⟨_, rfl⟩
  have HN := Lib.hid hn
  rw [hn] at hl HV0 ⊢
  clear hn
  go_enter Try.func47, Try.ntmps47
  go_wp2_with fail
  refine wp_world fun wb hwb => ?_
  have hX : wb.heap[w.heap.size]? = some (.cells #[.int .i64 x.p, .int .u64 x.g] 29 (0, 0)) := by rw [hwb]; exact kb_new rfl _
  have bz : Below w.heap.size w wb := by rw [hwb]; exact bl_alloc (Below.refl _ _) _
  have HX := Lib.hid (And.intro hX bz)
  have hsw : w.heap.size < wb.heap.size := kb_lt hX
  clear hwb hX bz
  go_loopw [5, 6, 7, 8, 9, 10, 11, 12, 13, 14, 15, 16, 17, 18, 19, 20, 21, 22, 23, 24, 25, 26, 27, 28, 29, 30, 31, 32, 33, 34, 35, 36] (fun s5 s6 s7 _ _ _ _ _ _ _ _ _ _ _ _ _ _ _ _ _ _ _ _ _ _ _ _ _ _ _ _ _ wr => ∃ (k : Nat) (put : Bool) (L : List Vt), k ≤ n ∧ s7 = .int .i64 k ∧ s6 = .bool put ∧ L.length ≤ 2 * k ∧ Hid (wr.ownsRow wb.heap.size 29 2 s5 L.length (vcs L)) ∧ Hid (LaidAt l x k put L) ∧ Below wb.heap.size wb wr) (fun _ _ s7 _ _ _ _ _ _ _ _ _ _ _ _ _ _ _ _ _ _ _ _ _ _ _ _ _ _ _ _ _ _ => n - (intOf s7).toNat)
  case atStart => exact ⟨0, false, [], by omega, rfl, rfl, by simp, World.ownsRow_nil _ _ _ _, LaidAt.zero _ _, Below.refl _ _⟩
  case round =>
    obtain ⟨k, put, L, hk, rfl, rfl, hLk, hown, hL, hnx⟩ := hrel
    have HO := hown
    have HLa := hL
    have HNx := Lib.hid hnx
    obtain ⟨A5, c5, hs5⟩ := owns_slice0 hown.out
    subst hs5
    have hX := kb_cell (kb_below hnx HX.out.1)
    have hX0 := hX 0
    have hX1 := hX 1
    simp at hX0 hX1
    by_cases hlt : k < n
    · obtain ⟨b, off, cap', hA, hbl, d0', d1'⟩ := HV0.out.at (i := k) (by rw [HN.out]; exact hlt)
      have d0 := ((bl_then HX.out.2 hnx).cell (p := ⟨b, off + k * 2, none⟩) hbl).trans d0'
      have d1 := ((bl_then HX.out.2 hnx).cell (p := ⟨b, off + k * 2 + 1, none⟩) hbl).trans d1'
      obtain ⟨rfl, rfl⟩ : A = some ⟨b, off, none⟩ ∧ cap = cap' := by injection hA with h1 h2 h3; exact ⟨h1, h3⟩
      have HI := Lib.hid (show k < l.length by rw [HN.out]; exact hlt)
      have HD0 := Lib.hid (And.intro d0' d1')
      clear hA d0' d1' hX hown hL hnx
      cases put with
      | true =>
        have HG := Lib.hid (HLa.out.yes HI.out)
        go_wp2_with fail
        go_quiet (fail)
        generalize hwq : wr.drewN nq = wq
        have HQ0 := Lib.hid (show wq.ownsRow wb.heap.size 29 2 (.slice A5 L.length c5) L.length (vcs L) by rw [← hwq]; exact HO.out)
        have HQ1 := Lib.hid (show Below wb.heap.size wb wq by rw [← hwq]; exact bl_drewN HNx.out _)
        have d0q : wq.cell? ⟨b, off + k * 2, none⟩ = some (.int .i64 (vAt l k).p) := by rw [← hwq]; exact d0
        have d1q : wq.cell? ⟨b, off + k * 2 + 1, none⟩ = some (.int .u64 (vAt l k).g) := by rw [← hwq]; exact d1
        clear hwq
        have HR2 := Lib.hid (lit_row (wq) (vAt l k))
        have ho2 := (HQ0.out).alloc (.cells #[.int .i64 (vAt l k).p, .int .u64 (vAt l k).g] 29)
        go_wp2_with (at_builtin; refine wpList_append_v _ rfl _ _ rfl wb.heap.size _ _ _ rfl ho2 _ [vAt l k] rfl HR2.out ?c3 ?c4 ?_)
        case c3 => simp; omega
        case c4 => have := HQ1.out.size; simp at this ⊢; omega
        intro v' w2 hown2 hgrow2 _
        obtain ⟨A7, c7, rfl⟩ := owns_slice0 hown2
        have R2 := vapp_rel (HQ0.out) HQ1.out hown2 hgrow2
        have HQ := Lib.hid R2
        clear hown2 hgrow2 R2 ho2
        go_wp2
        go_roundw
        case rel => exact ⟨k + 1, true, _, by omega, by go_num, rfl, by simp; omega, Lib.hid (by simpa using HQ.out.1), HG.out, HQ.out.2⟩
        case measure => simp [intOf]; omega
      | false =>
        by_cases hp : x.p < (vAt l k).p
        · have HG := Lib.hid (HLa.out.now HI.out hp)
          have hd : decide (x.p < (vAt l k).p) = true := by simpa using hp
          go_wp2_with fail
          go_quiet (fail)
          generalize hwq : wr.drewN nq = wq
          have HQ0 := Lib.hid (show wq.ownsRow wb.heap.size 29 2 (.slice A5 L.length c5) L.length (vcs L) by rw [← hwq]; exact HO.out)
          have HQ1 := Lib.hid (show Below wb.heap.size wb wq by rw [← hwq]; exact bl_drewN HNx.out _)
          have HD := Lib.hid (show wq.cell? ⟨b, off + k * 2, none⟩ = some (.int .i64 (vAt l k).p) ∧ wq.cell? ⟨b, off + k * 2 + 1, none⟩ = some (.int .u64 (vAt l k).g) by rw [← hwq]; exact ⟨d0, d1⟩)
          have hX0q : wq.cell? ⟨w.heap.size, 0, none⟩ = some (.int .i64 x.p) := by rw [← hwq]; exact hX0
          have hX1q : wq.cell? ⟨w.heap.size, 1, none⟩ = some (.int .u64 x.g) := by rw [← hwq]; exact hX1
          have HR := Lib.hid (lit_row wq x)
          have ho := HQ0.out.alloc (.cells #[.int .i64 x.p, .int .u64 x.g] 29)
          clear hwq
          go_wp2_with (at_builtin; refine wpList_append_v _ rfl _ _ rfl wb.heap.size _ _ _ rfl ho _ [x] rfl HR.out ?c3 ?c4 ?_)
          case c3 => simp; omega
          case c4 => have := HQ1.out.size; simp; omega
          intro v' w1 hown' hgrow _
          obtain ⟨A6, c6, rfl⟩ := owns_slice0 hown'
          have R := vapp_rel HQ0.out HQ1.out hown' hgrow
          have HRR := Lib.hid R
          clear hown' hgrow R ho
          have d0r := ((bl_then HX.out.2 HRR.out.2).cell (p := ⟨b, off + k * 2, none⟩) hbl).trans HD0.out.1
          have d1r := ((bl_then HX.out.2 HRR.out.2).cell (p := ⟨b, off + k * 2 + 1, none⟩) hbl).trans HD0.out.2
          have HR2 := Lib.hid (lit_row (w1) (vAt l k))
          have ho2 := (HRR.out.1).alloc (.cells #[.int .i64 (vAt l k).p, .int .u64 (vAt l k).g] 29)
          go_wp2_with (at_builtin; refine wpList_append_v _ rfl _ _ rfl wb.heap.size _ _ _ rfl ho2 _ [vAt l k] rfl HR2.out ?c3 ?c4 ?_)
          case c3 => simp; omega
          case c4 => have := HRR.out.2.size; simp at this ⊢; omega
          intro v' w2 hown2 hgrow2 _
          obtain ⟨A7, c7, rfl⟩ := owns_slice0 hown2
          have R2 := vapp_rel (HRR.out.1) HRR.out.2 hown2 hgrow2
          have HQ := Lib.hid R2
          clear hown2 hgrow2 R2 ho2
          go_wp2
          go_roundw
          case rel => exact ⟨k + 1, true, _, by omega, by go_num, rfl, by simp; omega, Lib.hid (by simpa using HQ.out.1), HG.out, HQ.out.2⟩
          case measure => simp [intOf]; omega
        · have HG := Lib.hid (HLa.out.no HI.out hp)
          have hd : decide (x.p < (vAt l k).p) = false := by simpa using hp
          go_wp2_with fail
          go_quiet (fail)
          generalize hwq : wr.drewN nq = wq
          have HQ0 := Lib.hid (show wq.ownsRow wb.heap.size 29 2 (.slice A5 L.length c5) L.length (vcs L) by rw [← hwq]; exact HO.out)
          have HQ1 := Lib.hid (show Below wb.heap.size wb wq by rw [← hwq]; exact bl_drewN HNx.out _)
          have d0q : wq.cell? ⟨b, off + k * 2, none⟩ = some (.int .i64 (vAt l k).p) := by rw [← hwq]; exact d0
          have d1q : wq.cell? ⟨b, off + k * 2 + 1, none⟩ = some (.int .u64 (vAt l k).g) := by rw [← hwq]; exact d1
          clear hwq
          have HR2 := Lib.hid (lit_row (wq) (vAt l k))
          have ho2 := (HQ0.out).alloc (.cells #[.int .i64 (vAt l k).p, .int .u64 (vAt l k).g] 29)
          go_wp2_with (at_builtin; refine wpList_append_v _ rfl _ _ rfl wb.heap.size _ _ _ rfl ho2 _ [vAt l k] rfl HR2.out ?c3 ?c4 ?_)
          case c3 => simp; omega
          case c4 => have := HQ1.out.size; simp at this ⊢; omega
          intro v' w2 hown2 hgrow2 _
          obtain ⟨A7, c7, rfl⟩ := owns_slice0 hown2
          have R2 := vapp_rel (HQ0.out) HQ1.out hown2 hgrow2
          have HQ := Lib.hid R2
          clear hown2 hgrow2 R2 ho2
          go_wp2
          go_roundw
          case rel => exact ⟨k + 1, false, _, by omega, by go_num, rfl, by simp; omega, Lib.hid (by simpa using HQ.out.1), HG.out, HQ.out.2⟩
          case measure => simp [intOf]; omega
    · obtain rfl : k = n := by omega
      cases put with
      | true =>
        have HE := Lib.hid (LaidAt.end1 (l := l) (x := x) (by rw [HN.out]; exact hL.out))
        clear hX hown hL hnx
        go_wp2_with fail
        go_ret
        exact ⟨_, rfl, by rw [← HE.out]; exact owns_mono HO.out (by omega), bl_then HX.out.2 HNx.out⟩
      | false =>
        have HE := Lib.hid (LaidAt.end2 (l := l) (x := x) (by rw [HN.out]; exact hL.out))
        have HR := Lib.hid (lit_row wr x)
        have ho := hown.out.alloc (.cells #[.int .i64 x.p, .int .u64 x.g] 29)
        clear hX hown hL hnx
        go_wp2_with (at_builtin; refine wpList_append_v _ rfl _ _ rfl wb.heap.size _ _ _ rfl ho _ [x] rfl HR.out ?c3 ?c4 ?_)
        case c3 => simp; omega
        case c4 => have := HNx.out.size; simp; omega
        intro v' w1 hown' hgrow _
        obtain ⟨A6, c6, rfl⟩ := owns_slice0 hown'
        have R := vapp_rel HO.out HNx.out hown' hgrow
        have HRR := Lib.hid R
        clear hown' hgrow R ho
        go_wp2
        go_ret
        exact ⟨_, rfl, by rw [← HE.out]; simpa using owns_mono HRR.out.1 (by omega), bl_then HX.out.2 HRR.out.2⟩
end Go.Proofs.Ytooghjnddifpdaa
