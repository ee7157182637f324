/- The walk of CommitDecodes. -/
import Derived.Test.YtooghjnddifpdaaBytes3
import Derived.Test.YtooghjnddifpdaaCm20
import Derived.Test.YtooghjnddifpdaaCm28
namespace Go.Proofs.Ytooghjnddifpdaa
open Go.RowKit Go.Proofs.Ytooghjnddifpdaa.Cm Go.Proofs.Ytooghjnddifpdaa.Wi BigFrame
set_option linter.unusedSimpArgs false
set_option linter.unusedVariables false
attribute [local go_sem] cell_alloc_some frozen_alloc_some

theorem decR_x (xs : List UInt8) : (decR xs).x.length = 32 := by
  unfold decR; split
  · exact dec2_len xs
  · exact cZ_x
theorem readV_len (xs : List UInt8) : ∀ (n : Nat) (st : St), (readV xs n st).1.length = n
  | 0, _ => rfl
  | n + 1, st => by simp [readV, readV_len xs n]
theorem decR_len (xs : List UInt8) : (decR xs).vs.length ≤ 64 := by
  unfold decR; split
  · rename_i h
    by_cases k : 64 < (dec3 xs).1
    · unfold decF at h; rw [if_pos k] at h; simp at h
    · show (dec4 xs).1.length ≤ 64
      unfold dec4; rw [readV_len]; omega
  · simp [cZ]
/-- A commit and a fault that came out lie in memory. -/
structure Dx (w W : World) (z : Nat) (v : Value) (B : Nat) (c : C) (e f : Int) : Prop where
  c0 : W.heap[z]? = some (.cells (ccs c v).toArray 26 (0, 0))
  f0 : W.heap[z + 1]? = some (.cells #[.int .i64 e, .int .i64 f] 61 (0, 0))
  o : W.ownsRow B 29 2 v c.vs.length (vcs c.vs)
theorem Dx.below {w W W' : World} {z : Nat} {v : Value} {B : Nat} {c : C} {e f : Int} (h : Dx w W z v B c e f) (k : Below W.heap.size W W') : Dx w W' z v B c e f :=
  ⟨kb_below k h.c0, kb_below k h.f0, (Keep.of_below (S := fun _ => False) k).row h.o (fun _ _ e => e)⟩
/-- They are stored. -/
theorem Dx.made {w w1 w2 w3 : World} {v : Value} {c : C} (e f : Int) {o : Obj} (n : NewVotes w1 w2 v c.vs) (g3 : w3.heap[w2.heap.size]? = some (.cells (ccs c v).toArray 26 (0, 0)))
    (k3 : Keep (fun b => b = w2.heap.size) ((w2.alloc o).alloc (.cells #[.int .i64 0, .int .i64 0] 61)) w3) :
    Dx w ((w3.setCell ⟨w2.heap.size + 1, 0, none⟩ (.int .i64 e)).setCell ⟨w2.heap.size + 1, 1, none⟩ (.int .i64 f)) w2.heap.size v w1.heap.size c e f ∧
    Below w1.heap.size w1 ((w3.setCell ⟨w2.heap.size + 1, 0, none⟩ (.int .i64 e)).setCell ⟨w2.heap.size + 1, 1, none⟩ (.int .i64 f)) ∧
    w3.heap[w2.heap.size + 1]? = some (.cells #[.int .i64 0, .int .i64 0] 61 (0, 0)) := by
  have F3 : w3.heap[w2.heap.size + 1]? = some (.cells #[.int .i64 0, .int .i64 0] 61 (0, 0)) := k3.kb (kb_new (by simp) _) (by omega)
  have k4 := keep_flt w3 (w2.heap.size + 1) (.int .i64 e) (.int .i64 f)
  have b3 : Below w2.heap.size w2 w3 := ((Keep.of_below (S := fun _ => False) (bl_alloc (bl_alloc (Below.refl w2.heap.size w2) _) _)).trans k3 (fun b hb e => by omega)).below (Nat.le_refl _) (fun b e => e.elim)
  have b4 := ((Keep.of_below (S := fun _ => False) b3).trans k4 (fun b hb e => by omega)).below (Nat.le_refl _) (fun b e => e.elim)
  exact ⟨⟨k4.kb g3 (by omega), flt_set F3 e f, (Keep.of_below (S := fun _ => False) b4).row n.1 (fun _ _ e => e)⟩, bl_then n.2 b4, F3⟩

set_option maxRecDepth 100000 in
set_option maxHeartbeats 8000000 in
theorem CommitDecodes_walk {w : World} {v : Value} {xs : List UInt8} (hb : BytesOf w v xs) :
    Calls Try.prog 6 #[v] w fun e w' => e = .returned (.bool true) ∧ Below w.heap.size w w' := by
  have HB := Lib.hid hb
  obtain ⟨A, cap, rfl⟩ := hb.form
  clear hb
  have HX := Lib.hid (decR_x xs)
  have HN := Lib.hid (decR_len xs)
  go_enter Try.func6, Try.ntmps6
  by_cases hl : 1500 < xs.length
  · have hl' : (1500 : Int) < (xs.length : Int) := by omega
    go_wp2_with fail
    refine (awake_yes _).mono ?_
    rintro e w2 ⟨rfl, b2⟩
    have HB := Lib.hid b2
    clear b2
    go_wp2_with fail
    go_ret
    exact ⟨rfl, HB.out⟩
  · have hl' : ¬ (1500 : Int) < (xs.length : Int) := by omega
    have HLE := Lib.hid hl
    go_wp2_with fail
    refine (LentBytes_any HB.out (by have := HLE.out; omega)).mono ?_
    rintro e w1 ⟨g, a, rfl, l1, hg, b1⟩
    obtain ⟨A1, c1, ha⟩ := l1.bytes.form
    subst ha
    have HG := Lib.hid (show g < w1.heap.size ∧ w.heap.size ≤ w1.heap.size by obtain ⟨_, _, ho⟩ := l1; exact ⟨(ho.lt g rfl).2, b1.size⟩)
    have HL := Lib.hid l1
    have HW := Lib.hid b1
    clear l1 b1 hg
    go_wp2_with fail
    refine (Decode_any HL.out.bytes (by have := HLE.out; omega)).mono ?_
    rintro e w2 ⟨va, rfl, n2⟩
    have h1 := own1 n2.1
    have N2 := Lib.hid n2
    clear n2
    go_wp2_with (refine wpList_store_c (op := ⟨none, .store 26 _ _, _, _, _, _⟩) rfl _ _ rfl _ rfl rfl (kb_alloc (kb_new rfl _) _) rfl HX.out h1 ?_)
    intro w3 g3 k3
    obtain ⟨d3, b3, F3⟩ := Dx.made (w := w) ((decF xs).1 : Int) ((decF xs).2 : Int) N2.out g3 k3
    have HD := Lib.hid d3
    have HL := Lib.hid (HL.out.keep (Keep.of_below (S := fun _ => False) b3) id)
    have HW := Lib.hid (bl_then HW.out b3)
    obtain ⟨f0, f1, z0, z1⟩ := flt_cells F3
    clear d3 b3 F3 g3 k3 N2
    go_upto_region 5 with fail
    clear f0 f1 z0 z1
    generalize hw4 : (w3.setCell _ _).setCell _ _ = w4 at *
    clear hw4
    generalize w2.heap.size = za at *
    go_wp2_with fail
    refine (rDecode_any (HB.out.below HW.out) (by have := HLE.out; omega)).mono ?_
    rintro e w5 ⟨vb, rfl, n5⟩
    have h2 := own1 n5.1
    have N5 := Lib.hid n5
    clear n5
    go_wp2_with (refine wpList_store_c (op := ⟨none, .store 26 _ _, _, _, _, _⟩) rfl _ _ rfl _ rfl rfl (kb_alloc (kb_new rfl _) _) rfl HX.out h2 ?_)
    intro w6 g6 k6
    obtain ⟨d6, b6, F6⟩ := Dx.made (w := w) ((decF xs).1 : Int) ((decF xs).2 : Int) N5.out g6 k6
    have HD2 := Lib.hid d6
    have HD := Lib.hid (HD.out.below b6)
    have HL := Lib.hid (HL.out.keep (Keep.of_below (S := fun _ => False) b6) id)
    have HW := Lib.hid (bl_then HW.out b6)
    obtain ⟨f0, f1, z0, z1⟩ := flt_cells F6
    clear d6 b6 F6 g6 k6 N5
    go_upto_region 6 with fail
    clear f0 f1 z0 z1
    generalize hw7 : (w6.setCell _ _).setCell _ _ = w7 at *
    clear hw7
    generalize w5.heap.size = zb at *
    go_wp2_with (first
      | (with_reducible refine wpList_load_cw _ rfl (by kernel_rfl) _ rfl HD.out.c0 HX.out ?_)
      | (with_reducible refine wpList_load_cw _ rfl (by kernel_rfl) _ rfl HD2.out.c0 HX.out ?_))
    refine (SameCommit_any HX.out HX.out (VRow.of_own HD.out.o) (VRow.of_own HD2.out.o) (by have := HN.out; omega) (by have := HN.out; omega)).mono ?_
    rintro e w8 ⟨rfl, b8⟩
    rw [sameC_refl]
    have HD2 := Lib.hid (HD2.out.below b8)
    have HD := Lib.hid (HD.out.below b8)
    have HL := Lib.hid (HL.out.keep (Keep.of_below (S := fun _ => False) b8) id)
    have HW := Lib.hid (bl_then HW.out b8)
    clear b8
    obtain ⟨f0, f1, z0, z1⟩ := flt_cells HD.out.f0
    obtain ⟨g0, g1, y0, y1⟩ := flt_cells HD2.out.f0
    have hq := eql_flt ((decF xs).1 : Int) ((decF xs).2 : Int) ((decF xs).1 : Int) ((decF xs).2 : Int)
    rw [show decide (((decF xs).1 : Int) = ((decF xs).1 : Int) ∧ ((decF xs).2 : Int) = ((decF xs).2 : Int)) = true by simp] at hq
    go_wp2_with (with_reducible refine wpList_load_cw _ rfl (by kernel_rfl) _ rfl HD.out.c0 HX.out ?_)
    refine (OverCommit_any HX.out HD.out.o (by have := HN.out; omega)).mono ?_
    rintro e w9 ⟨⟨u, rfl⟩, k9⟩
    have HL := Lib.hid (HL.out.keep k9 (fun e => by have := (HD.out.o.lt _ e).1; have := HG.out.1; omega))
    have HW := Lib.hid (((Keep.of_below (S := fun _ => False) HW.out).trans k9 (fun b hb e => by have := (HD.out.o.lt _ e).1; have := HG.out.2; omega)).below (Nat.le_refl _) (fun b e => e.elim))
    clear k9 f0 f1 z0 z1 g0 g1 y0 y1 hq HD HD2
    go_wp2_with fail
    refine (KeptBytes_yes HL.out (HB.out.below HW.out) (by have := HLE.out; omega)).mono ?_
    rintro e w10 ⟨rfl, b10⟩
    have HW := Lib.hid (bl_then HW.out b10)
    clear b10
    go_wp2_with fail
    refine (awake_yes _).mono ?_
    rintro e w11 ⟨rfl, b11⟩
    have HW := Lib.hid (bl_then HW.out b11)
    clear b11
    go_wp2_with fail
    go_ret
    exact ⟨rfl, HW.out⟩
end Go.Proofs.Ytooghjnddifpdaa
