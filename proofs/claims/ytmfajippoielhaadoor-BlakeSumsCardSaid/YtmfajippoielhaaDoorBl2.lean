/- mix of both sides. Printed by wip/mkbl2.py. -/
import Derived.Test.YtmfajippoielhaaDoorKeep
import Derived.Test.YtmfajippoielhaaDoorMid
import Derived.Test.YtmfajippoielhaaDoorBl1
namespace Go.Proofs.YtmfajippoielhaaDoor
open Go.RowKit Go.Proofs.YtmfajippoielhaaDoor.Bl
set_option linter.unusedSimpArgs false
set_option linter.unusedVariables false
attribute [local go_sem] cell_alloc_some frozen_alloc_some

theorem wp_world {P : Program} {code : Code} {Q : Exit → Act → World → Prop} {a : Act} {w : World} (h : ∀ w', w' = w → Code.wp P code Q a w') : Code.wp P code Q a w := h w rfl
theorem w_add3 (x y z : W) : (((x.toNat : Int) + ((y.toNat : Int) + (z.toNat : Int))) % (4294967296 : Int) : Int) = ((x + (y + z)).toNat : Int) := by
  rw [UInt32.toNat_add, UInt32.toNat_add]; omega
theorem w_add3' (x y z : W) : ((((x.toNat : Int) + (y.toNat : Int)) + (z.toNat : Int)) % (4294967296 : Int) : Int) = ((x + (y + z)).toNat : Int) := by
  rw [UInt32.toNat_add, UInt32.toNat_add]; omega
/-- Words that lie in a block of their own. -/
def Ws (w : World) (b t : Nat) (V : List W) : Prop := w.heap[b]? = some (.cells (wvs V).toArray t (0, 0))
theorem Ws.at {w : World} {b t : Nat} {V : List W} (h : Ws w b t V) {i : Nat} (hi : i < V.length) : w.cell? ⟨b, i, none⟩ = some (wv (wAt V i)) := by
  rw [kb_cell h]; simpa using wvs_at hi
theorem Ws.fz {w : World} {b t : Nat} {V : List W} (h : Ws w b t V) (i : Nat) : w.frozen? ⟨b, i, none⟩ = false := kb_frozen h i
theorem Ws.put {w : World} {b t : Nat} {V : List W} (h : Ws w b t V) (i : Nat) (x : W) : Ws (w.setCell ⟨b, i, none⟩ (wv x)) b t (V.set i x) := by
  have := kb_set (i := i) h (wv x)
  rw [wvs_set] at this
  exact this
theorem Ws.drew {w : World} {b t : Nat} {V : List W} (h : Ws w b t V) : Ws w.drew b t V := h
theorem Ws.below {w w' : World} {b t : Nat} {V : List W} (h : Ws w b t V) (k : Below w.heap.size w w') : Ws w' b t V := kb_below k h
theorem Ws.keep {w w' : World} {b t : Nat} {V : List W} {S : Nat → Prop} (h : Ws w b t V) (k : Keep S w w') (hn : ¬ S b) : Ws w' b t V := k.kb h hn
theorem Ws.range {w : World} {b t : Nat} {V : List W} (h : Ws w b t V) : w.rangeAt b 0 (wvs V) := range_of_kb h
/-- Behind statements that write one block alone. -/
def Mx (w : World) (b t : Nat) (V : List W) (W1 : World) : Prop := Ws W1 b t V ∧ Keep (fun c => c = b) w W1
theorem Mx.put {w W1 : World} {b t : Nat} {V : List W} (h : Mx w b t V W1) (i : Nat) (x : W) : Mx w b t (V.set i x) (W1.setCell ⟨b, i, none⟩ (wv x)).drew :=
  ⟨(h.1.put i x).drew, (h.2.set (fun _ => rfl) _).drew⟩
theorem Mx.put' {w W1 : World} {b t : Nat} {V : List W} (h : Mx w b t V W1) (i : Nat) (x : W) : Mx w b t (V.set i x) (W1.drew.setCell ⟨b, i, none⟩ (wv x)) :=
  ⟨h.1.drew.put i x, h.2.drew.set (fun _ => rfl) _⟩

set_option maxRecDepth 100000 in
set_option maxHeartbeats 4000000 in
theorem mix_any {w : World} {b i j k l : Nat} {V : List W} (x y : W) (hb : Ws w b 65 V) (hi : i < V.length) (hj : j < V.length) (hk : k < V.length) (hl : l < V.length) :
    Calls Tryd.prog 43 #[.agg #[.pointer (some ⟨b, i, none⟩), .pointer (some ⟨b, j, none⟩), .pointer (some ⟨b, k, none⟩), .pointer (some ⟨b, l, none⟩)], wv x, wv y] w fun e w' => e = .returned (.tuple #[]) ∧ Mx w b 65 (mixL V i j k l x y) w' := by
  have hi0 := hi
  have hj0 := hj
  have hk0 := hk
  have hl0 := hl
  have HB := Lib.hid hb
  have hbl := kb_lt hb
  clear hb
  go_enter Tryd.func43, Tryd.ntmps43
  go_wp2
  go_region
  go_upto_region 2 with fail
  refine wp_world fun W0 hw => ?_
  have H0 := Lib.hid (show Mx w b 65 V W0 by
    rw [hw]
    exact (fun k : Below w.heap.size w _ => ⟨HB.out.below k, Keep.of_below k⟩) (by (repeat (with_reducible (first | exact Below.refl _ _ | assumption | refine bl_alloc ?_ _ | refine bl_drew ?_ | refine bl_drewN ?_ _ | (refine bl_set ?_ ?_ _; (focus (first | (simp; done) | (simp; omega) | omega))) | refine bl_then ?_ (by assumption))))))
  clear hw HB hbl
  go_upto_region 2 with fail
  go_cut [] from 18 (fun wx => Hid (Mx w b 65 (mx1 V i j x) wx))
  case first =>
    have c1 := (H0.out.1.at (i := i) (by simpa using hi))
    have c2 := (H0.out.1.at (i := j) (by simpa using hj))
    have zz := H0.out.1.fz i
    go_region
    all_goals
      (try go_wp2_with fail)
      go_meet
      case rel => rw [w_add3]; first | exact Lib.hid (H0.out.put i (wAt V i + (wAt V j + x))) | exact Lib.hid (H0.out.put' i (wAt V i + (wAt V j + x)))
  have H1 := hcut
  clear hcut H0
  generalize hV1 : (mx1 V i j x) = V1 at H1
  have hl1 : V1.length = V.length := by rw [← hV1]; simp [mx1, mx2, mx3]
  have hi : i < V1.length := by rw [hl1]; exact hi0
  have hj : j < V1.length := by rw [hl1]; exact hj0
  have hk : k < V1.length := by rw [hl1]; exact hk0
  have hl : l < V1.length := by rw [hl1]; exact hl0
  go_upto_region 3 with fail
  go_cut [] from 18 (fun wx => Hid (Mx w b 65 (mx2 r16 V1 l i) wx))
  case first =>
    have c1 := (H1.out.1.at (i := l) (by simpa using hl))
    have c2 := (H1.out.1.at (i := i) (by simpa using hi))
    have zz := H1.out.1.fz l
    go_region_with (go_at_call 57; rw [w_xor]; (with_reducible refine (rot16 _ _).mono ?_); rintro e w1 ⟨rfl, rfl⟩)
    all_goals
      (try go_wp2_with fail)
      go_meet
      case rel => first | exact Lib.hid (H1.out.put l (r16 (wAt V1 l ^^^ wAt V1 i))) | exact Lib.hid (H1.out.put' l (r16 (wAt V1 l ^^^ wAt V1 i)))
  have H2 := hcut
  clear hcut H1
  generalize hV2 : (mx2 r16 V1 l i) = V2 at H2
  have hl2 : V2.length = V.length := by rw [← hV2]; simp [mx1, mx2, mx3, hl1]
  have hi : i < V2.length := by rw [hl2]; exact hi0
  have hj : j < V2.length := by rw [hl2]; exact hj0
  have hk : k < V2.length := by rw [hl2]; exact hk0
  have hl : l < V2.length := by rw [hl2]; exact hl0
  go_upto_region 4 with fail
  go_cut [] from 18 (fun wx => Hid (Mx w b 65 (mx3 V2 k l) wx))
  case first =>
    have c1 := (H2.out.1.at (i := k) (by simpa using hk))
    have c2 := (H2.out.1.at (i := l) (by simpa using hl))
    have zz := H2.out.1.fz k
    go_region
    all_goals
      (try go_wp2_with fail)
      go_meet
      case rel => rw [w_add]; first | exact Lib.hid (H2.out.put k (wAt V2 k + wAt V2 l)) | exact Lib.hid (H2.out.put' k (wAt V2 k + wAt V2 l))
  have H3 := hcut
  clear hcut H2
  generalize hV3 : (mx3 V2 k l) = V3 at H3
  have hl3 : V3.length = V.length := by rw [← hV3]; simp [mx1, mx2, mx3, hl2]
  have hi : i < V3.length := by rw [hl3]; exact hi0
  have hj : j < V3.length := by rw [hl3]; exact hj0
  have hk : k < V3.length := by rw [hl3]; exact hk0
  have hl : l < V3.length := by rw [hl3]; exact hl0
  go_upto_region 5 with fail
  go_cut [] from 18 (fun wx => Hid (Mx w b 65 (mx2 r12 V3 j k) wx))
  case first =>
    have c1 := (H3.out.1.at (i := j) (by simpa using hj))
    have c2 := (H3.out.1.at (i := k) (by simpa using hk))
    have zz := H3.out.1.fz j
    go_region_with (go_at_call 57; rw [w_xor]; (with_reducible refine (rot12 _ _).mono ?_); rintro e w1 ⟨rfl, rfl⟩)
    all_goals
      (try go_wp2_with fail)
      go_meet
      case rel => first | exact Lib.hid (H3.out.put j (r12 (wAt V3 j ^^^ wAt V3 k))) | exact Lib.hid (H3.out.put' j (r12 (wAt V3 j ^^^ wAt V3 k)))
  have H4 := hcut
  clear hcut H3
  generalize hV4 : (mx2 r12 V3 j k) = V4 at H4
  have hl4 : V4.length = V.length := by rw [← hV4]; simp [mx1, mx2, mx3, hl3]
  have hi : i < V4.length := by rw [hl4]; exact hi0
  have hj : j < V4.length := by rw [hl4]; exact hj0
  have hk : k < V4.length := by rw [hl4]; exact hk0
  have hl : l < V4.length := by rw [hl4]; exact hl0
  go_upto_region 6 with fail
  go_cut [] from 18 (fun wx => Hid (Mx w b 65 (mx1 V4 i j y) wx))
  case first =>
    have c1 := (H4.out.1.at (i := i) (by simpa using hi))
    have c2 := (H4.out.1.at (i := j) (by simpa using hj))
    have zz := H4.out.1.fz i
    go_region
    all_goals
      (try go_wp2_with fail)
      go_meet
      case rel => rw [w_add3]; first | exact Lib.hid (H4.out.put i (wAt V4 i + (wAt V4 j + y))) | exact Lib.hid (H4.out.put' i (wAt V4 i + (wAt V4 j + y)))
  have H5 := hcut
  clear hcut H4
  generalize hV5 : (mx1 V4 i j y) = V5 at H5
  have hl5 : V5.length = V.length := by rw [← hV5]; simp [mx1, mx2, mx3, hl4]
  have hi : i < V5.length := by rw [hl5]; exact hi0
  have hj : j < V5.length := by rw [hl5]; exact hj0
  have hk : k < V5.length := by rw [hl5]; exact hk0
  have hl : l < V5.length := by rw [hl5]; exact hl0
  go_upto_region 7 with fail
  go_cut [] from 18 (fun wx => Hid (Mx w b 65 (mx2 r8 V5 l i) wx))
  case first =>
    have c1 := (H5.out.1.at (i := l) (by simpa using hl))
    have c2 := (H5.out.1.at (i := i) (by simpa using hi))
    have zz := H5.out.1.fz l
    go_region_with (go_at_call 57; rw [w_xor]; (with_reducible refine (rot8 _ _).mono ?_); rintro e w1 ⟨rfl, rfl⟩)
    all_goals
      (try go_wp2_with fail)
      go_meet
      case rel => first | exact Lib.hid (H5.out.put l (r8 (wAt V5 l ^^^ wAt V5 i))) | exact Lib.hid (H5.out.put' l (r8 (wAt V5 l ^^^ wAt V5 i)))
  have H6 := hcut
  clear hcut H5
  generalize hV6 : (mx2 r8 V5 l i) = V6 at H6
  have hl6 : V6.length = V.length := by rw [← hV6]; simp [mx1, mx2, mx3, hl5]
  have hi : i < V6.length := by rw [hl6]; exact hi0
  have hj : j < V6.length := by rw [hl6]; exact hj0
  have hk : k < V6.length := by rw [hl6]; exact hk0
  have hl : l < V6.length := by rw [hl6]; exact hl0
  go_upto_region 8 with fail
  go_cut [] from 18 (fun wx => Hid (Mx w b 65 (mx3 V6 k l) wx))
  case first =>
    have c1 := (H6.out.1.at (i := k) (by simpa using hk))
    have c2 := (H6.out.1.at (i := l) (by simpa using hl))
    have zz := H6.out.1.fz k
    go_region
    all_goals
      (try go_wp2_with fail)
      go_meet
      case rel => rw [w_add]; first | exact Lib.hid (H6.out.put k (wAt V6 k + wAt V6 l)) | exact Lib.hid (H6.out.put' k (wAt V6 k + wAt V6 l))
  have H7 := hcut
  clear hcut H6
  generalize hV7 : (mx3 V6 k l) = V7 at H7
  have hl7 : V7.length = V.length := by rw [← hV7]; simp [mx1, mx2, mx3, hl6]
  have hi : i < V7.length := by rw [hl7]; exact hi0
  have hj : j < V7.length := by rw [hl7]; exact hj0
  have hk : k < V7.length := by rw [hl7]; exact hk0
  have hl : l < V7.length := by rw [hl7]; exact hl0
  go_upto_region 9 with fail
  have c1 := (H7.out.1.at (i := j) (by simpa using hj))
  have c2 := (H7.out.1.at (i := k) (by simpa using hk))
  have zz := H7.out.1.fz j
  go_region_with (go_at_call 57; rw [w_xor]; (with_reducible refine (rot7 _ _).mono ?_); rintro e w1 ⟨rfl, rfl⟩)
  all_goals
    have H8 := Lib.hid (H7.out.put j (r7 (wAt V7 j ^^^ wAt V7 k)))
    rw [show V7.set j (r7 (wAt V7 j ^^^ wAt V7 k)) = mixL V i j k l x y by unfold mixL; rw [hV1, hV2, hV3, hV4, hV5, hV6, hV7]; rfl] at H8
    clear c1 c2 zz H7
    go_wp2
    go_end0
    exact ⟨rfl, H8.out⟩
end Go.Proofs.YtmfajippoielhaaDoor
