/- The program's block. -/
import Derived.Test.YtmfajippoielhaaDoorBl5
namespace Go.Proofs.YtmfajippoielhaaDoor
open Go.RowKit Go.Proofs.YtmfajippoielhaaDoor.Bl
set_option linter.unusedSimpArgs false
set_option linter.unusedVariables false
attribute [local go_sem] cell_alloc_some frozen_alloc_some

theorem Cs.mid {w : World} {b t : Nat} {A B D : List Value} (H : Cs w b t (A ++ (B ++ D))) : w.rangeAt b A.length B := fun j v hj => by
  have hjl := (List.getElem?_eq_some_iff.1 hj).1
  rw [H.at, List.getElem?_append_right (by omega), List.getElem?_append_left (by omega), show A.length + j - A.length = j by omega]
  exact hj

theorem Bk.iter {w W : World} {hb t : Nat} {cs : List Value} {M V : List UInt32} (h : Bk w W hb t cs M V) : Bk w (W.iter rowsS 0) hb t cs M V ∧ It (W.iter rowsS 0) W.heap.size 0 :=
  ⟨h.below (bl_alloc (Below.refl _ _) _), kb_new rfl _⟩
theorem Bk.keepS {w W W' : World} {hb t : Nat} {cs : List Value} {M V : List UInt32} {S : Nat → Prop} (h : Bk w W hb t cs M V) (k : Keep S W W') (hit : ∀ b, S b → w.heap.size + 2 ≤ b) : Bk w W' hb t cs M V :=
  ⟨h.hh.keep k (fun e => by have := h.lt; have := hit _ e; omega), h.m.keep k (fun e => by have := hit _ e; omega), h.v.keep k (fun e => by have := hit _ e; omega), ((Keep.of_below (S := fun _ => False) h.k).trans k (fun b hb e => by have := hit _ e; omega)).below (Nat.le_refl _) (fun b e => e.elim), h.lt⟩
theorem wvs_append (a b : List W) : wvs (a ++ b) = wvs a ++ wvs b := by simp [wvs]
theorem own_w {w : World} {B n c : Nat} {A : Option Addr} {l : List W} (h : w.ownsRow B 32 1 (.slice A n c) n (wvs l)) (h0 : 0 < n) : ∃ g, A = some ⟨g, 0, none⟩ ∧ B ≤ g ∧ g < w.heap.size ∧ ∀ i, i < n → w.cell? ⟨g, i, none⟩ = some (wv (wAt l i)) := by
  rcases h.2 with ⟨e, h1⟩ | ⟨g, cap, cur, e, hB, hh, _⟩
  · omega
  · injection e with e1 e2 e3
    subst e1
    refine ⟨g, rfl, hB, kb_lt hh, fun i hi => ?_⟩
    have := h.cells (g := g) rfl i _ (wvs_at (l := l) (i := i) (by have := h.1; rw [wvs_len] at this; omega))
    rwa [addr_add, Nat.zero_add] at this
structure Ix5 (n m1 m2 m3 a1 a2 a3 n1 n2 n3 nn n4 n5 : Nat) : Prop where
  f0 : (n : Int) < 16
  f1 : IntKind.i64.wrap ((n : Int) + 1) = (m1 : Int)
  f2 : IntKind.i64.wrap ((n : Int) + 2) = (m2 : Int)
  f3 : IntKind.i64.wrap ((n : Int) + 3) = (m3 : Int)
  f4 : Int.tmod (m1 : Int) 4 = (a1 : Int)
  f5 : Int.tmod (m2 : Int) 4 = (a2 : Int)
  f6 : Int.tmod (m3 : Int) 4 = (a3 : Int)
  e4 : IntKind.i64.wrap (a1 : Int) = (a1 : Int)
  e5 : IntKind.i64.wrap (a2 : Int) = (a2 : Int)
  e6 : IntKind.i64.wrap (a3 : Int) = (a3 : Int)
  f7 : IntKind.i64.wrap (4 + (a1 : Int)) = (n1 : Int)
  f8 : IntKind.i64.wrap (8 + (a2 : Int)) = (n2 : Int)
  f9 : IntKind.i64.wrap (12 + (a3 : Int)) = (n3 : Int)
  g1 : IntKind.i64.wrap (2 * (n : Int)) = (nn : Int)
  g2 : IntKind.i64.wrap (8 + (nn : Int)) = (n4 : Int)
  g3 : IntKind.i64.wrap (9 + (nn : Int)) = (n5 : Int)
  b1 : (n1 : Int) < 16
  b2 : (n2 : Int) < 16
  b3 : (n3 : Int) < 16
  b4 : (n4 : Int) < 16
  b5 : (n5 : Int) < 16
  l0 : n < 16
  l1 : n1 < 16
  l2 : n2 < 16
  l3 : n3 < 16
  l4 : n4 < 16
  l5 : n5 < 16
  hq : 4 + (n + 1) % 4 = n1 ∧ 8 + (n + 2) % 4 = n2 ∧ 12 + (n + 3) % 4 = n3 ∧ 8 + 2 * n = n4 ∧ 9 + 2 * n = n5
theorem ix5 {n : Nat} (h : n < 4) : ∃ m1 m2 m3 a1 a2 a3 n1 n2 n3 nn n4 n5 : Nat, Ix5 n m1 m2 m3 a1 a2 a3 n1 n2 n3 nn n4 n5 := by
  obtain rfl | rfl | rfl | rfl : n = 0 ∨ n = 1 ∨ n = 2 ∨ n = 3 := by omega
  · exact ⟨1, 2, 3, 1, 2, 3, 5, 10, 15, 0, 8, 9, by constructor <;> decide⟩
  · exact ⟨2, 3, 4, 2, 3, 0, 6, 11, 12, 2, 10, 11, by constructor <;> decide⟩
  · exact ⟨3, 4, 5, 3, 0, 1, 7, 8, 13, 4, 12, 13, by constructor <;> decide⟩
  · exact ⟨4, 5, 6, 0, 1, 2, 4, 9, 14, 6, 14, 15, by constructor <;> decide⟩
/-- Words of a row that is read. -/
def Rw (w : World) (g : Nat) (l : List W) : Prop := ∀ i, i < 16 → w.cell? ⟨g, i, none⟩ = some (wv (wAt l i))
theorem Rw.keep {w w' : World} {g : Nat} {l : List UInt32} {S : Nat → Prop} (h : Rw w g l) (k : Keep S w w') (hg : ¬ S g) : Rw w' g l := fun i hi => by
  have hb : g < w.heap.size := World.block_lt_of_cell? w _ (h i hi)
  exact (World.cell?_of_block (a := ⟨g, i, none⟩) (k.block g hb hg)).trans (h i hi)
theorem row_next (m : List W) {r j : Nat} (hj : j < 16) : (rowW m r).take (j + 1) = (rowW m r).take j ++ [wAt m (sg r j)] := by
  rw [List.take_add_one, List.getElem?_eq_getElem (by rw [rowW_len]; exact hj), ← rowW_at m r hj]
  unfold wAt
  rw [List.getD_eq_getElem?_getD, List.getElem?_eq_getElem (by rw [rowW_len]; exact hj)]; rfl
theorem infoW : (Tryd.prog.info? 32).map (fun i => (i.zero, i.size, i.bytes)) = some (some (.int .u32 0), 1, 4) := by kernel_rfl

/-- The words that are told, so far. -/
def owAt (h V : List W) (i j : Nat) : W := if j < i then wAt h j ^^^ (wAt V j ^^^ wAt V (j + 8)) else wAt h j
def ow (h V : List W) (i : Nat) : List W := (List.range 8).map (owAt h V i)
theorem ow_len (h V : List W) (i : Nat) : (ow h V i).length = 8 := by simp [ow]
theorem ow_at (h V : List W) (i : Nat) {j : Nat} (hj : j < 8) : wAt (ow h V i) j = owAt h V i j := by
  unfold ow
  rw [wAt, List.getD_eq_getElem?_getD, List.getElem?_map, List.getElem?_range hj]; rfl
theorem wAt_map {n j : Nat} (f : Nat → W) (h : j < n) : wAt ((List.range n).map f) j = f j := by
  rw [wAt, List.getD_eq_getElem?_getD, List.getElem?_map, List.getElem?_range h]; rfl
theorem ow_zero {h V : List W} (hl : h.length = 8) : ow h V 0 = h := by
  refine ext_w (by rw [ow_len, hl]) fun j hj => ?_
  rw [ow_at _ _ _ (by rwa [ow_len] at hj)]
  unfold owAt; rw [if_neg (by omega)]
theorem ow_end (h V : List W) : ow h V 8 = outW h V := by
  refine ext_w (by simp [ow_len, outW]) fun j hj => ?_
  have hj' : j < 8 := by rwa [ow_len] at hj
  rw [ow_at _ _ _ hj']
  unfold owAt outW
  rw [if_pos hj', wAt_map _ hj']
theorem ow_next (h V : List W) {i : Nat} (hi : i < 8) : (ow h V i).set i (wAt h i ^^^ (wAt V i ^^^ wAt V (i + 8))) = ow h V (i + 1) := by
  refine ext_w (by simp [ow_len]) fun j hj => ?_
  have hj' : j < 8 := by simpa [ow_len] using hj
  rw [wAt_set _ _ _ _ (by rw [ow_len]; exact hj'), ow_at _ _ _ hj', ow_at _ _ _ hj']
  unfold owAt
  by_cases e : i = j
  · subst e; simp
  · rw [if_neg e]
    by_cases e2 : j < i
    · rw [if_pos e2, if_pos (by omega)]
    · rw [if_neg e2, if_neg (by omega)]
theorem mid_set {A D : List Value} {l : List W} {i : Nat} (hi : i < l.length) (x : W) : (A ++ (wvs l ++ D)).set (A.length + i) (wv x) = A ++ (wvs (l.set i x) ++ D) := by
  rw [List.set_append_right _ _ (by omega), show A.length + i - A.length = i by omega, List.set_append_left _ _ (by rw [wvs_len]; exact hi)]
  simp [wvs, List.map_set]
/-- Behind the rounds. -/
structure Bo (w wa : World) (hb t : Nat) (A D : List Value) (V h : List UInt32) (i : Nat) : Prop where
  hh : Cs wa hb t (A ++ (wvs (ow h V i) ++ D))
  v : Ws wa (w.heap.size + 1) 65 V
  k : Keep (fun c => c = hb) w wa
  lt : hb < w.heap.size
theorem Bo.of {w wa : World} {hb t : Nat} {A D : List Value} {M V h : List UInt32} (H : Bk w wa hb t (A ++ (wvs h ++ D)) M V) (hl : h.length = 8) : Bo w wa hb t A D V h 0 :=
  ⟨by rw [ow_zero hl]; exact H.hh, H.v, Keep.of_below H.k, H.lt⟩
theorem Bo.at {w wa : World} {hb t : Nat} {A D : List Value} {V h : List UInt32} {i : Nat} (H : Bo w wa hb t A D V h i) (hi : i < 8) : wa.cell? ⟨hb, A.length + i, none⟩ = some (wv (wAt h i)) := by
  have := H.hh.mid i _ (wvs_at (l := ow h V i) (i := i) (by rw [ow_len]; exact hi))
  rw [ow_at _ _ _ hi] at this
  rw [this]; unfold owAt; rw [if_neg (by omega)]
theorem Bo.next {w wa : World} {hb t : Nat} {A D : List Value} {V h : List UInt32} {i : Nat} (H : Bo w wa hb t A D V h i) (hi : i < 8) : Bo w (wa.setCell ⟨hb, A.length + i, none⟩ (wv (wAt h i ^^^ (wAt V i ^^^ wAt V (i + 8))))).drew hb t A D V h (i + 1) := by
  have k1 := (Keep.refl (fun c => c = hb) wa).set (p := ⟨hb, A.length + i, none⟩) (fun _ => rfl) (wv (wAt h i ^^^ (wAt V i ^^^ wAt V (i + 8))))
  refine ⟨?_, (H.v.keep k1 (by have := H.lt; omega)).drew, (H.k.set (fun _ => rfl) _).drew, H.lt⟩
  have := H.hh.put (A.length + i) (wv (wAt h i ^^^ (wAt V i ^^^ wAt V (i + 8))))
  rw [mid_set (by rw [ow_len]; exact hi), ow_next _ _ hi] at this
  exact this

set_option maxRecDepth 100000 in
set_option maxHeartbeats 8000000 in
theorem block_any {w : World} {hb t bb off cap : Nat} {pre post : List Value} {h : List W} {bs : List UInt8} (many : Nat) (last : Bool) (hh : Cs w hb t (pre ++ (wvs h ++ post))) (hl : h.length = 8) (hbs : bs.length = 64) (hcap : 64 ≤ cap) (hm : many < 4611686018427387904)
    (hB : BytesOf w (.slice (some ⟨bb, off, none⟩) 64 cap) bs) :
    Calls Tryd.prog 32 #[.pointer (some ⟨hb, pre.length, none⟩), .slice (some ⟨bb, off, none⟩) 64 cap, .int .i64 (many : Int), .bool last] w fun e w' => e = .returned (.tuple #[]) ∧ Cs w' hb t (pre ++ (wvs (blockP h bs many last) ++ post)) ∧ Keep (fun c => c = hb) w w' := by
  have HB := Lib.hid hB
  have HH := Lib.hid hh
  have hlt := kb_lt hh
  clear hB hh
  go_enter Tryd.func32, Tryd.ntmps32
  go_upto_region 1 with fail
  refine wp_world fun w1 hw => ?_
  have H1 := Lib.hid (show Bk w w1 hb t (pre ++ (wvs h ++ post)) (mSt bs 0 0) (List.replicate 16 0) by
    rw [hw, mSt_zero]
    exact ⟨kb_alloc (kb_alloc HH.out _) _, kb_alloc (kb_new rfl _) _, kb_new (by simp) _, by (repeat (with_reducible (first | exact Below.refl _ _ | assumption | refine bl_alloc ?_ _ | refine bl_drew ?_ | refine bl_drewN ?_ _ | (refine bl_set ?_ ?_ _; (focus (first | (simp; done) | (simp; omega) | omega))) | refine bl_then ?_ (by assumption)))), hlt⟩)
  clear hw
  go_wp2_with fail
  go_loopw [10, 11, 12, 20, 21, 22, 23, 24, 25, 26, 27, 28, 29, 30, 31, 32, 33, 34, 35, 36, 37, 38, 39, 40, 41, 42, 43, 44, 45, 46, 47] (fun _ _ _ s20 _ _ _ _ _ _ _ _ _ _ _ _ _ _ _ _ _ _ _ _ _ _ _ _ _ _ _ wr => ∃ i : Nat, i ≤ 16 ∧ s20 = .int .i64 i ∧ Hid (Bk w wr hb t (pre ++ (wvs h ++ post)) (mSt bs i 0) (List.replicate 16 0))) (fun _ _ _ s20 _ _ _ _ _ _ _ _ _ _ _ _ _ _ _ _ _ _ _ _ _ _ _ _ _ _ _ _ => 16 - (intOf s20).toNat)
  case atStart => exact ⟨0, by omega, rfl, H1⟩
  case round =>
    obtain ⟨i, hi, rfl, H2⟩ := hrel
    by_cases hi' : i < 16
    · have e1 : 4 * (i : Int) ≤ 4 * (i : Int) + 4 := by omega
      have e2 : 4 * (i : Int) + 4 ≤ (cap : Int) := by omega
      have hby : ∀ k, k < 4 → w.cell? ⟨bb, off + 4 * i + k, none⟩ = some (.int .u8 ((bAt bs (4 * i + k)).toNat : Int)) := fun k hk => by
        obtain ⟨A, c', e, _, hc⟩ := HB.out
        injection e with e1 e2 e3
        obtain ⟨b', o', e', hb', hc⟩ := hc (by omega)
        rw [e'] at e1
        injection e1 with e1
        injection e1 with e1 e4
        subst e1; subst e4
        rw [Nat.add_assoc]
        refine hc (4 * i + k) _ ?_
        rw [u8s_get _ _ (by omega)]
        unfold bAt u8v
        rw [List.getD_eq_getElem?_getD, List.getElem?_eq_getElem (by omega)]; rfl
      have HY := Lib.hid hby
      have hbb : bb < w.heap.size := World.block_lt_of_cell? w _ (hby 0 (by omega))
      clear hby
      go_wp2_with fail
      go_loopw [11, 12, 31, 32, 33, 34, 35, 36, 37, 38, 39, 40, 41, 42, 43, 44, 45, 46] (fun _ _ s31 _ _ _ _ _ _ _ _ _ _ _ _ _ _ _ wr => ∃ k : Nat, k ≤ 4 ∧ s31 = .int .i64 k ∧ Hid (Bk w wr hb t (pre ++ (wvs h ++ post)) (mSt bs i k) (List.replicate 16 0))) (fun _ _ s31 _ _ _ _ _ _ _ _ _ _ _ _ _ _ _ _ => 4 - (intOf s31).toNat)
      case atStart => exact ⟨0, by omega, rfl, H2⟩
      case round =>
        obtain ⟨k, hk, rfl, H3⟩ := hrel
        by_cases hk' : k < 4
        · have c0 := (H3.out.k.cell (p := ⟨bb, off + 4 * i + k, none⟩) hbb).trans (HY.out k hk')
          have c1 := (H3.out.m.at (i := i) (by rw [mSt_len]; exact hi')).trans (by rw [mSt_i _ _ hi'])
          have c2 := H3.out.m.fz i
          have HS := Lib.hid (show Bk w (wr.setCell ⟨w.heap.size, i, none⟩ (wv (wdN bs i (k + 1)))) hb t (pre ++ (wvs h ++ post)) (mSt bs i (k + 1)) (List.replicate 16 0) by
            have := H3.out.putm i (wdN bs i (k + 1)); rwa [mSt_set _ hi'] at this)
          rw [show wdN bs i (k + 1) = wdN bs i k ||| shB (bAt bs (4 * i + k)) k from rfl] at HS
          generalize wdN bs i k = x at *
          generalize bAt bs (4 * i + k) = y at *
          have hy := y.toNat_lt
          clear H3
          have ho := fun z hz => or_val x y (k := k) hk' z hz
          obtain rfl | rfl | rfl | rfl : k = 0 ∨ k = 1 ∨ k = 2 ∨ k = 3 := by omega
          · rw [Nat.add_zero] at c0
            have ho1 := Lib.hid (ho ((y.toNat : Int)) (by simp))
            clear ho
            go_wp2_with fail
            go_region
            go_wp2_with fail
            go_roundw
            case rel => exact ⟨1, by omega, rfl, by rw [ho1.out]; exact Lib.hid HS.out.drew⟩
            case measure => simp [intOf]
          · skip
            have ho1 := Lib.hid (ho ((y.toNat : Int) * (256 : Int)) (by simp))
            clear ho
            go_wp2_with fail
            go_region
            go_wp2_with fail
            go_roundw
            case rel => exact ⟨2, by omega, rfl, by rw [ho1.out]; exact Lib.hid HS.out.drew⟩
            case measure => simp [intOf]
          · skip
            have ho1 := Lib.hid (ho ((y.toNat : Int) * (65536 : Int)) (by simp))
            clear ho
            go_wp2_with fail
            go_region
            go_wp2_with fail
            go_roundw
            case rel => exact ⟨3, by omega, rfl, by rw [ho1.out]; exact Lib.hid HS.out.drew⟩
            case measure => simp [intOf]
          · skip
            have ho1 := Lib.hid (ho ((y.toNat : Int) * (16777216 : Int)) (by simp))
            clear ho
            go_wp2_with fail
            go_region
            go_wp2_with fail
            go_roundw
            case rel => exact ⟨4, by omega, rfl, by rw [ho1.out]; exact Lib.hid HS.out.drew⟩
            case measure => simp [intOf]
        · obtain rfl : k = 4 := by omega
          rw [mSt_next _ hi'] at H3
          go_wp2_with fail
          go_roundw
          case rel => exact ⟨i + 1, by omega, by go_num, H3⟩
          case measure => simp [intOf]; omega
    · obtain rfl : i = 16 := by omega
      have H3 := H2
      rw [mSt_end] at H3
      clear H2
      go_upto_region 10 with fail
      go_wp2_with fail
      refine (begin_any _).mono ?_
      rintro e w2 ⟨rfl, b2⟩
      have H4 := H3.out.below b2
      clear b2 H3
      go_wp2_with (first
        | (refine wpList_stnew_w (op := ⟨none, .store 34 _ _, _, _, _, _⟩) (cs := wvs iv) rfl _ _ rfl rfl rfl rfl rfl (wvs_one _) ?_))
      go_upto_region 11 with fail
      refine wp_world fun w3 hw => ?_
      have H5 : Bk w w3 hb t (pre ++ (wvs h ++ post)) (msg bs) ([] ++ (List.replicate 8 0 ++ List.replicate 8 0)) := by rw [hw]; exact H4.below (bl_alloc (Below.refl _ _) _)
      have hst : Cs w3 w2.heap.size 34 (wvs iv) := by rw [hw]; exact Cs.new rfl _
      have hsz : w.heap.size + 2 ≤ w2.heap.size := by have := kb_lt H4.v; omega
      clear hw H4
      generalize w2.heap.size = sb at *
      obtain ⟨w4, hr4, H6, k4⟩ := H5.copy hb pre.length 16 H5.hh.mid rfl hl
      have hst4 := hst.keep k4 (by omega)
      clear k4 hst
      have HH6 := Lib.hid H6
      have HS4 := Lib.hid hst4
      clear H5 H6 hst4
      go_region_law (refine step_copy_w rfl _ _ rfl _ _ (by simp [Act.eval, Act.put]) (by simp [Act.eval, Act.put]) hr4 ?_)
      clear hr4
      obtain ⟨w5, hr5, H7, k5⟩ := Bk.copy (A := h) (B := List.replicate 8 0) (D := []) (h := iv) HH6.out sb 0 8 HS4.out.range rfl rfl
      rw [hl] at hr5
      have HH7 := Lib.hid H7
      clear H7 k5 HH6 HS4
      go_upto_region 12 with fail
      go_region_law (refine step_copy_w rfl _ _ rfl _ _ (by simp [Act.eval, Act.put]) (by simp [Act.eval, Act.put]) hr5 ?_)
      clear hr5
      rw [List.append_nil] at HH7
      have hlv : (h ++ iv).length = 16 := by simp [hl, iv]
      obtain ⟨V, hV⟩ : ∃ V, h ++ iv = V := ⟨_, rfl⟩
      rw [hV] at HH7 hlv
      have c12 := HH7.out.v.at (i := 12) (by omega)
      have c13 := HH7.out.v.at (i := 13) (by omega)
      have z12 := HH7.out.v.fz 12
      have z13 := HH7.out.v.fz 13
      go_upto_if 71 with fail
      refine wp_world fun w6 hw => ?_
      have H8 : Bk w w6 hb t (pre ++ (wvs h ++ post)) (msg bs) ((V.set 12 (wAt V 12 ^^^ UInt32.ofNat many)).set 13 (wAt V 13 ^^^ UInt32.ofNat (many / 4294967296))) := by
        rw [hw, xor_many _ many _ (by omega), xor_many _ (many / 4294967296) _ (by omega)]
        exact (HH7.out.putv 12 _).putv 13 _
      have hV2 : ∀ b, v0 h many b = if b then (((V.set 12 (wAt V 12 ^^^ UInt32.ofNat many)).set 13 (wAt V 13 ^^^ UInt32.ofNat (many / 4294967296)))).set 14 (~~~ wAt (((V.set 12 (wAt V 12 ^^^ UInt32.ofNat many)).set 13 (wAt V 13 ^^^ UInt32.ofNat (many / 4294967296)))) 14) else ((V.set 12 (wAt V 12 ^^^ UInt32.ofNat many)).set 13 (wAt V 13 ^^^ UInt32.ofNat (many / 4294967296))) := fun b => by
        unfold v0
        simp only [hV]
        rw [wAt_set _ _ _ _ (by omega)]
        rfl
      have hl2 : ((V.set 12 (wAt V 12 ^^^ UInt32.ofNat many)).set 13 (wAt V 13 ^^^ UInt32.ofNat (many / 4294967296))).length = 16 := by simp [hlv]
      have hv0 := v0_len hl many last
      generalize ((V.set 12 (wAt V 12 ^^^ UInt32.ofNat many)).set 13 (wAt V 13 ^^^ UInt32.ofNat (many / 4294967296))) = V2 at *
      have HV2 := Lib.hid hV2
      have HH8 := Lib.hid H8
      clear hw c12 c13 z12 z13 HH7 H8 hV2
      go_cut [] from 10 (fun wx => Hid (Bk w wx hb t (pre ++ (wvs h ++ post)) (msg bs) (v0 h many last)))
      case first =>
        have c14 := HH8.out.v.at (i := 14) (by omega)
        have z14 := HH8.out.v.fz 14
        cases last with
        | true =>
          go_wp2_with fail
          go_meet
          case rel => rw [show IntKind.u32.max = 4294967295 from rfl, not_val, HV2.out]; exact Lib.hid (HH8.out.putv 14 _)
        | false =>
          go_wp2_with fail
          go_meet
          case rel => rw [HV2.out]; exact HH8
      case rest =>
        have HK := hcut
        clear hcut HH8 HV2 hl2 hV hlv
        obtain ⟨V0, hV0⟩ : ∃ V0, v0 h many last = V0 := ⟨_, rfl⟩
        rw [hV0] at HK hv0
        have HV0 := Lib.hid hV0
        clear hV0
        have HKI := Lib.hid HK.out.iter
        have hits : w.heap.size + 2 ≤ wc.heap.size := by have := kb_lt HK.out.v; omega
        clear HK
        obtain ⟨it, hit⟩ : ∃ it, wc.heap.size = it := ⟨_, rfl⟩
        rw [hit] at hits
        have HT := Lib.hid hit
        go_wp2_with fail
        clear hit
        go_loopw [14, 16, 17, 18, 77, 78, 79, 80, 81, 82, 83, 84, 85, 86, 87, 88, 89, 90, 91, 92, 93, 94, 95, 96, 97, 98, 99, 100, 101, 102, 103, 104, 105, 106, 107, 108, 109, 110, 111, 112, 113, 114, 115, 116, 117, 118, 119, 120, 121, 122, 123, 124, 125, 126, 127, 128, 129, 130, 131, 132, 133, 134, 135, 136, 137, 138, 139, 140, 141, 142, 143, 144, 145, 146, 147, 148, 149, 150, 151, 152] (fun s14 _ _ _ _ _ _ _ _ _ _ _ _ _ _ _ _ _ _ _ _ _ _ _ _ _ _ _ _ _ _ _ _ _ _ _ _ _ _ _ _ _ _ _ _ _ _ _ _ _ _ _ _ _ _ _ _ _ _ _ _ _ _ _ _ _ _ _ _ _ _ _ _ _ _ _ _ _ _ _ wr => ∃ q : Nat, q ≤ 160 ∧ Hid (It wr it q) ∧ Hid (Bk w wr hb t (pre ++ (wvs h ++ post)) (msg bs) (rounds (msg bs) (q / 16) V0)) ∧ Hid (wr.ownsRow (it + 1) 32 1 s14 (q % 16) (wvs ((rowW (msg bs) (q / 16)).take (q % 16))))) (fun _ _ _ _ _ _ _ _ _ _ _ _ _ _ _ _ _ _ _ _ _ _ _ _ _ _ _ _ _ _ _ _ _ _ _ _ _ _ _ _ _ _ _ _ _ _ _ _ _ _ _ _ _ _ _ _ _ _ _ _ _ _ _ _ _ _ _ _ _ _ _ _ _ _ _ _ _ _ _ _ wr => 160 - wr.iterPos it)
        case atStart => exact ⟨0, by omega, by rw [← HT.out]; exact Lib.hid HKI.out.2, Lib.hid HKI.out.1, Lib.hid (World.ownsRow_nil _ _ _ _)⟩
        case round =>
          obtain ⟨q, hq, HI, HK, HO⟩ := hrel
          by_cases hq' : q < 160
          · obtain ⟨w8, hr8, hI8, k8⟩ := HI.out.next hq'
            obtain ⟨hc1, hc2⟩ := rows_at q hq'
            generalize (rowsS[q]'(by rw [rows_size]; exact hq')).toNat = c at *
            obtain ⟨r, hr⟩ : ∃ r, q / 16 = r := ⟨_, rfl⟩
            obtain ⟨j, hj⟩ : ∃ j, q % 16 = j := ⟨_, rfl⟩
            rw [hr, hj] at HO hc2
            rw [hr] at HK
            have hj16 : j < 16 := by omega
            have hr10 : r < 10 := by omega
            have HQ := Lib.hid (And.intro hr hj)
            obtain ⟨A14, c14, hu⟩ := owns_slice0 HO.out
            subst hu
            have HI8 := Lib.hid hI8
            have HK8 := Lib.hid (HK.out.keep k8 hits)
            have HO8 := Lib.hid (k8.row HO.out (fun b hb e => by have := (HO.out.lt b hb).1; omega))
            have HP := Lib.hid HI.out.pos
            clear hr hj HI HK HO hI8 k8
            go_wp2_with (refine wpList_next rfl _ rfl it rfl hr8 ?_)
            clear hr8
            refine (IndexRune_any (c : Int) _ (by omega) (by omega)).mono ?_
            rintro e w9 ⟨rfl, hw9⟩
            subst hw9
            rw [hc2]
            clear hc2 hc1
            have cm := HK8.out.m.at (i := sg r j) (by rw [msg_len]; exact sg_lt _ _)
            have hsg := sg_lt r j
            have HR := Lib.hid (row_next (msg bs) (r := r) hj16)
            generalize sg r j = sgj at *
            generalize wAt (msg bs) sgj = x at *
            obtain ⟨i0, hi0, hz0, hz1, hz2⟩ := info_parts infoW
            have HLit := Lib.hid (show RowOf (w9.alloc (.cells #[wv x] 32)) (.slice (some ⟨w9.heap.size, 0, none⟩) 1 1) 1 (wvs [x]) from RowOf.lit (cap := 1) (cs := #[wv x]) (kb_new rfl _) rfl)
            have HOl := Lib.hid (HO8.out.alloc (.cells #[wv x] 32))
            have hitw : it < w9.heap.size := kb_lt HI8.out
            go_wp2_with (at_builtin; refine wpList_append_row _ rfl _ _ 71 rfl (it + 1) 32 i0 (.int .u32 0) 4 Tryd.underlying71 hi0 hz0 hz1 hz2 rfl _ _ _ rfl HOl.out _ _ _ rfl HLit.out (wvs_one _) ?c3 ?c4 ?c5 ?_)
            case c3 => unfold maxLen; omega
            case c4 => omega
            case c5 => simp; omega
            intro v10 w10 hown10 hgrow10 _ _
            have k10 : Keep (fun b => it + 1 ≤ b) w9 w10 := ((Keep.refl _ w9).alloc _).grown hgrow10 (fun b _ e => (HO8.out.lt b e).1)
            rw [← wvs_append, ← HR.out] at hown10
            obtain ⟨A15, c15, hu⟩ := owns_slice0 hown10
            subst hu
            have HI10 := Lib.hid (HI8.out.keep k10 (by omega))
            have HK10 := Lib.hid (HK8.out.keepS k10 (fun b hb => by omega))
            have HO10 := Lib.hid hown10
            clear cm hsg HR HLit HOl HI8 HK8 HO8 hown10 hgrow10 k10
            by_cases hjj : j + 1 < 16
            · go_wp2_with fail
              go_roundw
              case rel => exact ⟨q + 1, by omega, HI10, by rw [show (q + 1) / 16 = r by have := HQ.out; omega]; exact HK10, by rw [show (q + 1) / 16 = r by have := HQ.out; omega, show (q + 1) % 16 = j + 1 by have := HQ.out; omega]; exact HO10⟩
              case measure => rw [HP.out, HI10.out.pos]; omega
            · obtain rfl : j = 15 := by omega
              rw [show (15 + 1 : Nat) = 16 from rfl] at HO10 ⊢
              have hO := HO10.out
              rw [List.take_of_length_le (l := rowW (msg bs) r) (by rw [rowW_len]; omega)] at hO
              obtain ⟨g, hA15, hg1, hg2, hRw⟩ := own_w hO (by omega)
              subst hA15
              have hRl := rowW_len (msg bs) r
              have HRW := Lib.hid (show Rw w10 g (rowW (msg bs) r) from hRw)
              have HRD := Lib.hid (show rounds (msg bs) (r + 1) V0 = half2 (rowW (msg bs) r) 4 (half1 (rowW (msg bs) r) 4 (rounds (msg bs) r V0)) from rfl)
              have hVl := rounds_len (msg bs) V0 r
              rw [hv0] at hVl
              clear hO hRw HO10
              generalize rowW (msg bs) r = row at *
              generalize rounds (msg bs) r V0 = V at *
              go_wp2_with fail
              go_loopw [17, 90, 91, 92, 93, 94, 95, 96, 97, 98, 99, 100, 101, 102, 103, 104, 105, 106, 107, 108, 109, 110, 111, 112, 113, 114, 115, 116, 117] (fun _ s90 _ _ _ _ _ _ _ _ _ _ _ _ _ _ _ _ _ _ _ _ _ _ _ _ _ _ _ wr => ∃ n : Nat, n ≤ 4 ∧ s90 = .int .i64 n ∧ Hid (It wr it (q + 1)) ∧ Hid (Bk w wr hb t (pre ++ (wvs h ++ post)) (msg bs) (half1 row n V)) ∧ Hid (Rw wr g row)) (fun _ s90 _ _ _ _ _ _ _ _ _ _ _ _ _ _ _ _ _ _ _ _ _ _ _ _ _ _ _ _ => 4 - (intOf s90).toNat)
              case atStart => exact ⟨0, by omega, rfl, HI10, HK10, HRW⟩
              case round =>
                clear HI10 HK10 HRW
                obtain ⟨n, hn, rfl, HI, HK, HRW⟩ := hrel
                by_cases hn' : n < 4
                · have hVn := half1_len row V n
                  rw [hVl] at hVn
                  have dn : decide ((n : Int) < 4) = true := by simp; omega
                  go_upto_region 26 with fail
                  clear dn
                  have d0 := HRW.out (2 * n) (by omega)
                  have d1 := HRW.out (2 * n + 1) (by omega)
                  have HKd := Lib.hid HK.out.drew.v
                  have HD := Lib.hid (And.intro d0 d1)
                  have f0 : (n : Int) < 16 := by omega
                  have f1 : IntKind.i64.wrap (4 + (n : Int)) = ((4 + n : Nat) : Int) := by rw [IntKind.wrap_i64]; omega
                  have f2 : IntKind.i64.wrap (8 + (n : Int)) = ((8 + n : Nat) : Int) := by rw [IntKind.wrap_i64]; omega
                  have f3 : IntKind.i64.wrap (12 + (n : Int)) = ((12 + n : Nat) : Int) := by rw [IntKind.wrap_i64]; omega
                  have f4 : IntKind.i64.wrap (2 * (n : Int)) = ((2 * n : Nat) : Int) := by rw [IntKind.wrap_i64]; omega
                  have f5 : IntKind.i64.wrap (((2 * n : Nat) : Int) + 1) = ((2 * n + 1 : Nat) : Int) := by rw [IntKind.wrap_i64]; omega
                  obtain ⟨n1, h1⟩ : ∃ m, 4 + n = m := ⟨_, rfl⟩
                  obtain ⟨n2, h2⟩ : ∃ m, 8 + n = m := ⟨_, rfl⟩
                  obtain ⟨n3, h3⟩ : ∃ m, 12 + n = m := ⟨_, rfl⟩
                  obtain ⟨n5, h5⟩ : ∃ m, 2 * n + 1 = m := ⟨_, rfl⟩
                  obtain ⟨n4, h4⟩ : ∃ m, 2 * n = m := ⟨_, rfl⟩
                  rw [h1] at f1
                  rw [h2] at f2
                  rw [h3] at f3
                  rw [h5] at f5 HD
                  rw [h4] at f4 f5 HD
                  have b1 : (n1 : Int) < 16 := by omega
                  have b2 : (n2 : Int) < 16 := by omega
                  have b3 : (n3 : Int) < 16 := by omega
                  have b4 : (n4 : Int) < 16 := by omega
                  have b5 : (n5 : Int) < 16 := by omega
                  have HN := Lib.hid (And.intro h1 (And.intro h2 (And.intro h3 (And.intro h4 h5))))
                  clear d0 d1 h1 h2 h3 h4 h5
                  refine wp_region_held_drew (S := (fun W : World => W.cell? ⟨g, n4, none⟩ = some (wv (wAt row n4)) ∧ W.cell? ⟨g, n5, none⟩ = some (wv (wAt row n5)))) (by kernel_rfl) HD.out (fun hHeld => ?_)
                  refine wpAnyH_take (i := 0) (oi := { dst := some 93, op := _, type := _, pos := _, after := _, guard := _ }) (v := ?_) rfl (by kernel_rfl) (by kernel_rfl) (by kernel_rfl) (fun _ _ _ h => h) (Or.inl ⟨by rfl, ?_⟩) hHeld ?_
                  rotate_left
                  · (intro w hSw; (try dsimp only at hSw); go_simp); all_goals with_reducible rfl
                  try simp only [Act.put, List.setIfInBounds_toArray, List.set_cons_zero, List.set_cons_succ]
                  refine wpAnyH_take (i := 1) (oi := { dst := some 94, op := _, type := _, pos := _, after := _, guard := _ }) (v := ?_) rfl (by kernel_rfl) (by kernel_rfl) (by kernel_rfl) (fun _ _ _ h => h) (Or.inl ⟨by rfl, ?_⟩) hHeld ?_
                  rotate_left
                  · (intro w hSw; (try dsimp only at hSw); go_simp); all_goals with_reducible rfl
                  try simp only [Act.put, List.setIfInBounds_toArray, List.set_cons_zero, List.set_cons_succ]
                  refine wpAnyH_take (i := 2) (oi := { dst := some 95, op := _, type := _, pos := _, after := _, guard := _ }) (v := ?_) rfl (by kernel_rfl) (by kernel_rfl) (by kernel_rfl) (fun _ _ _ h => h) (Or.inl ⟨by rfl, ?_⟩) hHeld ?_
                  rotate_left
                  · (intro w hSw; (try dsimp only at hSw); go_simp); all_goals with_reducible rfl
                  try simp only [Act.put, List.setIfInBounds_toArray, List.set_cons_zero, List.set_cons_succ]
                  refine wpAnyH_take (i := 3) (oi := { dst := some 96, op := _, type := _, pos := _, after := _, guard := _ }) (v := ?_) rfl (by kernel_rfl) (by kernel_rfl) (by kernel_rfl) (fun _ _ _ h => h) (Or.inl ⟨by rfl, ?_⟩) hHeld ?_
                  rotate_left
                  · (intro w hSw; (try dsimp only at hSw); go_simp); all_goals with_reducible rfl
                  try simp only [Act.put, List.setIfInBounds_toArray, List.set_cons_zero, List.set_cons_succ]
                  refine wpAnyH_take (i := 4) (oi := { dst := some 97, op := _, type := _, pos := _, after := _, guard := _ }) (v := ?_) rfl (by kernel_rfl) (by kernel_rfl) (by kernel_rfl) (fun _ _ _ h => h) (Or.inl ⟨by rfl, ?_⟩) hHeld ?_
                  rotate_left
                  · (intro w hSw; (try dsimp only at hSw); go_simp); all_goals with_reducible rfl
                  try simp only [Act.put, List.setIfInBounds_toArray, List.set_cons_zero, List.set_cons_succ]
                  refine wpAnyH_take (i := 5) (oi := { dst := some 98, op := _, type := _, pos := _, after := _, guard := _ }) (v := ?_) rfl (by kernel_rfl) (by kernel_rfl) (by kernel_rfl) (fun _ _ _ h => h) (Or.inl ⟨by rfl, ?_⟩) hHeld ?_
                  rotate_left
                  · (intro w hSw; (try dsimp only at hSw); go_simp); all_goals with_reducible rfl
                  try simp only [Act.put, List.setIfInBounds_toArray, List.set_cons_zero, List.set_cons_succ]
                  refine wpAnyH_take (i := 6) (oi := { dst := some 99, op := _, type := _, pos := _, after := _, guard := _ }) (v := ?_) rfl (by kernel_rfl) (by kernel_rfl) (by kernel_rfl) (fun _ _ _ h => h) (Or.inl ⟨by rfl, ?_⟩) hHeld ?_
                  rotate_left
                  · (intro w hSw; (try dsimp only at hSw); go_simp); all_goals with_reducible rfl
                  try simp only [Act.put, List.setIfInBounds_toArray, List.set_cons_zero, List.set_cons_succ]
                  refine wpAnyH_take (i := 7) (oi := { dst := some 100, op := _, type := _, pos := _, after := _, guard := _ }) (v := ?_) rfl (by kernel_rfl) (by kernel_rfl) (by kernel_rfl) (fun _ _ _ h => h) (Or.inl ⟨by rfl, ?_⟩) hHeld ?_
                  rotate_left
                  · (intro w hSw; (try dsimp only at hSw); go_simp); all_goals with_reducible rfl
                  try simp only [Act.put, List.setIfInBounds_toArray, List.set_cons_zero, List.set_cons_succ]
                  refine wpAnyH_take (i := 8) (oi := { dst := some 101, op := _, type := _, pos := _, after := _, guard := _ }) (v := ?_) rfl (by kernel_rfl) (by kernel_rfl) (by kernel_rfl) (fun _ _ _ h => h) (Or.inl ⟨by rfl, ?_⟩) hHeld ?_
                  rotate_left
                  · (intro w hSw; (try dsimp only at hSw); go_simp); all_goals with_reducible rfl
                  try simp only [Act.put, List.setIfInBounds_toArray, List.set_cons_zero, List.set_cons_succ]
                  refine wpAnyH_take (i := 9) (oi := { dst := some 102, op := _, type := _, pos := _, after := _, guard := _ }) (v := ?_) rfl (by kernel_rfl) (by kernel_rfl) (by kernel_rfl) (fun _ _ _ h => h) (Or.inl ⟨by rfl, ?_⟩) hHeld ?_
                  rotate_left
                  · (intro w hSw; (try dsimp only at hSw); go_simp); all_goals with_reducible rfl
                  try simp only [Act.put, List.setIfInBounds_toArray, List.set_cons_zero, List.set_cons_succ]
                  refine wpAnyH_take (i := 10) (oi := { dst := some 103, op := _, type := _, pos := _, after := _, guard := _ }) (v := ?_) rfl (by kernel_rfl) (by kernel_rfl) (by kernel_rfl) (fun _ _ _ h => h) (Or.inl ⟨by rfl, ?_⟩) hHeld ?_
                  rotate_left
                  · (intro w hSw; (try dsimp only at hSw); go_simp); all_goals with_reducible rfl
                  try simp only [Act.put, List.setIfInBounds_toArray, List.set_cons_zero, List.set_cons_succ]
                  refine wpAnyH_take (i := 11) (oi := { dst := some 104, op := _, type := _, pos := _, after := _, guard := _ }) (v := ?_) rfl (by kernel_rfl) (by kernel_rfl) (by kernel_rfl) (fun _ _ _ h => h) (Or.inl ⟨by rfl, ?_⟩) hHeld ?_
                  rotate_left
                  · (intro w hSw; (try dsimp only at hSw); go_simp); all_goals with_reducible rfl
                  try simp only [Act.put, List.setIfInBounds_toArray, List.set_cons_zero, List.set_cons_succ]
                  refine wpAnyH_take (i := 12) (oi := { dst := some 105, op := _, type := _, pos := _, after := _, guard := _ }) (v := ?_) rfl (by kernel_rfl) (by kernel_rfl) (by kernel_rfl) (fun _ _ _ h => h) (Or.inl ⟨by rfl, ?_⟩) hHeld ?_
                  rotate_left
                  · (intro w hSw; (try dsimp only at hSw); go_simp); all_goals with_reducible rfl
                  try simp only [Act.put, List.setIfInBounds_toArray, List.set_cons_zero, List.set_cons_succ]
                  refine wpAnyH_take (i := 13) (oi := { dst := some 106, op := _, type := _, pos := _, after := _, guard := _ }) (v := ?_) rfl (by kernel_rfl) (by kernel_rfl) (by kernel_rfl) (fun _ _ _ h => h) (Or.inl ⟨by rfl, ?_⟩) hHeld ?_
                  rotate_left
                  · (intro w hSw; (try dsimp only at hSw); go_simp); all_goals with_reducible rfl
                  try simp only [Act.put, List.setIfInBounds_toArray, List.set_cons_zero, List.set_cons_succ]
                  refine wpAnyH_take (i := 14) (oi := { dst := some 107, op := _, type := _, pos := _, after := _, guard := _ }) (v := ?_) rfl (by kernel_rfl) (by kernel_rfl) (by kernel_rfl) (fun _ _ _ h => h) (Or.inl ⟨by rfl, ?_⟩) hHeld ?_
                  rotate_left
                  · (intro w hSw; (try dsimp only at hSw); go_simp); all_goals with_reducible rfl
                  try simp only [Act.put, List.setIfInBounds_toArray, List.set_cons_zero, List.set_cons_succ]
                  refine wpAnyH_take (i := 15) (oi := { dst := some 108, op := _, type := _, pos := _, after := _, guard := _ }) (v := ?_) rfl (by kernel_rfl) (by kernel_rfl) (by kernel_rfl) (fun _ _ _ h => h) (Or.inl ⟨by rfl, ?_⟩) hHeld ?_
                  rotate_left
                  · (intro w hSw; (try dsimp only at hSw); go_simp); all_goals with_reducible rfl
                  try simp only [Act.put, List.setIfInBounds_toArray, List.set_cons_zero, List.set_cons_succ]
                  refine wpAnyH_take (i := 16) (oi := { dst := some 109, op := _, type := _, pos := _, after := _, guard := _ }) (v := ?_) rfl (by kernel_rfl) (by kernel_rfl) (by kernel_rfl) (fun _ _ _ h => h) (Or.inl ⟨by rfl, ?_⟩) hHeld ?_
                  rotate_left
                  · (intro w hSw; (try dsimp only at hSw); go_simp); all_goals with_reducible rfl
                  try simp only [Act.put, List.setIfInBounds_toArray, List.set_cons_zero, List.set_cons_succ]
                  refine wpAnyH_take (i := 17) (oi := { dst := some 110, op := _, type := _, pos := _, after := _, guard := _ }) (v := ?_) rfl (by kernel_rfl) (by kernel_rfl) (by kernel_rfl) (fun _ _ _ h => h) (Or.inl ⟨by rfl, ?_⟩) hHeld ?_
                  rotate_left
                  · (intro w hSw; (try dsimp only at hSw); go_simp); all_goals with_reducible rfl
                  try simp only [Act.put, List.setIfInBounds_toArray, List.set_cons_zero, List.set_cons_succ]
                  refine wpAnyH_take (i := 18) (oi := { dst := some 111, op := _, type := _, pos := _, after := _, guard := _ }) (v := ?_) rfl (by kernel_rfl) (by kernel_rfl) (by kernel_rfl) (fun _ _ _ h => h) (Or.inl ⟨by rfl, ?_⟩) hHeld ?_
                  rotate_left
                  · (intro w hSw; (try dsimp only at hSw); go_simp); all_goals with_reducible rfl
                  try simp only [Act.put, List.setIfInBounds_toArray, List.set_cons_zero, List.set_cons_succ]
                  refine wpAnyH_take (i := 19) (oi := { dst := some 112, op := _, type := _, pos := _, after := _, guard := _ }) (v := ?_) rfl (by kernel_rfl) (by kernel_rfl) (by kernel_rfl) (fun _ _ _ h => h) (Or.inl ⟨by rfl, ?_⟩) hHeld ?_
                  rotate_left
                  · (intro w hSw; (try dsimp only at hSw); go_simp); all_goals with_reducible rfl
                  try simp only [Act.put, List.setIfInBounds_toArray, List.set_cons_zero, List.set_cons_succ]
                  refine wpAnyH_take (i := 20) (oi := { dst := some 113, op := _, type := _, pos := _, after := _, guard := _ }) (v := ?_) rfl (by kernel_rfl) (by kernel_rfl) (by kernel_rfl) (fun _ _ _ h => h) (Or.inl ⟨by rfl, ?_⟩) hHeld ?_
                  rotate_left
                  · (intro w hSw; (try dsimp only at hSw); go_simp); all_goals with_reducible rfl
                  try simp only [Act.put, List.setIfInBounds_toArray, List.set_cons_zero, List.set_cons_succ]
                  refine wpAnyH_take (i := 21) (oi := { dst := some 114, op := _, type := _, pos := _, after := _, guard := _ }) (v := ?_) rfl (by kernel_rfl) (by kernel_rfl) (by kernel_rfl) (fun _ _ _ h => h) (Or.inl ⟨by rfl, ?_⟩) hHeld ?_
                  rotate_left
                  · (intro w hSw; (try dsimp only at hSw); go_simp); all_goals with_reducible rfl
                  try simp only [Act.put, List.setIfInBounds_toArray, List.set_cons_zero, List.set_cons_succ]
                  refine wpAnyH_take (i := 22) (oi := { dst := some 115, op := _, type := _, pos := _, after := _, guard := _ }) (v := ?_) rfl (by kernel_rfl) (by kernel_rfl) (by kernel_rfl) (fun _ _ _ h => h) (Or.inl ⟨by rfl, ?_⟩) hHeld ?_
                  rotate_left
                  · (intro w hSw; (try dsimp only at hSw); go_simp); all_goals with_reducible rfl
                  try simp only [Act.put, List.setIfInBounds_toArray, List.set_cons_zero, List.set_cons_succ]
                  refine wpAnyH_ready (rs := [23]) (by kernel_rfl) (by simp) (AllReadyH.cons (o := _) rfl (fun K hK => ?_) AllReadyH.nil)
                  go_simp
                  clear f1 f2 f3 f4 f5
                  refine (mix_any (i := n) (j := n1) (k := n2) (l := n3) _ _ HKd.out (by omega) (by omega) (by omega) (by omega)).mono ?_
                  rintro e w11 ⟨rfl, hm⟩
                  have HM := Lib.hid hm
                  have HR2 := Lib.hid (Rw.keep (w := wr.drew) HRW.out HM.out.2 (by omega))
                  refine hK.out _ _ ⟨HR2.out _ (by omega), HR2.out _ (by omega)⟩ (fun hHeld => ?_)
                  refine wpAnyH_done (by kernel_rfl) ?_ _
                  clear hHeld hK K hm b1 b2 b3 b4 b5 f0
                  have HI2 := Lib.hid (It.keep (w := wr.drew) HI.out HM.out.2 (by omega))
                  have HK2 : Hid (Bk w w11 hb t (pre ++ (wvs h ++ post)) (msg bs) (half1 row (n + 1) V)) := Lib.hid (by
                    obtain ⟨q1, q2, q3, q4, q5⟩ := HN.out
                    subst q1 q2 q3 q5
                    subst q4
                    exact HK.out.drew.setv HM.out.1 HM.out.2)
                  clear HI HK HRW HM HKd HD HN
                  go_wp2_with fail
                  go_roundw
                  case rel => exact ⟨n + 1, by omega, by go_num, HI2, HK2, HR2⟩
                  case measure => simp [intOf]; omega
                · obtain rfl : n = 4 := by omega
                  go_wp2_with fail
                  have hVl1 := half1_len row V 4
                  rw [hVl] at hVl1
                  generalize half1 row 4 V = V1 at *
                  go_loopw [18, 118, 119, 120, 121, 122, 123, 124, 125, 126, 127, 128, 129, 130, 131, 132, 133, 134, 135, 136, 137, 138, 139, 140, 141, 142, 143, 144, 145, 146, 147, 148, 149, 150, 151, 152] (fun _ s118 _ _ _ _ _ _ _ _ _ _ _ _ _ _ _ _ _ _ _ _ _ _ _ _ _ _ _ _ _ _ _ _ _ _ wr => ∃ n : Nat, n ≤ 4 ∧ s118 = .int .i64 n ∧ Hid (It wr it (q + 1)) ∧ Hid (Bk w wr hb t (pre ++ (wvs h ++ post)) (msg bs) (half2 row n V1)) ∧ Hid (Rw wr g row)) (fun _ s118 _ _ _ _ _ _ _ _ _ _ _ _ _ _ _ _ _ _ _ _ _ _ _ _ _ _ _ _ _ _ _ _ _ _ _ => 4 - (intOf s118).toNat)
                  case atStart => exact ⟨0, by omega, rfl, HI, HK, HRW⟩
                  case round =>
                    clear HI HK HRW hVl
                    obtain ⟨n, hn, rfl, HI, HK, HRW⟩ := hrel
                    by_cases hn' : n < 4
                    · have hVn := half2_len row V1 n
                      rw [hVl1] at hVn
                      have dn : decide ((n : Int) < 4) = true := by simp; omega
                      go_upto_region 31 with fail
                      clear dn
                      have HKd := Lib.hid HK.out.drew.v
                      obtain ⟨m1, m2, m3, a1, a2, a3, n1, n2, n3, nn, n4, n5, hI5⟩ := ix5 hn'
                      obtain ⟨f0, f1, f2, f3, f4, f5, f6, e4, e5, e6, f7, f8, f9, g1, g2, g3, b1, b2, b3, b4, b5, l0, l1, l2, l3, l4, l5, hq⟩ := hI5
                      have HLn := Lib.hid (And.intro l0 (And.intro l1 (And.intro l2 (And.intro l3 (And.intro l4 l5)))))
                      have HD := Lib.hid (And.intro (HRW.out n4 l4) (HRW.out n5 l5))
                      have HN := Lib.hid hq
                      clear hq l0 l1 l2 l3 l4 l5
                      refine wp_region_held_drew (S := (fun W : World => W.cell? ⟨g, n4, none⟩ = some (wv (wAt row n4)) ∧ W.cell? ⟨g, n5, none⟩ = some (wv (wAt row n5)))) (by kernel_rfl) HD.out (fun hHeld => ?_)
                      refine wpAnyH_take (i := 0) (oi := { dst := some 121, op := _, type := _, pos := _, after := _, guard := _ }) (v := ?_) rfl (by kernel_rfl) (by kernel_rfl) (by kernel_rfl) (fun _ _ _ h => h) (Or.inl ⟨by rfl, ?_⟩) hHeld ?_
                      rotate_left
                      · (intro w hSw; (try dsimp only at hSw); go_simp); all_goals with_reducible rfl
                      try simp only [Act.put, List.setIfInBounds_toArray, List.set_cons_zero, List.set_cons_succ]
                      refine wpAnyH_take (i := 1) (oi := { dst := some 122, op := _, type := _, pos := _, after := _, guard := _ }) (v := ?_) rfl (by kernel_rfl) (by kernel_rfl) (by kernel_rfl) (fun _ _ _ h => h) (Or.inl ⟨by rfl, ?_⟩) hHeld ?_
                      rotate_left
                      · (intro w hSw; (try dsimp only at hSw); go_simp); all_goals with_reducible rfl
                      try simp only [Act.put, List.setIfInBounds_toArray, List.set_cons_zero, List.set_cons_succ]
                      refine wpAnyH_take (i := 2) (oi := { dst := some 123, op := _, type := _, pos := _, after := _, guard := _ }) (v := ?_) rfl (by kernel_rfl) (by kernel_rfl) (by kernel_rfl) (fun _ _ _ h => h) (Or.inl ⟨by rfl, ?_⟩) hHeld ?_
                      rotate_left
                      · (intro w hSw; (try dsimp only at hSw); go_simp); all_goals with_reducible rfl
                      try simp only [Act.put, List.setIfInBounds_toArray, List.set_cons_zero, List.set_cons_succ]
                      refine wpAnyH_take (i := 3) (oi := { dst := some 124, op := _, type := _, pos := _, after := _, guard := _ }) (v := ?_) rfl (by kernel_rfl) (by kernel_rfl) (by kernel_rfl) (fun _ _ _ h => h) (Or.inl ⟨by rfl, ?_⟩) hHeld ?_
                      rotate_left
                      · (intro w hSw; (try dsimp only at hSw); go_simp); all_goals with_reducible rfl
                      try simp only [Act.put, List.setIfInBounds_toArray, List.set_cons_zero, List.set_cons_succ]
                      refine wpAnyH_take (i := 4) (oi := { dst := some 125, op := _, type := _, pos := _, after := _, guard := _ }) (v := ?_) rfl (by kernel_rfl) (by kernel_rfl) (by kernel_rfl) (fun _ _ _ h => h) (Or.inl ⟨by rfl, ?_⟩) hHeld ?_
                      rotate_left
                      · (intro w hSw; (try dsimp only at hSw); go_simp); all_goals with_reducible rfl
                      try simp only [Act.put, List.setIfInBounds_toArray, List.set_cons_zero, List.set_cons_succ]
                      refine wpAnyH_take (i := 5) (oi := { dst := some 126, op := _, type := _, pos := _, after := _, guard := _ }) (v := ?_) rfl (by kernel_rfl) (by kernel_rfl) (by kernel_rfl) (fun _ _ _ h => h) (Or.inl ⟨by rfl, ?_⟩) hHeld ?_
                      rotate_left
                      · (intro w hSw; (try dsimp only at hSw); go_simp); all_goals with_reducible rfl
                      try simp only [Act.put, List.setIfInBounds_toArray, List.set_cons_zero, List.set_cons_succ]
                      refine wpAnyH_take (i := 6) (oi := { dst := some 127, op := _, type := _, pos := _, after := _, guard := _ }) (v := ?_) rfl (by kernel_rfl) (by kernel_rfl) (by kernel_rfl) (fun _ _ _ h => h) (Or.inl ⟨by rfl, ?_⟩) hHeld ?_
                      rotate_left
                      · (intro w hSw; (try dsimp only at hSw); go_simp); all_goals with_reducible rfl
                      try simp only [Act.put, List.setIfInBounds_toArray, List.set_cons_zero, List.set_cons_succ]
                      refine wpAnyH_take (i := 7) (oi := { dst := some 128, op := _, type := _, pos := _, after := _, guard := _ }) (v := ?_) rfl (by kernel_rfl) (by kernel_rfl) (by kernel_rfl) (fun _ _ _ h => h) (Or.inl ⟨by rfl, ?_⟩) hHeld ?_
                      rotate_left
                      · (intro w hSw; (try dsimp only at hSw); go_simp); all_goals with_reducible rfl
                      try simp only [Act.put, List.setIfInBounds_toArray, List.set_cons_zero, List.set_cons_succ]
                      refine wpAnyH_take (i := 8) (oi := { dst := some 129, op := _, type := _, pos := _, after := _, guard := _ }) (v := ?_) rfl (by kernel_rfl) (by kernel_rfl) (by kernel_rfl) (fun _ _ _ h => h) (Or.inl ⟨by rfl, ?_⟩) hHeld ?_
                      rotate_left
                      · (intro w hSw; (try dsimp only at hSw); go_simp); all_goals with_reducible rfl
                      try simp only [Act.put, List.setIfInBounds_toArray, List.set_cons_zero, List.set_cons_succ]
                      refine wpAnyH_take (i := 9) (oi := { dst := some 130, op := _, type := _, pos := _, after := _, guard := _ }) (v := ?_) rfl (by kernel_rfl) (by kernel_rfl) (by kernel_rfl) (fun _ _ _ h => h) (Or.inl ⟨by rfl, ?_⟩) hHeld ?_
                      rotate_left
                      · (intro w hSw; (try dsimp only at hSw); go_simp); all_goals with_reducible rfl
                      try simp only [Act.put, List.setIfInBounds_toArray, List.set_cons_zero, List.set_cons_succ]
                      refine wpAnyH_take (i := 10) (oi := { dst := some 131, op := _, type := _, pos := _, after := _, guard := _ }) (v := ?_) rfl (by kernel_rfl) (by kernel_rfl) (by kernel_rfl) (fun _ _ _ h => h) (Or.inl ⟨by rfl, ?_⟩) hHeld ?_
                      rotate_left
                      · (intro w hSw; (try dsimp only at hSw); go_simp); all_goals with_reducible rfl
                      try simp only [Act.put, List.setIfInBounds_toArray, List.set_cons_zero, List.set_cons_succ]
                      refine wpAnyH_take (i := 11) (oi := { dst := some 132, op := _, type := _, pos := _, after := _, guard := _ }) (v := ?_) rfl (by kernel_rfl) (by kernel_rfl) (by kernel_rfl) (fun _ _ _ h => h) (Or.inl ⟨by rfl, ?_⟩) hHeld ?_
                      rotate_left
                      · (intro w hSw; (try dsimp only at hSw); go_simp); all_goals with_reducible rfl
                      try simp only [Act.put, List.setIfInBounds_toArray, List.set_cons_zero, List.set_cons_succ]
                      refine wpAnyH_take (i := 12) (oi := { dst := some 133, op := _, type := _, pos := _, after := _, guard := _ }) (v := ?_) rfl (by kernel_rfl) (by kernel_rfl) (by kernel_rfl) (fun _ _ _ h => h) (Or.inl ⟨by rfl, ?_⟩) hHeld ?_
                      rotate_left
                      · (intro w hSw; (try dsimp only at hSw); go_simp); all_goals with_reducible rfl
                      try simp only [Act.put, List.setIfInBounds_toArray, List.set_cons_zero, List.set_cons_succ]
                      refine wpAnyH_take (i := 13) (oi := { dst := some 134, op := _, type := _, pos := _, after := _, guard := _ }) (v := ?_) rfl (by kernel_rfl) (by kernel_rfl) (by kernel_rfl) (fun _ _ _ h => h) (Or.inl ⟨by rfl, ?_⟩) hHeld ?_
                      rotate_left
                      · (intro w hSw; (try dsimp only at hSw); go_simp); all_goals with_reducible rfl
                      try simp only [Act.put, List.setIfInBounds_toArray, List.set_cons_zero, List.set_cons_succ]
                      refine wpAnyH_take (i := 14) (oi := { dst := some 135, op := _, type := _, pos := _, after := _, guard := _ }) (v := ?_) rfl (by kernel_rfl) (by kernel_rfl) (by kernel_rfl) (fun _ _ _ h => h) (Or.inl ⟨by rfl, ?_⟩) hHeld ?_
                      rotate_left
                      · (intro w hSw; (try dsimp only at hSw); go_simp); all_goals with_reducible rfl
                      try simp only [Act.put, List.setIfInBounds_toArray, List.set_cons_zero, List.set_cons_succ]
                      refine wpAnyH_take (i := 15) (oi := { dst := some 136, op := _, type := _, pos := _, after := _, guard := _ }) (v := ?_) rfl (by kernel_rfl) (by kernel_rfl) (by kernel_rfl) (fun _ _ _ h => h) (Or.inl ⟨by rfl, ?_⟩) hHeld ?_
                      rotate_left
                      · (intro w hSw; (try dsimp only at hSw); go_simp); all_goals with_reducible rfl
                      try simp only [Act.put, List.setIfInBounds_toArray, List.set_cons_zero, List.set_cons_succ]
                      refine wpAnyH_take (i := 16) (oi := { dst := some 137, op := _, type := _, pos := _, after := _, guard := _ }) (v := ?_) rfl (by kernel_rfl) (by kernel_rfl) (by kernel_rfl) (fun _ _ _ h => h) (Or.inl ⟨by rfl, ?_⟩) hHeld ?_
                      rotate_left
                      · (intro w hSw; (try dsimp only at hSw); go_simp); all_goals with_reducible rfl
                      try simp only [Act.put, List.setIfInBounds_toArray, List.set_cons_zero, List.set_cons_succ]
                      refine wpAnyH_take (i := 17) (oi := { dst := some 138, op := _, type := _, pos := _, after := _, guard := _ }) (v := ?_) rfl (by kernel_rfl) (by kernel_rfl) (by kernel_rfl) (fun _ _ _ h => h) (Or.inl ⟨by rfl, ?_⟩) hHeld ?_
                      rotate_left
                      · (intro w hSw; (try dsimp only at hSw); go_simp); all_goals with_reducible rfl
                      try simp only [Act.put, List.setIfInBounds_toArray, List.set_cons_zero, List.set_cons_succ]
                      refine wpAnyH_take (i := 18) (oi := { dst := some 139, op := _, type := _, pos := _, after := _, guard := _ }) (v := ?_) rfl (by kernel_rfl) (by kernel_rfl) (by kernel_rfl) (fun _ _ _ h => h) (Or.inl ⟨by rfl, ?_⟩) hHeld ?_
                      rotate_left
                      · (intro w hSw; (try dsimp only at hSw); go_simp); all_goals with_reducible rfl
                      try simp only [Act.put, List.setIfInBounds_toArray, List.set_cons_zero, List.set_cons_succ]
                      refine wpAnyH_take (i := 19) (oi := { dst := some 140, op := _, type := _, pos := _, after := _, guard := _ }) (v := ?_) rfl (by kernel_rfl) (by kernel_rfl) (by kernel_rfl) (fun _ _ _ h => h) (Or.inl ⟨by rfl, ?_⟩) hHeld ?_
                      rotate_left
                      · (intro w hSw; (try dsimp only at hSw); go_simp); all_goals with_reducible rfl
                      try simp only [Act.put, List.setIfInBounds_toArray, List.set_cons_zero, List.set_cons_succ]
                      refine wpAnyH_take (i := 20) (oi := { dst := some 141, op := _, type := _, pos := _, after := _, guard := _ }) (v := ?_) rfl (by kernel_rfl) (by kernel_rfl) (by kernel_rfl) (fun _ _ _ h => h) (Or.inl ⟨by rfl, ?_⟩) hHeld ?_
                      rotate_left
                      · (intro w hSw; (try dsimp only at hSw); go_simp); all_goals with_reducible rfl
                      try simp only [Act.put, List.setIfInBounds_toArray, List.set_cons_zero, List.set_cons_succ]
                      refine wpAnyH_take (i := 21) (oi := { dst := some 142, op := _, type := _, pos := _, after := _, guard := _ }) (v := ?_) rfl (by kernel_rfl) (by kernel_rfl) (by kernel_rfl) (fun _ _ _ h => h) (Or.inl ⟨by rfl, ?_⟩) hHeld ?_
                      rotate_left
                      · (intro w hSw; (try dsimp only at hSw); go_simp); all_goals with_reducible rfl
                      try simp only [Act.put, List.setIfInBounds_toArray, List.set_cons_zero, List.set_cons_succ]
                      refine wpAnyH_take (i := 22) (oi := { dst := some 143, op := _, type := _, pos := _, after := _, guard := _ }) (v := ?_) rfl (by kernel_rfl) (by kernel_rfl) (by kernel_rfl) (fun _ _ _ h => h) (Or.inl ⟨by rfl, ?_⟩) hHeld ?_
                      rotate_left
                      · (intro w hSw; (try dsimp only at hSw); go_simp); all_goals with_reducible rfl
                      try simp only [Act.put, List.setIfInBounds_toArray, List.set_cons_zero, List.set_cons_succ]
                      refine wpAnyH_take (i := 23) (oi := { dst := some 144, op := _, type := _, pos := _, after := _, guard := _ }) (v := ?_) rfl (by kernel_rfl) (by kernel_rfl) (by kernel_rfl) (fun _ _ _ h => h) (Or.inl ⟨by rfl, ?_⟩) hHeld ?_
                      rotate_left
                      · (intro w hSw; (try dsimp only at hSw); go_simp); all_goals with_reducible rfl
                      try simp only [Act.put, List.setIfInBounds_toArray, List.set_cons_zero, List.set_cons_succ]
                      refine wpAnyH_take (i := 24) (oi := { dst := some 145, op := _, type := _, pos := _, after := _, guard := _ }) (v := ?_) rfl (by kernel_rfl) (by kernel_rfl) (by kernel_rfl) (fun _ _ _ h => h) (Or.inl ⟨by rfl, ?_⟩) hHeld ?_
                      rotate_left
                      · (intro w hSw; (try dsimp only at hSw); go_simp); all_goals with_reducible rfl
                      try simp only [Act.put, List.setIfInBounds_toArray, List.set_cons_zero, List.set_cons_succ]
                      refine wpAnyH_take (i := 25) (oi := { dst := some 146, op := _, type := _, pos := _, after := _, guard := _ }) (v := ?_) rfl (by kernel_rfl) (by kernel_rfl) (by kernel_rfl) (fun _ _ _ h => h) (Or.inl ⟨by rfl, ?_⟩) hHeld ?_
                      rotate_left
                      · (intro w hSw; (try dsimp only at hSw); go_simp); all_goals with_reducible rfl
                      try simp only [Act.put, List.setIfInBounds_toArray, List.set_cons_zero, List.set_cons_succ]
                      refine wpAnyH_take (i := 26) (oi := { dst := some 147, op := _, type := _, pos := _, after := _, guard := _ }) (v := ?_) rfl (by kernel_rfl) (by kernel_rfl) (by kernel_rfl) (fun _ _ _ h => h) (Or.inl ⟨by rfl, ?_⟩) hHeld ?_
                      rotate_left
                      · (intro w hSw; (try dsimp only at hSw); go_simp); all_goals with_reducible rfl
                      try simp only [Act.put, List.setIfInBounds_toArray, List.set_cons_zero, List.set_cons_succ]
                      refine wpAnyH_take (i := 27) (oi := { dst := some 148, op := _, type := _, pos := _, after := _, guard := _ }) (v := ?_) rfl (by kernel_rfl) (by kernel_rfl) (by kernel_rfl) (fun _ _ _ h => h) (Or.inl ⟨by rfl, ?_⟩) hHeld ?_
                      rotate_left
                      · (intro w hSw; (try dsimp only at hSw); go_simp); all_goals with_reducible rfl
                      try simp only [Act.put, List.setIfInBounds_toArray, List.set_cons_zero, List.set_cons_succ]
                      refine wpAnyH_take (i := 28) (oi := { dst := some 149, op := _, type := _, pos := _, after := _, guard := _ }) (v := ?_) rfl (by kernel_rfl) (by kernel_rfl) (by kernel_rfl) (fun _ _ _ h => h) (Or.inl ⟨by rfl, ?_⟩) hHeld ?_
                      rotate_left
                      · (intro w hSw; (try dsimp only at hSw); go_simp); all_goals with_reducible rfl
                      try simp only [Act.put, List.setIfInBounds_toArray, List.set_cons_zero, List.set_cons_succ]
                      refine wpAnyH_take (i := 29) (oi := { dst := some 150, op := _, type := _, pos := _, after := _, guard := _ }) (v := ?_) rfl (by kernel_rfl) (by kernel_rfl) (by kernel_rfl) (fun _ _ _ h => h) (Or.inl ⟨by rfl, ?_⟩) hHeld ?_
                      rotate_left
                      · (intro w hSw; (try dsimp only at hSw); go_simp); all_goals with_reducible rfl
                      try simp only [Act.put, List.setIfInBounds_toArray, List.set_cons_zero, List.set_cons_succ]
                      refine wpAnyH_ready (rs := [30]) (by kernel_rfl) (by simp) (AllReadyH.cons (o := _) rfl (fun K hK => ?_) AllReadyH.nil)
                      go_simp
                      clear f1 f2 f3 f4 f5 f6 f7 f8 f9 e4 e5 e6 g1 g2 g3
                      refine (mix_any (i := n) (j := n1) (k := n2) (l := n3) _ _ HKd.out (by rw [hVn]; exact HLn.out.1) (by rw [hVn]; exact HLn.out.2.1) (by rw [hVn]; exact HLn.out.2.2.1) (by rw [hVn]; exact HLn.out.2.2.2.1)).mono ?_
                      rintro e w11 ⟨rfl, hm⟩
                      have HM := Lib.hid hm
                      have HR2 := Lib.hid (Rw.keep (w := wr.drew) HRW.out HM.out.2 (by omega))
                      refine hK.out _ _ ⟨HR2.out _ HLn.out.2.2.2.2.1, HR2.out _ HLn.out.2.2.2.2.2⟩ (fun hHeld => ?_)
                      refine wpAnyH_done (by kernel_rfl) ?_ _
                      clear hHeld hK K hm b1 b2 b3 b4 b5 f0
                      have HI2 := Lib.hid (It.keep (w := wr.drew) HI.out HM.out.2 (by omega))
                      have HK2 : Hid (Bk w w11 hb t (pre ++ (wvs h ++ post)) (msg bs) (half2 row (n + 1) V1)) := Lib.hid (by
                        obtain ⟨q1, q2, q3, q4, q5⟩ := HN.out
                        have := HK.out.drew.setv HM.out.1 HM.out.2
                        rw [← q1, ← q2, ← q3, ← q4, ← q5] at this
                        exact this)
                      clear HI HK HRW HM HKd HD HN
                      go_wp2_with fail
                      refine ⟨?_, ?measure⟩
                      (repeat apply Exists.intro)
                      refine ⟨?rel, rfl⟩
                      case rel => exact ⟨n + 1, by omega, by go_num, HI2, HK2, HR2⟩
                      case measure => simp [intOf]; omega
                    · obtain rfl : n = 4 := by omega
                      go_wp2_with fail
                      go_roundw
                      case rel => exact ⟨q + 1, by omega, HI, by rw [show (q + 1) / 16 = r + 1 by have := HQ.out; omega, HRD.out]; exact HK, by rw [show (q + 1) % 16 = 0 by have := HQ.out; omega]; exact Lib.hid (World.ownsRow_nil _ _ _ _)⟩
                      case measure => rw [HP.out, HI.out.pos]; omega
          · obtain rfl : q = 160 := by omega
            go_wp2_with (refine wpList_next rfl _ rfl it rfl HI.out.stop ?_)
            have HB0 := Lib.hid (Bo.of (show Bk w wr hb t (pre ++ (wvs h ++ post)) (msg bs) (rounds (msg bs) 10 V0) from HK.out) hl)
            have hVr := rounds_len (msg bs) V0 10
            rw [hv0] at hVr
            have HR := Lib.hid (show blockP h bs many last = outW h (rounds (msg bs) 10 V0) by rw [← HV0.out]; rfl)
            clear HI HK HO
            generalize rounds (msg bs) 10 V0 = V at *
            go_wp2_with fail
            go_loopw [19, 153, 154, 155, 156, 157, 158, 159, 160, 161, 162, 163, 164, 165, 166, 167, 168, 169, 170, 171, 172] (fun _ s153 _ _ _ _ _ _ _ _ _ _ _ _ _ _ _ _ _ _ _ wr => ∃ i : Nat, i ≤ 8 ∧ s153 = .int .i64 i ∧ Hid (Bo w wr hb t pre post V h i)) (fun _ s153 _ _ _ _ _ _ _ _ _ _ _ _ _ _ _ _ _ _ _ _ => 8 - (intOf s153).toNat)
            case atStart => exact ⟨0, by omega, rfl, HB0⟩
            case round =>
              clear HB0
              obtain ⟨i, hi, rfl, HB⟩ := hrel
              by_cases hi' : i < 8
              · have dn : decide ((i : Int) < 8) = true := by simp; omega
                go_upto_region 37 with fail
                clear dn
                have c0 := HB.out.at hi'
                have z0 := kb_frozen HB.out.hh (pre.length + i)
                have v1 := HB.out.v.at (i := i) (by omega)
                have v2 := HB.out.v.at (i := i + 8) (by omega)
                have f0 : (i : Int) < 8 := by omega
                have f1 : (i : Int) < 16 := by omega
                have f2 : IntKind.i64.wrap ((i : Int) + 8) = ((i + 8 : Nat) : Int) := by rw [IntKind.wrap_i64]; omega
                have f3 : ((i + 8 : Nat) : Int) < 16 := by omega
                have HN := Lib.hid (HB.out.next hi')
                have hne : w.heap.size + 1 ≠ hb := by omega
                obtain ⟨i8, hi8⟩ : ∃ m, i + 8 = m := ⟨_, rfl⟩
                rw [hi8] at v2 f2 f3 HN
                clear hi8
                refine wp_region_held_drew (S := (fun W : World => W.cell? ⟨w.heap.size + 1, i, none⟩ = some (wv (wAt V i)) ∧ W.cell? ⟨w.heap.size + 1, i8, none⟩ = some (wv (wAt V i8)))) (by kernel_rfl) ⟨v1, v2⟩ (fun hHeld => ?_)
                refine wpAnyH_take (i := 0) (oi := { dst := some 156, op := _, type := _, pos := _, after := _, guard := _ }) (v := ?_) rfl (by kernel_rfl) (by kernel_rfl) (by kernel_rfl) (fun _ _ _ h => h) (Or.inl ⟨by rfl, ?_⟩) hHeld ?_
                rotate_left
                · (intro w hSw; (try dsimp only at hSw); go_simp); all_goals with_reducible rfl
                try simp only [Act.put, List.setIfInBounds_toArray, List.set_cons_zero, List.set_cons_succ]
                refine wpAnyH_take (i := 1) (oi := { dst := some 157, op := _, type := _, pos := _, after := _, guard := _ }) (v := ?_) rfl (by kernel_rfl) (by kernel_rfl) (by kernel_rfl) (fun _ _ _ h => h) (Or.inl ⟨by rfl, ?_⟩) hHeld ?_
                rotate_left
                · (intro w hSw; (try dsimp only at hSw); go_simp); all_goals with_reducible rfl
                try simp only [Act.put, List.setIfInBounds_toArray, List.set_cons_zero, List.set_cons_succ]
                refine wpAnyH_take (i := 2) (oi := { dst := some 158, op := _, type := _, pos := _, after := _, guard := _ }) (v := ?_) rfl (by kernel_rfl) (by kernel_rfl) (by kernel_rfl) (fun _ _ _ h => h) (Or.inl ⟨by rfl, ?_⟩) hHeld ?_
                rotate_left
                · (intro w hSw; (try dsimp only at hSw); go_simp); all_goals with_reducible rfl
                try simp only [Act.put, List.setIfInBounds_toArray, List.set_cons_zero, List.set_cons_succ]
                refine wpAnyH_take (i := 3) (oi := { dst := some 159, op := _, type := _, pos := _, after := _, guard := _ }) (v := ?_) rfl (by kernel_rfl) (by kernel_rfl) (by kernel_rfl) (fun _ _ _ h => h) (Or.inl ⟨by rfl, ?_⟩) hHeld ?_
                rotate_left
                · (intro w hSw; (try dsimp only at hSw); go_simp); all_goals with_reducible rfl
                try simp only [Act.put, List.setIfInBounds_toArray, List.set_cons_zero, List.set_cons_succ]
                refine wpAnyH_take (i := 5) (oi := { dst := some 161, op := _, type := _, pos := _, after := _, guard := _ }) (v := ?_) rfl (by kernel_rfl) (by kernel_rfl) (by kernel_rfl) (fun _ _ _ h => h) (Or.inl ⟨by rfl, ?_⟩) hHeld ?_
                rotate_left
                · (intro w hSw; (try dsimp only at hSw); go_simp); all_goals with_reducible rfl
                try simp only [Act.put, List.setIfInBounds_toArray, List.set_cons_zero, List.set_cons_succ]
                refine wpAnyH_take (i := 6) (oi := { dst := some 162, op := _, type := _, pos := _, after := _, guard := _ }) (v := ?_) rfl (by kernel_rfl) (by kernel_rfl) (by kernel_rfl) (fun _ _ _ h => h) (Or.inl ⟨by rfl, ?_⟩) hHeld ?_
                rotate_left
                · (intro w hSw; (try dsimp only at hSw); go_simp); all_goals with_reducible rfl
                try simp only [Act.put, List.setIfInBounds_toArray, List.set_cons_zero, List.set_cons_succ]
                refine wpAnyH_take (i := 7) (oi := { dst := some 163, op := _, type := _, pos := _, after := _, guard := _ }) (v := ?_) rfl (by kernel_rfl) (by kernel_rfl) (by kernel_rfl) (fun _ _ _ h => h) (Or.inl ⟨by rfl, ?_⟩) hHeld ?_
                rotate_left
                · (intro w hSw; (try dsimp only at hSw); go_simp); all_goals with_reducible rfl
                try simp only [Act.put, List.setIfInBounds_toArray, List.set_cons_zero, List.set_cons_succ]
                refine wpAnyH_take (i := 8) (oi := { dst := some 164, op := _, type := _, pos := _, after := _, guard := _ }) (v := ?_) rfl (by kernel_rfl) (by kernel_rfl) (by kernel_rfl) (fun _ _ _ h => h) (Or.inl ⟨by rfl, ?_⟩) hHeld ?_
                rotate_left
                · (intro w hSw; (try dsimp only at hSw); go_simp); all_goals with_reducible rfl
                try simp only [Act.put, List.setIfInBounds_toArray, List.set_cons_zero, List.set_cons_succ]
                refine wpAnyH_take (i := 9) (oi := { dst := some 165, op := _, type := _, pos := _, after := _, guard := _ }) (v := ?_) rfl (by kernel_rfl) (by kernel_rfl) (by kernel_rfl) (fun _ _ _ h => h) (Or.inl ⟨by rfl, ?_⟩) hHeld ?_
                rotate_left
                · (intro w hSw; (try dsimp only at hSw); go_simp); all_goals with_reducible rfl
                try simp only [Act.put, List.setIfInBounds_toArray, List.set_cons_zero, List.set_cons_succ]
                refine wpAnyH_take (i := 10) (oi := { dst := some 166, op := _, type := _, pos := _, after := _, guard := _ }) (v := ?_) rfl (by kernel_rfl) (by kernel_rfl) (by kernel_rfl) (fun _ _ _ h => h) (Or.inl ⟨by rfl, ?_⟩) hHeld ?_
                rotate_left
                · (intro w hSw; (try dsimp only at hSw); go_simp); all_goals with_reducible rfl
                try simp only [Act.put, List.setIfInBounds_toArray, List.set_cons_zero, List.set_cons_succ]
                refine wpAnyH_take (i := 11) (oi := { dst := some 167, op := _, type := _, pos := _, after := _, guard := _ }) (v := ?_) rfl (by kernel_rfl) (by kernel_rfl) (by kernel_rfl) (fun _ _ _ h => h) (Or.inl ⟨by rfl, ?_⟩) hHeld ?_
                rotate_left
                · (intro w hSw; (try dsimp only at hSw); go_simp); all_goals with_reducible rfl
                try simp only [Act.put, List.setIfInBounds_toArray, List.set_cons_zero, List.set_cons_succ]
                refine wpAnyH_take (i := 12) (oi := { dst := some 168, op := _, type := _, pos := _, after := _, guard := _ }) (v := ?_) rfl (by kernel_rfl) (by kernel_rfl) (by kernel_rfl) (fun _ _ _ h => h) (Or.inl ⟨by rfl, ?_⟩) hHeld ?_
                rotate_left
                · (intro w hSw; (try dsimp only at hSw); go_simp); all_goals with_reducible rfl
                try simp only [Act.put, List.setIfInBounds_toArray, List.set_cons_zero, List.set_cons_succ]
                refine wpAnyH_take (i := 14) (oi := { dst := some 170, op := _, type := _, pos := _, after := _, guard := _ }) (v := ?_) rfl (by kernel_rfl) (by kernel_rfl) (by kernel_rfl) (fun _ _ _ h => h) (Or.inl ⟨by rfl, ?_⟩) hHeld ?_
                rotate_left
                · (intro w hSw; (try dsimp only at hSw); go_simp); all_goals with_reducible rfl
                try simp only [Act.put, List.setIfInBounds_toArray, List.set_cons_zero, List.set_cons_succ]
                refine wpAnyH_ready (rs := [4]) (by kernel_rfl) (by simp) (AllReadyH.cons (o := _) rfl (fun K hK => ?_) AllReadyH.nil)
                go_simp
                refine hK.out _ _ ⟨v1, v2⟩ (fun hHeld => ?_)
                clear hK K
                refine wpAnyH_take (i := 13) (oi := { dst := some 169, op := _, type := _, pos := _, after := _, guard := _ }) (v := ?_) rfl (by kernel_rfl) (by kernel_rfl) (by kernel_rfl) (fun _ _ _ h => h) (Or.inl ⟨by rfl, ?_⟩) hHeld ?_
                rotate_left
                · (intro w hSw; (try dsimp only at hSw); go_simp); all_goals with_reducible rfl
                try simp only [Act.put, List.setIfInBounds_toArray, List.set_cons_zero, List.set_cons_succ]
                refine wpAnyH_take (i := 15) (oi := { dst := some 171, op := _, type := _, pos := _, after := _, guard := _ }) (v := ?_) rfl (by kernel_rfl) (by kernel_rfl) (by kernel_rfl) (fun _ _ _ h => h) (Or.inl ⟨by rfl, ?_⟩) hHeld ?_
                rotate_left
                · (intro w hSw; (try dsimp only at hSw); go_simp); all_goals with_reducible rfl
                try simp only [Act.put, List.setIfInBounds_toArray, List.set_cons_zero, List.set_cons_succ]
                refine wpAnyH_ready (rs := [16]) (by kernel_rfl) (by simp) (AllReadyH.cons (o := _) rfl (fun K hK => ?_) AllReadyH.nil)
                go_simp
                rw [w_xor, w_xor]
                have hv := HN.out.v
                refine hK.out _ _ ⟨hv.at (by omega), hv.at (by omega)⟩ (fun hHeld => ?_)
                refine wpAnyH_done (by kernel_rfl) ?_ _
                clear hHeld hK K hv c0 z0 v1 v2 f0 f1 f2 f3 HB
                go_wp2_with fail
                go_roundw
                case rel => exact ⟨i + 1, by omega, by go_num, HN⟩
                case measure => simp [intOf]; omega
              · obtain rfl : i = 8 := by omega
                have hH := HB.out.hh
                rw [ow_end, ← HR.out] at hH
                have HF := Lib.hid (And.intro hH HB.out.k)
                clear hH
                go_wp2_with fail
                go_end0
                exact ⟨rfl, HF.out⟩
end Go.Proofs.YtmfajippoielhaaDoor
