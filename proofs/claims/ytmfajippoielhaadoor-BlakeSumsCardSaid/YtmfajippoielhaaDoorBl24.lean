/- The document's block. -/
import Derived.Test.YtmfajippoielhaaDoorBl23
import Derived.Test.YtmfajippoielhaaDoorBl6
namespace Go.Proofs.YtmfajippoielhaaDoor
open Go.RowKit Go.Proofs.YtmfajippoielhaaDoor.Bl
set_option linter.unusedSimpArgs false
set_option linter.unusedVariables false
attribute [local go_sem] cell_alloc_some frozen_alloc_some

/-- The words to mix, so far. -/
def viAt (h : List UInt32) (i j : Nat) : UInt32 := if j < i then wAt h j else if 8 ≤ j ∧ j < 8 + i then wAt iv (j - 8) else 0
def vi (h : List UInt32) (i : Nat) : List UInt32 := (List.range 16).map (viAt h i)
theorem vi_len (h : List UInt32) (i : Nat) : (vi h i).length = 16 := by simp [vi]
theorem vi_at (h : List UInt32) (i : Nat) {j : Nat} (hj : j < 16) : wAt (vi h i) j = viAt h i j := wAt_map _ hj
theorem vi_zero (h : List UInt32) : vi h 0 = List.replicate 16 0 := by
  refine ext_w (by simp [vi_len]) fun j hj => ?_
  have hj' : j < 16 := by simpa [vi_len] using hj
  rw [vi_at _ _ hj']
  unfold viAt wAt; rw [if_neg (by omega), if_neg (by omega), List.getD_eq_getElem?_getD, List.getElem?_replicate, if_pos hj']; rfl
theorem vi_end {h : List UInt32} (hl : h.length = 8) : vi h 8 = h ++ iv := by
  refine ext_w (by simp [vi_len, hl, iv]) fun j hj => ?_
  have hj' : j < 16 := by simpa [vi_len] using hj
  rw [vi_at _ _ hj']
  unfold viAt
  by_cases e : j < 8
  · rw [if_pos e]; unfold wAt; rw [List.getD_eq_getElem?_getD, List.getD_eq_getElem?_getD, List.getElem?_append_left (by omega)]
  · rw [if_neg e, if_pos (by omega)]; unfold wAt; rw [List.getD_eq_getElem?_getD, List.getD_eq_getElem?_getD, List.getElem?_append_right (by omega), hl]
theorem vi_next (h : List UInt32) {i : Nat} (hi : i < 8) : ((vi h i).set i (wAt h i)).set (i + 8) (wAt iv i) = vi h (i + 1) := by
  refine ext_w (by simp [vi_len]) fun j hj => ?_
  have hj' : j < 16 := by simpa [vi_len] using hj
  rw [wAt_set _ _ _ _ (by simpa [vi_len] using hj'), wAt_set _ _ _ _ (by rw [vi_len]; exact hj'), vi_at _ _ hj', vi_at _ _ hj']
  unfold viAt
  by_cases e : i + 8 = j
  · rw [if_pos e, if_neg (by omega), if_pos (by omega), show j - 8 = i by omega]
  · rw [if_neg e]
    by_cases e2 : i = j
    · rw [if_pos e2, if_pos (by omega), e2]
    · rw [if_neg e2]
      by_cases e3 : j < i
      · rw [if_pos e3, if_pos (by omega)]
      · rw [if_neg e3, if_neg (c := j < i + 1) (by omega)]
        by_cases e4 : 8 ≤ j ∧ j < 8 + i
        · rw [if_pos e4, if_pos (by omega)]
        · rw [if_neg e4, if_neg (by omega)]
/-- A block's variables: the words, what is told, the message. -/
structure Ra (w W : World) (hh M : List UInt32) : Prop where
  h : Ws W w.heap.size 33 hh
  o : Ws W (w.heap.size + 1) 33 (List.replicate 8 0)
  m : Ws W (w.heap.size + 2) 65 M
  k : Below w.heap.size w W
theorem Ra.keep {w W W' : World} {hh M : List UInt32} (H : Ra w W hh M) {S : Nat → Prop} (k : Keep S W W') (hS : ∀ b, S b → w.heap.size + 3 ≤ b) : Ra w W' hh M :=
  ⟨H.h.keep k (fun e => by have := hS _ e; omega), H.o.keep k (fun e => by have := hS _ e; omega), H.m.keep k (fun e => by have := hS _ e; omega), ((Keep.of_below (S := fun _ => False) H.k).trans k (fun b hb e => by have := hS _ e; omega)).below (Nat.le_refl _) (fun b e => e.elim)⟩
theorem Ra.below {w W W' : World} {hh M : List UInt32} (H : Ra w W hh M) (k : Below W.heap.size W W') : Ra w W' hh M := ⟨H.h.below k, H.o.below k, H.m.below k, bl_then H.k k⟩
theorem Ra.drew {w W : World} {hh M : List UInt32} (H : Ra w W hh M) : Ra w W.drew hh M := H.below (bl_drew (Below.refl _ _))
theorem Ra.putm {w W : World} {hh M : List UInt32} (H : Ra w W hh M) (i : Nat) (x : UInt32) : Ra w (W.setCell ⟨w.heap.size + 2, i, none⟩ (wv x)) hh (M.set i x) := by
  have k := (Keep.refl (fun c => c = w.heap.size + 2) W).set (p := ⟨w.heap.size + 2, i, none⟩) (fun _ => rfl) (wv x)
  exact ⟨H.h.keep k (by omega), H.o.keep k (by omega), H.m.put i x, bl_set (p := ⟨w.heap.size + 2, i, none⟩) (by simp) H.k _⟩
theorem Ra.puth {w W : World} {hh M : List UInt32} (H : Ra w W hh M) (i : Nat) (x : UInt32) : Ra w (W.setCell ⟨w.heap.size, i, none⟩ (wv x)) (hh.set i x) M := by
  have k := (Keep.refl (fun c => c = w.heap.size) W).set (p := ⟨w.heap.size, i, none⟩) (fun _ => rfl) (wv x)
  exact ⟨H.h.put i x, H.o.keep k (by omega), H.m.keep k (by omega), bl_set (p := ⟨w.heap.size, i, none⟩) (by simp) H.k _⟩
theorem or_four (c0 c1 c2 c3 : UInt8) : bits .or .u32 (bits .or .u32 (bits .or .u32 (c0.toNat : Int) ((c1.toNat : Int) * 256)) ((c2.toNat : Int) * 65536)) ((c3.toNat : Int) * 16777216) = ((((shB c0 0 ||| shB c1 1) ||| shB c2 2) ||| shB c3 3 : UInt32).toNat : Int) := by
  have e0 : (c0.toNat : Int) = ((shB c0 0).toNat : Int) := by rw [shB_val c0 (by omega)]; simp
  rw [e0, or_val _ c1 (k := 1) (by omega) ((c1.toNat : Int) * 256) (by simp), or_val _ c2 (k := 2) (by omega) ((c2.toNat : Int) * 65536) (by simp), or_val _ c3 (k := 3) (by omega) ((c3.toNat : Int) * 16777216) (by simp)]
theorem mSt_whole (bs : List UInt8) {i : Nat} (hi : i < 16) : (mSt bs i 0).set i (wd bs i) = mSt bs (i + 1) 0 := by
  rw [← mSt_next bs hi]
  have h : wd bs i = wdN bs i 4 := rfl
  rw [h]
  refine ext_w (by simp [mSt_len]) fun j hj => ?_
  have hj' : j < 16 := by simpa [mSt_len] using hj
  rw [wAt_set _ _ _ _ (by rw [mSt_len]; exact hj'), mSt_at _ _ _ hj', mSt_at _ _ _ hj']
  unfold mAt
  by_cases e : i = j
  · subst e; simp
  · rw [if_neg e, if_neg (c := j = i) (fun h => e h.symm), if_neg (c := j = i) (fun h => e h.symm)]
structure Ix4 (i n0 n1 n2 n3 : Nat) : Prop where
  f0 : IntKind.i64.wrap (4 * (i : Int)) = (n0 : Int)
  f1 : IntKind.i64.wrap ((n0 : Int) + 1) = (n1 : Int)
  f2 : IntKind.i64.wrap ((n0 : Int) + 2) = (n2 : Int)
  f3 : IntKind.i64.wrap ((n0 : Int) + 3) = (n3 : Int)
  b0 : (n0 : Int) < 64
  b1 : (n1 : Int) < 64
  b2 : (n2 : Int) < 64
  b3 : (n3 : Int) < 64
  hi : (i : Int) < 16
  hq : n0 = 4 * i ∧ n1 = 4 * i + 1 ∧ n2 = 4 * i + 2 ∧ n3 = 4 * i + 3
theorem ix4 {i : Nat} (h : i < 16) : ∃ n0 n1 n2 n3 : Nat, Ix4 i n0 n1 n2 n3 :=
  ⟨4 * i, 4 * i + 1, 4 * i + 2, 4 * i + 3, by rw [IntKind.wrap_i64]; omega, by rw [IntKind.wrap_i64]; omega, by rw [IntKind.wrap_i64]; omega, by rw [IntKind.wrap_i64]; omega, by omega, by omega, by omega, by omega, by omega, rfl, rfl, rfl, rfl⟩

theorem run_index_8 {V : List UInt32} (hl : V.length = 8) {i : Nat} (hi : i < 8) (W : World) : (Instr.index 33 (.agg (wvs V).toArray) (.int .i64 (i : Int))).run Tryd.prog W = .ok (wv (wAt V i)) W := by
  obtain ⟨j, hj, hz, h1, h2⟩ := info_parts infoW
  have hp : (part 32 (wvs V).toArray (i * 1)).run Tryd.prog W = .ok (wv (wAt V i)) W := run_part_plain W (by kernel_rfl) (by
    rw [Nat.mul_one]
    have := wvs_at (l := V) (i := i) (by omega)
    simpa using this)
  have hlt : (0 : Int) ≤ (i : Int) ∧ (i : Int) < 8 := by omega
  simp [Instr.index, run_underlying Tryd.underlying33, asIntOf, sizeOf, typeInfo, hj, h1, hp, hi]
  simpa using hp
theorem wpList_index_8 {ops : Array Oper} {rest : List Oper} {op : Oper} {s : Act} {w : World} {Q : Exit → Act → World → Prop} (hgd : op.guard = none) (p q : Operand) (ho : op.op = .index 33 p q) {V : List UInt32} {i : Nat} (hp : s.eval p = .agg (wvs V).toArray) (hq : s.eval q = .int .i64 (i : Int)) (hl : V.length = 8) (hi : i < 8)
    (hk : wpList Tryd.prog ops Q rest (s.put op.dst (wv (wAt V i))) w) : wpList Tryd.prog ops Q (op :: rest) s w :=
  wpList_plain hgd fun K hK => by
    have hr := run_index_8 hl hi w
    unfold Oper.wp execOp
    simp only [ho, hp, hq, Sem.run_bind, hr, Result.andThen_ok]
    exact hK _ _ hk
theorem step_store_16 {ops : Array Oper} {o : Oper} {a : Act} {w : World} {K : Act → World → Prop} {Q : Exit → Act → World → Prop} {E : Prop} (hgd : o.guard = none) (x y : Operand) (ho : o.op = .store 65 x y) (b : Nat) (hx : a.eval x = .pointer (some ⟨b, 0, none⟩)) {cs cur : List Value} {t : Nat} (hy : a.eval y = .agg cs.toArray)
    (h : Cs w b t cur) (hs : cur.length = 16) (hl : cs.length = 16) (h1 : ∀ u ∈ cs, u.oneCell' = true)
    (hk : ∀ w', Cs w' b t cs → Keep (fun x => x = b) w w' → K (a.put o.dst undef) w') : if Region.wanted o (yielded ops a.tmps) = true then Oper.wp Tryd.prog o a w K Q else E := by
  have hw : Region.wanted o (yielded ops a.tmps) = true := by simp [Region.wanted, hgd]
  rw [if_pos hw]
  have hL : cs.toArray.size = 16 := by simpa using hl
  exact wp_store_mid 65 x y ho b 0 cs.toArray hx hy (by rw [hL]; exact there_kb h (by simpa using hs)) (size_16.trans (by rw [hL])) (all_oneCell_toArray h1) (hk _ (setCells_kb cs h (by simp [hs, hl])) (keep_cells _ 0 (Keep.refl _ _) (fun _ => rfl)))
theorem step_load_16 {ops : Array Oper} {o : Oper} {a : Act} {w : World} {K : Act → World → Prop} {Q : Exit → Act → World → Prop} {E : Prop} (hgd : o.guard = none) (x : Operand) (ho : o.op = .load 65 x) (b q : Nat) (hx : a.eval x = .pointer (some ⟨b, q, none⟩)) {cs : List Value}
    (h : w.rangeAt b q cs) (hl : cs.length = 16) (hk : K (a.put o.dst (.agg cs.toArray)) w) : if Region.wanted o (yielded ops a.tmps) = true then Oper.wp Tryd.prog o a w K Q else E := by
  have hw : Region.wanted o (yielded ops a.tmps) = true := by simp [Region.wanted, hgd]
  rw [if_pos hw]
  exact wp_load_mid 65 x ho b q hx cs _ h Tryd.underlying65 rfl (size_16.trans (by rw [hl])) hk
theorem lift_cell {w w' : World} {a : Addr} {v : Value} (h : w.cell? a = some v) (k : Below w.heap.size w w') : w'.cell? a = some v := (k.cell (World.block_lt_of_cell? w _ h)).trans h
theorem lift_keep {w w' : World} {S : Nat → Prop} {a : Addr} {v : Value} (h : w.cell? a = some v) (k : Keep S w w') (hS : ¬ S a.block) : w'.cell? a = some v := (World.cell?_of_block (k.block _ (World.block_lt_of_cell? w _ h) hS)).trans h
structure Ixr1 (n n1 n2 n3 n4 n5 : Nat) : Prop where
  f1 : IntKind.i64.wrap ((n : Int) + 4) = (n1 : Int)
  f2 : IntKind.i64.wrap ((n : Int) + 8) = (n2 : Int)
  f3 : IntKind.i64.wrap ((n : Int) + 12) = (n3 : Int)
  f4 : IntKind.i64.wrap (2 * (n : Int)) = (n4 : Int)
  f5 : IntKind.i64.wrap ((n4 : Int) + 1) = (n5 : Int)
  b1 : (n1 : Int) < 16
  b2 : (n2 : Int) < 16
  b3 : (n3 : Int) < 16
  b4 : (n4 : Int) < 16
  b5 : (n5 : Int) < 16
  fi : (n : Int) < 16
  l1 : n1 < 16
  l2 : n2 < 16
  l3 : n3 < 16
  l4 : n4 < 16
  l5 : n5 < 16
  hq : n1 = 4 + n ∧ n2 = 8 + n ∧ n3 = 12 + n ∧ n4 = 2 * n ∧ n5 = 2 * n + 1
theorem ixr1 {n : Nat} (h : n < 4) : ∃ n1 n2 n3 n4 n5 : Nat, Ixr1 n n1 n2 n3 n4 n5 := by
  obtain rfl | rfl | rfl | rfl : n = 0 ∨ n = 1 ∨ n = 2 ∨ n = 3 := by omega
  · exact ⟨4, 8, 12, 0, 1, by constructor <;> decide⟩
  · exact ⟨5, 9, 13, 2, 3, by constructor <;> decide⟩
  · exact ⟨6, 10, 14, 4, 5, by constructor <;> decide⟩
  · exact ⟨7, 11, 15, 6, 7, by constructor <;> decide⟩
set_option maxRecDepth 100000 in
set_option maxHeartbeats 2000000 in
theorem rblock_any {w : World} {bb off cap : Nat} {h : List UInt32} {bs : List UInt8} (many : Nat) (last : Bool) (hl : h.length = 8) (hbs : bs.length = 64) (hcap : 64 ≤ cap) (hm : many < 4611686018427387904)
    (hB : BytesOf w (.slice (some ⟨bb, off, none⟩) 64 cap) bs) :
    Calls Tryd.prog 29 #[.agg (wvs h).toArray, .slice (some ⟨bb, off, none⟩) 64 cap, .int .i64 (many : Int), .bool last] w fun e w' => e = .returned (.agg (wvs (blockP h bs many last)).toArray) ∧ Below w.heap.size w w' := by
  have HB := Lib.hid hB
  clear hB
  go_enter Tryd.func29, Tryd.ntmps29
  go_upto_region 2 with fail
  refine wp_world fun w1 hw => ?_
  have H1 := Lib.hid (show Ra w w1 h (mSt bs 0 0) by
    rw [hw, mSt_zero]
    exact ⟨kb_alloc (kb_alloc (Cs.new rfl _) _) _, kb_alloc (kb_new (by simp) _) _, kb_new (by simp) _, by (repeat (with_reducible (first | exact Below.refl _ _ | assumption | refine bl_alloc ?_ _ | refine bl_drew ?_ | refine bl_drewN ?_ _ | (refine bl_set ?_ ?_ _; (focus (first | (simp; done) | (simp; omega) | omega))) | refine bl_then ?_ (by assumption))))⟩)
  have s1 : Hid (w1.heap.size = w.heap.size + 3) := Lib.hid (by rw [hw]; simp)
  clear hw
  go_wp2_with fail
  go_loopw [10, 18, 19, 20, 21, 22, 23, 24, 25, 26, 27, 28, 29, 30, 31, 32, 33, 34, 35, 36, 37, 38, 39, 40, 41, 42, 43, 44, 45, 46, 47, 48, 49, 50, 51, 52, 53, 54, 55, 56] (fun s10 _ _ _ _ _ _ _ _ _ _ _ _ _ _ _ _ _ _ _ _ _ _ _ _ _ _ _ _ _ _ _ _ _ _ _ _ _ _ _ wr => ∃ i : Nat, i ≤ 16 ∧ s10 = .int .i64 i ∧ Hid (Ra w wr h (mSt bs i 0)) ∧ Hid (wr.heap.size = w.heap.size + 3)) (fun s10 _ _ _ _ _ _ _ _ _ _ _ _ _ _ _ _ _ _ _ _ _ _ _ _ _ _ _ _ _ _ _ _ _ _ _ _ _ _ _ _ => 16 - (intOf s10).toNat)
  case atStart => exact ⟨0, by omega, rfl, H1, s1⟩
  case round =>
    clear H1 s1
    obtain ⟨i, hi, rfl, H2, s2⟩ := hrel
    by_cases hi' : i < 16
    · have hby : ∀ k, k < 4 → wr.cell? ⟨bb, off + (4 * i + k), none⟩ = some (.int .u8 ((bAt bs (4 * i + k)).toNat : Int)) := fun k hk => by
        obtain ⟨A, c', e, _, hc⟩ := HB.out
        injection e with e1 e2 e3
        obtain ⟨b', o', e', hb', hc⟩ := hc (by omega)
        rw [e'] at e1
        injection e1 with e1
        injection e1 with e1 e4
        subst e1; subst e4
        refine (H2.out.k.cell (p := ⟨bb, off + (4 * i + k), none⟩) hb').trans (hc (4 * i + k) _ ?_)
        rw [u8s_get _ _ (by omega)]
        unfold bAt u8v
        rw [List.getD_eq_getElem?_getD, List.getElem?_eq_getElem (by omega)]; rfl
      have d0 := hby 0 (by omega)
      have d1 := hby 1 (by omega)
      have d2 := hby 2 (by omega)
      have d3 := hby 3 (by omega)
      clear hby
      rw [Nat.add_zero] at d0
      have HW := Lib.hid (show ((shB (bAt bs (4 * i)) 0 ||| shB (bAt bs (4 * i + 1)) 1) ||| shB (bAt bs (4 * i + 2)) 2) ||| shB (bAt bs (4 * i + 3)) 3 = wd bs i from (wd_eq bs i).symm)
      obtain ⟨n0, n1, n2, n3, hx⟩ := ix4 hi'
      obtain ⟨f0, f1, f2, f3, g0, g1, g2, g3, fi, q0, q1, q2, q3⟩ := hx
      rw [← q0] at d0
      rw [← q1] at d1
      rw [← q2] at d2
      rw [← q3] at d3
      rw [← q3, ← q2, ← q1, ← q0] at HW
      clear q0 q1 q2 q3
      have HN := Lib.hid (H2.out.putm i (wd bs i))
      have HM := Lib.hid (mSt_whole bs hi')
      have e0 := H2.out.m.at (i := i) (by rw [mSt_len]; exact hi')
      have z0 := H2.out.m.fz i
      clear H2
      generalize wd bs i = x at *
      generalize wAt (mSt bs i 0) i = y at e0
      generalize bAt bs n0 = c0 at *
      generalize bAt bs n1 = c1 at *
      generalize bAt bs n2 = c2 at *
      generalize bAt bs n3 = c3 at *
      have hc0 := c0.toNat_lt
      have hc1 := c1.toNat_lt
      have hc2 := c2.toNat_lt
      have hc3 := c3.toNat_lt
      have HO := Lib.hid (or_four c0 c1 c2 c3)
      have w0 : IntKind.u32.wrap (c0.toNat : Int) = (c0.toNat : Int) := by rw [IntKind.wrap_u32]; omega
      have w1 : IntKind.u32.wrap (c1.toNat : Int) = (c1.toNat : Int) := by rw [IntKind.wrap_u32]; omega
      have w2 : IntKind.u32.wrap (c2.toNat : Int) = (c2.toNat : Int) := by rw [IntKind.wrap_u32]; omega
      have w3 : IntKind.u32.wrap (c3.toNat : Int) = (c3.toNat : Int) := by rw [IntKind.wrap_u32]; omega
      have x1 : IntKind.u32.wrap ((c1.toNat : Int) * 256) = (c1.toNat : Int) * 256 := by rw [IntKind.wrap_u32]; omega
      have x2 : IntKind.u32.wrap ((c2.toNat : Int) * 65536) = (c2.toNat : Int) * 65536 := by rw [IntKind.wrap_u32]; omega
      have x3 : IntKind.u32.wrap ((c3.toNat : Int) * 16777216) = (c3.toNat : Int) * 16777216 := by rw [IntKind.wrap_u32]; omega
      have hbb : bb < w.heap.size := by
        obtain ⟨A, c', e, _, hc⟩ := HB.out
        injection e with e1 e2 e3
        obtain ⟨b', o', e', hb', _⟩ := hc (by omega)
        rw [e'] at e1
        injection e1 with e1
        injection e1 with e1 _
        omega
      have KS : ∀ u, Keep (fun c => c = w.heap.size + 2) wr (wr.setCell ⟨w.heap.size + 2, i, none⟩ u) := fun u => (Keep.refl (fun c => c = w.heap.size + 2) wr).set (p := ⟨w.heap.size + 2, i, none⟩) (fun _ => rfl) u
      have hbl : bb < wr.heap.size := by rw [s2.out]; omega
      have hS : ∀ u (o : Nat) v, wr.cell? ⟨bb, o, none⟩ = some v → (wr.setCell ⟨w.heap.size + 2, i, none⟩ u).cell? ⟨bb, o, none⟩ = some v := fun u o v hv => (World.cell?_of_block (a := ⟨bb, o, none⟩) ((KS u).block bb hbl (by omega))).trans hv
      have HS := Lib.hid (And.intro hS (And.intro d0 (And.intro d1 (And.intro d2 d3))))
      clear hS KS
      go_upto_region 5 with fail
      refine wp_region_held_drew (S := (fun W : World => W.cell? ⟨bb, off + n0, none⟩ = some (.int .u8 (c0.toNat : Int)) ∧ W.cell? ⟨bb, off + n1, none⟩ = some (.int .u8 (c1.toNat : Int)) ∧ W.cell? ⟨bb, off + n2, none⟩ = some (.int .u8 (c2.toNat : Int)) ∧ W.cell? ⟨bb, off + n3, none⟩ = some (.int .u8 (c3.toNat : Int)))) (by kernel_rfl) ⟨d0, d1, d2, d3⟩ (fun hHeld => ?_)
      refine wpAnyH_take (i := 0) (oi := { dst := some 22, op := _, type := _, pos := _, after := _, guard := _ }) (v := ?_) rfl (by kernel_rfl) (by kernel_rfl) (by kernel_rfl) (fun _ _ _ h => h) (Or.inl ⟨by rfl, ?_⟩) hHeld ?_
      rotate_left
      · (intro w hSw; (try dsimp only at hSw); go_simp); all_goals with_reducible rfl
      try simp only [Act.put, List.setIfInBounds_toArray, List.set_cons_zero, List.set_cons_succ]
      refine wpAnyH_take (i := 1) (oi := { dst := some 23, op := _, type := _, pos := _, after := _, guard := _ }) (v := ?_) rfl (by kernel_rfl) (by kernel_rfl) (by kernel_rfl) (fun _ _ _ h => h) (Or.inl ⟨by rfl, ?_⟩) hHeld ?_
      rotate_left
      · (intro w hSw; (try dsimp only at hSw); go_simp); all_goals with_reducible rfl
      try simp only [Act.put, List.setIfInBounds_toArray, List.set_cons_zero, List.set_cons_succ]
      refine wpAnyH_take (i := 2) (oi := { dst := some 24, op := _, type := _, pos := _, after := _, guard := _ }) (v := ?_) rfl (by kernel_rfl) (by kernel_rfl) (by kernel_rfl) (fun _ _ _ h => h) (Or.inl ⟨by rfl, ?_⟩) hHeld ?_
      rotate_left
      · (intro w hSw; (try dsimp only at hSw); go_simp); all_goals with_reducible rfl
      try simp only [Act.put, List.setIfInBounds_toArray, List.set_cons_zero, List.set_cons_succ]
      refine wpAnyH_take (i := 3) (oi := { dst := some 25, op := _, type := _, pos := _, after := _, guard := _ }) (v := ?_) rfl (by kernel_rfl) (by kernel_rfl) (by kernel_rfl) (fun _ _ _ h => h) (Or.inl ⟨by rfl, ?_⟩) hHeld ?_
      rotate_left
      · (intro w hSw; (try dsimp only at hSw); go_simp); all_goals with_reducible rfl
      try simp only [Act.put, List.setIfInBounds_toArray, List.set_cons_zero, List.set_cons_succ]
      refine wpAnyH_take (i := 4) (oi := { dst := some 26, op := _, type := _, pos := _, after := _, guard := _ }) (v := ?_) rfl (by kernel_rfl) (by kernel_rfl) (by kernel_rfl) (fun _ _ _ h => h) (Or.inl ⟨by rfl, ?_⟩) hHeld ?_
      rotate_left
      · (intro w hSw; (try dsimp only at hSw); go_simp); all_goals with_reducible rfl
      try simp only [Act.put, List.setIfInBounds_toArray, List.set_cons_zero, List.set_cons_succ]
      refine wpAnyH_take (i := 5) (oi := { dst := some 27, op := _, type := _, pos := _, after := _, guard := _ }) (v := ?_) rfl (by kernel_rfl) (by kernel_rfl) (by kernel_rfl) (fun _ _ _ h => h) (Or.inl ⟨by rfl, ?_⟩) hHeld ?_
      rotate_left
      · (intro w hSw; (try dsimp only at hSw); go_simp); all_goals with_reducible rfl
      try simp only [Act.put, List.setIfInBounds_toArray, List.set_cons_zero, List.set_cons_succ]
      refine wpAnyH_take (i := 6) (oi := { dst := some 28, op := _, type := _, pos := _, after := _, guard := _ }) (v := ?_) rfl (by kernel_rfl) (by kernel_rfl) (by kernel_rfl) (fun _ _ _ h => h) (Or.inl ⟨by rfl, ?_⟩) hHeld ?_
      rotate_left
      · (intro w hSw; (try dsimp only at hSw); go_simp); all_goals with_reducible rfl
      try simp only [Act.put, List.setIfInBounds_toArray, List.set_cons_zero, List.set_cons_succ]
      refine wpAnyH_take (i := 7) (oi := { dst := some 29, op := _, type := _, pos := _, after := _, guard := _ }) (v := ?_) rfl (by kernel_rfl) (by kernel_rfl) (by kernel_rfl) (fun _ _ _ h => h) (Or.inl ⟨by rfl, ?_⟩) hHeld ?_
      rotate_left
      · (intro w hSw; (try dsimp only at hSw); go_simp); all_goals with_reducible rfl
      try simp only [Act.put, List.setIfInBounds_toArray, List.set_cons_zero, List.set_cons_succ]
      refine wpAnyH_take (i := 8) (oi := { dst := some 30, op := _, type := _, pos := _, after := _, guard := _ }) (v := ?_) rfl (by kernel_rfl) (by kernel_rfl) (by kernel_rfl) (fun _ _ _ h => h) (Or.inl ⟨by rfl, ?_⟩) hHeld ?_
      rotate_left
      · (intro w hSw; (try dsimp only at hSw); go_simp); all_goals with_reducible rfl
      try simp only [Act.put, List.setIfInBounds_toArray, List.set_cons_zero, List.set_cons_succ]
      refine wpAnyH_take (i := 9) (oi := { dst := some 31, op := _, type := _, pos := _, after := _, guard := _ }) (v := ?_) rfl (by kernel_rfl) (by kernel_rfl) (by kernel_rfl) (fun _ _ _ h => h) (Or.inl ⟨by rfl, ?_⟩) hHeld ?_
      rotate_left
      · (intro w hSw; (try dsimp only at hSw); go_simp); all_goals with_reducible rfl
      try simp only [Act.put, List.setIfInBounds_toArray, List.set_cons_zero, List.set_cons_succ]
      refine wpAnyH_take (i := 10) (oi := { dst := some 32, op := _, type := _, pos := _, after := _, guard := _ }) (v := ?_) rfl (by kernel_rfl) (by kernel_rfl) (by kernel_rfl) (fun _ _ _ h => h) (Or.inl ⟨by rfl, ?_⟩) hHeld ?_
      rotate_left
      · (intro w hSw; (try dsimp only at hSw); go_simp); all_goals with_reducible rfl
      try simp only [Act.put, List.setIfInBounds_toArray, List.set_cons_zero, List.set_cons_succ]
      refine wpAnyH_take (i := 11) (oi := { dst := some 33, op := _, type := _, pos := _, after := _, guard := _ }) (v := ?_) rfl (by kernel_rfl) (by kernel_rfl) (by kernel_rfl) (fun _ _ _ h => h) (Or.inl ⟨by rfl, ?_⟩) hHeld ?_
      rotate_left
      · (intro w hSw; (try dsimp only at hSw); go_simp); all_goals with_reducible rfl
      try simp only [Act.put, List.setIfInBounds_toArray, List.set_cons_zero, List.set_cons_succ]
      refine wpAnyH_take (i := 12) (oi := { dst := some 34, op := _, type := _, pos := _, after := _, guard := _ }) (v := ?_) rfl (by kernel_rfl) (by kernel_rfl) (by kernel_rfl) (fun _ _ _ h => h) (Or.inl ⟨by rfl, ?_⟩) hHeld ?_
      rotate_left
      · (intro w hSw; (try dsimp only at hSw); go_simp); all_goals with_reducible rfl
      try simp only [Act.put, List.setIfInBounds_toArray, List.set_cons_zero, List.set_cons_succ]
      refine wpAnyH_take (i := 13) (oi := { dst := some 35, op := _, type := _, pos := _, after := _, guard := _ }) (v := ?_) rfl (by kernel_rfl) (by kernel_rfl) (by kernel_rfl) (fun _ _ _ h => h) (Or.inl ⟨by rfl, ?_⟩) hHeld ?_
      rotate_left
      · (intro w hSw; (try dsimp only at hSw); go_simp); all_goals with_reducible rfl
      try simp only [Act.put, List.setIfInBounds_toArray, List.set_cons_zero, List.set_cons_succ]
      refine wpAnyH_take (i := 14) (oi := { dst := some 36, op := _, type := _, pos := _, after := _, guard := _ }) (v := ?_) rfl (by kernel_rfl) (by kernel_rfl) (by kernel_rfl) (fun _ _ _ h => h) (Or.inl ⟨by rfl, ?_⟩) hHeld ?_
      rotate_left
      · (intro w hSw; (try dsimp only at hSw); go_simp); all_goals with_reducible rfl
      try simp only [Act.put, List.setIfInBounds_toArray, List.set_cons_zero, List.set_cons_succ]
      refine wpAnyH_take (i := 15) (oi := { dst := some 37, op := _, type := _, pos := _, after := _, guard := _ }) (v := ?_) rfl (by kernel_rfl) (by kernel_rfl) (by kernel_rfl) (fun _ _ _ h => h) (Or.inl ⟨by rfl, ?_⟩) hHeld ?_
      rotate_left
      · (intro w hSw; (try dsimp only at hSw); go_simp); all_goals with_reducible rfl
      try simp only [Act.put, List.setIfInBounds_toArray, List.set_cons_zero, List.set_cons_succ]
      refine wpAnyH_take (i := 16) (oi := { dst := some 38, op := _, type := _, pos := _, after := _, guard := _ }) (v := ?_) rfl (by kernel_rfl) (by kernel_rfl) (by kernel_rfl) (fun _ _ _ h => h) (Or.inl ⟨by rfl, ?_⟩) hHeld ?_
      rotate_left
      · (intro w hSw; (try dsimp only at hSw); go_simp); all_goals with_reducible rfl
      try simp only [Act.put, List.setIfInBounds_toArray, List.set_cons_zero, List.set_cons_succ]
      refine wpAnyH_take (i := 17) (oi := { dst := some 39, op := _, type := _, pos := _, after := _, guard := _ }) (v := ?_) rfl (by kernel_rfl) (by kernel_rfl) (by kernel_rfl) (fun _ _ _ h => h) (Or.inl ⟨by rfl, ?_⟩) hHeld ?_
      rotate_left
      · (intro w hSw; (try dsimp only at hSw); go_simp); all_goals with_reducible rfl
      try simp only [Act.put, List.setIfInBounds_toArray, List.set_cons_zero, List.set_cons_succ]
      refine wpAnyH_take (i := 18) (oi := { dst := some 40, op := _, type := _, pos := _, after := _, guard := _ }) (v := ?_) rfl (by kernel_rfl) (by kernel_rfl) (by kernel_rfl) (fun _ _ _ h => h) (Or.inl ⟨by rfl, ?_⟩) hHeld ?_
      rotate_left
      · (intro w hSw; (try dsimp only at hSw); go_simp); all_goals with_reducible rfl
      try simp only [Act.put, List.setIfInBounds_toArray, List.set_cons_zero, List.set_cons_succ]
      refine wpAnyH_take (i := 19) (oi := { dst := some 41, op := _, type := _, pos := _, after := _, guard := _ }) (v := ?_) rfl (by kernel_rfl) (by kernel_rfl) (by kernel_rfl) (fun _ _ _ h => h) (Or.inl ⟨by rfl, ?_⟩) hHeld ?_
      rotate_left
      · (intro w hSw; (try dsimp only at hSw); go_simp); all_goals with_reducible rfl
      try simp only [Act.put, List.setIfInBounds_toArray, List.set_cons_zero, List.set_cons_succ]
      refine wpAnyH_take (i := 20) (oi := { dst := some 42, op := _, type := _, pos := _, after := _, guard := _ }) (v := ?_) rfl (by kernel_rfl) (by kernel_rfl) (by kernel_rfl) (fun _ _ _ h => h) (Or.inl ⟨by rfl, ?_⟩) hHeld ?_
      rotate_left
      · (intro w hSw; (try dsimp only at hSw); go_simp); all_goals with_reducible rfl
      try simp only [Act.put, List.setIfInBounds_toArray, List.set_cons_zero, List.set_cons_succ]
      refine wpAnyH_take (i := 21) (oi := { dst := some 43, op := _, type := _, pos := _, after := _, guard := _ }) (v := ?_) rfl (by kernel_rfl) (by kernel_rfl) (by kernel_rfl) (fun _ _ _ h => h) (Or.inl ⟨by rfl, ?_⟩) hHeld ?_
      rotate_left
      · (intro w hSw; (try dsimp only at hSw); go_simp); all_goals with_reducible rfl
      try simp only [Act.put, List.setIfInBounds_toArray, List.set_cons_zero, List.set_cons_succ]
      refine wpAnyH_take (i := 22) (oi := { dst := some 44, op := _, type := _, pos := _, after := _, guard := _ }) (v := ?_) rfl (by kernel_rfl) (by kernel_rfl) (by kernel_rfl) (fun _ _ _ h => h) (Or.inl ⟨by rfl, ?_⟩) hHeld ?_
      rotate_left
      · (intro w hSw; (try dsimp only at hSw); go_simp); all_goals with_reducible rfl
      try simp only [Act.put, List.setIfInBounds_toArray, List.set_cons_zero, List.set_cons_succ]
      refine wpAnyH_take (i := 23) (oi := { dst := some 45, op := _, type := _, pos := _, after := _, guard := _ }) (v := ?_) rfl (by kernel_rfl) (by kernel_rfl) (by kernel_rfl) (fun _ _ _ h => h) (Or.inl ⟨by rfl, ?_⟩) hHeld ?_
      rotate_left
      · (intro w hSw; (try dsimp only at hSw); go_simp); all_goals with_reducible rfl
      try simp only [Act.put, List.setIfInBounds_toArray, List.set_cons_zero, List.set_cons_succ]
      refine wpAnyH_take (i := 24) (oi := { dst := some 46, op := _, type := _, pos := _, after := _, guard := _ }) (v := ?_) rfl (by kernel_rfl) (by kernel_rfl) (by kernel_rfl) (fun _ _ _ h => h) (Or.inl ⟨by rfl, ?_⟩) hHeld ?_
      rotate_left
      · (intro w hSw; (try dsimp only at hSw); go_simp); all_goals with_reducible rfl
      try simp only [Act.put, List.setIfInBounds_toArray, List.set_cons_zero, List.set_cons_succ]
      refine wpAnyH_take (i := 25) (oi := { dst := some 47, op := _, type := _, pos := _, after := _, guard := _ }) (v := ?_) rfl (by kernel_rfl) (by kernel_rfl) (by kernel_rfl) (fun _ _ _ h => h) (Or.inl ⟨by rfl, ?_⟩) hHeld ?_
      rotate_left
      · (intro w hSw; (try dsimp only at hSw); go_simp); all_goals with_reducible rfl
      try simp only [Act.put, List.setIfInBounds_toArray, List.set_cons_zero, List.set_cons_succ]
      refine wpAnyH_take (i := 26) (oi := { dst := some 48, op := _, type := _, pos := _, after := _, guard := _ }) (v := ?_) rfl (by kernel_rfl) (by kernel_rfl) (by kernel_rfl) (fun _ _ _ h => h) (Or.inl ⟨by rfl, ?_⟩) hHeld ?_
      rotate_left
      · (intro w hSw; (try dsimp only at hSw); go_simp); all_goals with_reducible rfl
      try simp only [Act.put, List.setIfInBounds_toArray, List.set_cons_zero, List.set_cons_succ]
      refine wpAnyH_take (i := 27) (oi := { dst := some 49, op := _, type := _, pos := _, after := _, guard := _ }) (v := ?_) rfl (by kernel_rfl) (by kernel_rfl) (by kernel_rfl) (fun _ _ _ h => h) (Or.inl ⟨by rfl, ?_⟩) hHeld ?_
      rotate_left
      · (intro w hSw; (try dsimp only at hSw); go_simp); all_goals with_reducible rfl
      try simp only [Act.put, List.setIfInBounds_toArray, List.set_cons_zero, List.set_cons_succ]
      refine wpAnyH_take (i := 28) (oi := { dst := some 50, op := _, type := _, pos := _, after := _, guard := _ }) (v := ?_) rfl (by kernel_rfl) (by kernel_rfl) (by kernel_rfl) (fun _ _ _ h => h) (Or.inl ⟨by rfl, ?_⟩) hHeld ?_
      rotate_left
      · (intro w hSw; (try dsimp only at hSw); go_simp); all_goals with_reducible rfl
      try simp only [Act.put, List.setIfInBounds_toArray, List.set_cons_zero, List.set_cons_succ]
      refine wpAnyH_take (i := 29) (oi := { dst := some 51, op := _, type := _, pos := _, after := _, guard := _ }) (v := ?_) rfl (by kernel_rfl) (by kernel_rfl) (by kernel_rfl) (fun _ _ _ h => h) (Or.inl ⟨by rfl, ?_⟩) hHeld ?_
      rotate_left
      · (intro w hSw; (try dsimp only at hSw); go_simp); all_goals with_reducible rfl
      try simp only [Act.put, List.setIfInBounds_toArray, List.set_cons_zero, List.set_cons_succ]
      refine wpAnyH_take (i := 30) (oi := { dst := some 52, op := _, type := _, pos := _, after := _, guard := _ }) (v := ?_) rfl (by kernel_rfl) (by kernel_rfl) (by kernel_rfl) (fun _ _ _ h => h) (Or.inl ⟨by rfl, ?_⟩) hHeld ?_
      rotate_left
      · (intro w hSw; (try dsimp only at hSw); go_simp); all_goals with_reducible rfl
      try simp only [Act.put, List.setIfInBounds_toArray, List.set_cons_zero, List.set_cons_succ]
      refine wpAnyH_take (i := 31) (oi := { dst := some 53, op := _, type := _, pos := _, after := _, guard := _ }) (v := ?_) rfl (by kernel_rfl) (by kernel_rfl) (by kernel_rfl) (fun _ _ _ h => h) (Or.inl ⟨by rfl, ?_⟩) hHeld ?_
      rotate_left
      · (intro w hSw; (try dsimp only at hSw); go_simp); all_goals with_reducible rfl
      try simp only [Act.put, List.setIfInBounds_toArray, List.set_cons_zero, List.set_cons_succ]
      refine wpAnyH_take (i := 32) (oi := { dst := some 54, op := _, type := _, pos := _, after := _, guard := _ }) (v := ?_) rfl (by kernel_rfl) (by kernel_rfl) (by kernel_rfl) (fun _ _ _ h => h) (Or.inl ⟨by rfl, ?_⟩) hHeld ?_
      rotate_left
      · (intro w hSw; (try dsimp only at hSw); go_simp); all_goals with_reducible rfl
      try simp only [Act.put, List.setIfInBounds_toArray, List.set_cons_zero, List.set_cons_succ]
      refine wpAnyH_take (i := 33) (oi := { dst := some 55, op := _, type := _, pos := _, after := _, guard := _ }) (v := ?_) rfl (by kernel_rfl) (by kernel_rfl) (by kernel_rfl) (fun _ _ _ h => h) (Or.inl ⟨by rfl, ?_⟩) hHeld ?_
      rotate_left
      · (intro w hSw; (try dsimp only at hSw); go_simp); all_goals with_reducible rfl
      try simp only [Act.put, List.setIfInBounds_toArray, List.set_cons_zero, List.set_cons_succ]
      refine wpAnyH_take (i := 34) (oi := { dst := some 56, op := _, type := _, pos := _, after := _, guard := _ }) (v := ?_) rfl (by kernel_rfl) (by kernel_rfl) (by kernel_rfl) (fun _ _ _ h => h) (Or.inl ⟨by rfl, ?_⟩) hHeld ?_
      rotate_left
      · (intro w hSw; (try dsimp only at hSw); go_simp); all_goals with_reducible rfl
      try simp only [Act.put, List.setIfInBounds_toArray, List.set_cons_zero, List.set_cons_succ]
      rw [HO.out, HW.out]
      refine wpAnyH_ready (rs := [35]) (by kernel_rfl) (by simp) (AllReadyH.cons (o := _) rfl (fun K hK => ?_) AllReadyH.nil)
      go_simp
      refine hK.out _ _ ⟨HS.out.1 _ _ _ HS.out.2.1, HS.out.1 _ _ _ HS.out.2.2.1, HS.out.1 _ _ _ HS.out.2.2.2.1, HS.out.1 _ _ _ HS.out.2.2.2.2⟩ (fun hHeld => ?_)
      refine wpAnyH_done (by kernel_rfl) ?_ _
      clear hHeld hK K d0 d1 d2 d3 e0 z0 f0 f1 f2 f3 g0 g1 g2 g3 w0 w1 w2 w3 x1 x2 x3 HS hc0 hc1 hc2 hc3
      go_wp2_with fail
      go_roundw
      case rel => exact ⟨i + 1, by omega, by go_num, by rw [← HM.out]; exact Lib.hid HN.out.drew, Lib.hid (by simp [s2.out])⟩
      case measure => simp [intOf]; omega
    · obtain rfl : i = 16 := by omega
      rw [mSt_end] at H2
      go_upto_region 7 with fail
      refine wp_world fun w2 hw => ?_
      have H3 : Hid (Ra w w2 h (msg bs) ∧ Ws w2 (w.heap.size + 3) 65 (vi h 0)) := by
        rw [hw, vi_zero]
        exact Lib.hid ⟨H2.out.below (bl_alloc (Below.refl _ _) _), by rw [← s2.out]; exact kb_new rfl _⟩
      rw [s2.out]
      clear hw H2 s2
      go_wp2_with fail
      go_loopw [12, 57, 58, 59, 60, 61, 62, 63, 64, 65, 66, 67, 68, 69, 70, 71] (fun s12 _ _ _ _ _ _ _ _ _ _ _ _ _ _ _ wr => ∃ i : Nat, i ≤ 8 ∧ s12 = .int .i64 i ∧ Hid (Ra w wr h (msg bs) ∧ Ws wr (w.heap.size + 3) 65 (vi h i))) (fun s12 _ _ _ _ _ _ _ _ _ _ _ _ _ _ _ _ => 8 - (intOf s12).toNat)
      case atStart => exact ⟨0, by omega, rfl, H3⟩
      case round =>
        clear H3
        obtain ⟨i, hi, rfl, HI⟩ := hrel
        by_cases hi' : i < 8
        · have c0 := HI.out.1.h.at (i := i) (by omega)
          have e0 := HI.out.2.at (i := i) (by rw [vi_len]; omega)
          have z0 := HI.out.2.fz i
          have fi : (i : Int) < 8 := by omega
          have fi2 : (i : Int) < 16 := by omega
          have f1 : IntKind.i64.wrap ((i : Int) + 8) = ((i + 8 : Nat) : Int) := by rw [IntKind.wrap_i64]; omega
          have f2 : ((i + 8 : Nat) : Int) < 16 := by omega
          have HN := Lib.hid (vi_next h hi')
          go_wp2_with fail
          refine (rbegin_any _).mono ?_
          rintro e w3 ⟨rfl, b3⟩
          have k1 := (Keep.refl (fun c => c = w.heap.size + 3) wr).set (p := ⟨w.heap.size + 3, i, none⟩) (fun _ => rfl) (wv (wAt h i))
          have A3 := (HI.out.1.keep k1 (fun b e => by omega)).below b3
          have V3 := (HI.out.2.put i (wAt h i)).below b3
          clear b3 k1 c0 e0 z0 HI
          have e8 := V3.at (i := i + 8) (by simp [vi_len]; omega)
          have z8 := V3.fz (i + 8)
          have hN := V3.put (i + 8) (wAt iv i)
          rw [HN.out] at hN
          have k3 := (Keep.refl (fun c => c = w.heap.size + 3) w3).set (p := ⟨w.heap.size + 3, i + 8, none⟩) (fun _ => rfl) (wv (wAt iv i))
          have H4 := Lib.hid (And.intro (A3.keep k3 (fun b e => by omega)) hN)
          clear V3 hN k3 A3 HN
          generalize hi8 : i + 8 = i8 at *
          go_wp2_with (first
            | (with_reducible show wpList _ _ _ (⟨some 70, _, _, _, _, _⟩ :: _) _ _; refine wpList_index_8 rfl _ _ rfl (V := iv) (i := i) rfl rfl rfl hi' ?_))
          refine ⟨?_, ?measure⟩
          (repeat apply Exists.intro)
          refine ⟨?rel, rfl⟩
          case rel => exact ⟨i + 1, by omega, by go_num, H4⟩
          case measure => simp [intOf]; omega
        · obtain rfl : i = 8 := by omega
          rw [vi_end hl] at HI
          have hlv : (h ++ iv).length = 16 := by simp [hl, iv]
          obtain ⟨V, hV⟩ : ∃ V, h ++ iv = V := ⟨_, rfl⟩
          rw [hV] at HI hlv
          have c12 := HI.out.2.at (i := 12) (by omega)
          have c13 := HI.out.2.at (i := 13) (by omega)
          have z12 := HI.out.2.fz 12
          have z13 := HI.out.2.fz 13
          go_upto_if 87 with fail
          refine wp_world fun w6 hw => ?_
          have H8 : Ra w w6 h (msg bs) ∧ Ws w6 (w.heap.size + 3) 65 ((V.set 12 (wAt V 12 ^^^ UInt32.ofNat many)).set 13 (wAt V 13 ^^^ UInt32.ofNat (many / 4294967296))) := by
            rw [hw, xor_many _ many _ (by omega), xor_many _ (many / 4294967296) _ (by omega)]
            have k1 := ((Keep.refl (fun c => c = w.heap.size + 3) wr).set (p := ⟨w.heap.size + 3, 12, none⟩) (fun _ => rfl) (wv (wAt V 12 ^^^ UInt32.ofNat many))).set (p := ⟨w.heap.size + 3, 13, none⟩) (fun _ => rfl) (wv (wAt V 13 ^^^ UInt32.ofNat (many / 4294967296)))
            exact ⟨HI.out.1.keep k1 (fun b e => by omega), (HI.out.2.put 12 _).put 13 _⟩
          have hV2 : ∀ b, v0 h many b = if b then (((V.set 12 (wAt V 12 ^^^ UInt32.ofNat many)).set 13 (wAt V 13 ^^^ UInt32.ofNat (many / 4294967296)))).set 14 (~~~ wAt (((V.set 12 (wAt V 12 ^^^ UInt32.ofNat many)).set 13 (wAt V 13 ^^^ UInt32.ofNat (many / 4294967296)))) 14) else ((V.set 12 (wAt V 12 ^^^ UInt32.ofNat many)).set 13 (wAt V 13 ^^^ UInt32.ofNat (many / 4294967296))) := fun b => by
            unfold v0
            simp only [hV]
            rw [wAt_set _ _ _ _ (by omega)]
            rfl
          have hl2 : ((V.set 12 (wAt V 12 ^^^ UInt32.ofNat many)).set 13 (wAt V 13 ^^^ UInt32.ofNat (many / 4294967296))).length = 16 := by simp [hlv]
          have hv0 := v0_len hl many last
          generalize ((V.set 12 (wAt V 12 ^^^ UInt32.ofNat many)).set 13 (wAt V 13 ^^^ UInt32.ofNat (many / 4294967296))) = V2 at *
          have HV2 := Lib.hid hV2
          have HH8 := Lib.hid H8
          clear hw c12 c13 z12 z13 HI H8 hV2
          go_cut [] from 12 (fun wx => Hid (Ra w wx h (msg bs) ∧ Ws wx (w.heap.size + 3) 65 (v0 h many last)))
          case first =>
            have c14 := HH8.out.2.at (i := 14) (by omega)
            have z14 := HH8.out.2.fz 14
            cases last with
            | true =>
              go_wp2_with fail
              go_meet
              case rel =>
                rw [show IntKind.u32.max = 4294967295 from rfl, not_val, HV2.out]
                exact Lib.hid ⟨HH8.out.1.keep ((Keep.refl (fun c => c = w.heap.size + 3) w6).set (p := ⟨w.heap.size + 3, 14, none⟩) (fun _ => rfl) _) (fun b e => by omega), HH8.out.2.put 14 _⟩
            | false =>
              go_wp2_with fail
              go_meet
              case rel => rw [HV2.out]; exact HH8
          case rest =>
            have HK := hcut
            clear hcut HH8 HV2 hl2 hV hlv
            obtain ⟨V0, hV0⟩ : ∃ V0, v0 h many last = V0 := ⟨_, rfl⟩
            rw [hV0] at HK hv0
            have HV0 := Lib.hid hV0
            clear hV0
            go_wp2_with fail
            go_loopw [13, 14, 15, 16, 92, 93, 94, 95, 96, 97, 98, 99, 100, 101, 102, 103, 104, 105, 106, 107, 108, 109, 110, 111, 112, 113, 114, 115, 116, 117, 118, 119, 120, 121, 122, 123, 124, 125, 126, 127, 128, 129, 130, 131, 132, 133, 134, 135, 136, 137, 138, 139, 140, 141, 142, 143, 144, 145, 146, 147, 148, 149, 150, 151, 152, 153, 154, 155, 156] (fun s13 _ _ _ _ _ _ _ _ _ _ _ _ _ _ _ _ _ _ _ _ _ _ _ _ _ _ _ _ _ _ _ _ _ _ _ _ _ _ _ _ _ _ _ _ _ _ _ _ _ _ _ _ _ _ _ _ _ _ _ _ _ _ _ _ _ _ _ _ wr => ∃ r : Nat, r ≤ 10 ∧ s13 = .int .i64 r ∧ Hid (Ra w wr h (msg bs) ∧ Ws wr (w.heap.size + 3) 65 (rounds (msg bs) r V0))) (fun s13 _ _ _ _ _ _ _ _ _ _ _ _ _ _ _ _ _ _ _ _ _ _ _ _ _ _ _ _ _ _ _ _ _ _ _ _ _ _ _ _ _ _ _ _ _ _ _ _ _ _ _ _ _ _ _ _ _ _ _ _ _ _ _ _ _ _ _ _ _ => 10 - (intOf s13).toNat)
            case atStart => exact ⟨0, by omega, rfl, HK⟩
            case round =>
              clear HK
              obtain ⟨r, hr, rfl, HI⟩ := hrel
              by_cases hr' : r < 10
              · have hVl := rounds_len (msg bs) V0 r
                rw [hv0] at hVl
                have HRD := Lib.hid (show rounds (msg bs) (r + 1) V0 = half2 (rowW (msg bs) r) 4 (half1 (rowW (msg bs) r) 4 (rounds (msg bs) r V0)) from rfl)
                generalize rounds (msg bs) r V0 = V at *
                have dr : decide ((r : Int) < 10) = true := by simp; omega
                go_wp2_with fail
                refine (rrow_any hr' _).mono ?_
                rintro e w2 ⟨rfl, b2⟩
                have H2 := Lib.hid (And.intro (HI.out.1.below b2) (HI.out.2.below b2))
                have hrl := rowV_len hr'
                have hri : ∀ u ∈ rowV r, u.oneCell' = true := ivs_one _
                clear b2 HI dr
                go_upto_region 20 with (first
                  | (refine wpList_stnew_r (op := ⟨none, .store 67 _ _, _, _, _, _⟩) (cs := rowV r) rfl _ _ rfl rfl rfl rfl hrl hri ?_))
                have hg : w.heap.size + 4 ≤ w2.heap.size := by have := kb_lt H2.out.2; omega
                have H3 := Lib.hid (And.intro (H2.out.1.below (bl_alloc (Below.refl _ _) (.cells (rowV r).toArray 67))) (And.intro (H2.out.2.below (bl_alloc (Below.refl _ _) (.cells (rowV r).toArray 67)))
                  (show Cs (w2.alloc (.cells (rowV r).toArray 67)) w2.heap.size 67 (rowV r) from Cs.new rfl _)))
                clear H2 hri hrl
                generalize w2.alloc (.cells (rowV r).toArray 67) = w3 at *
                generalize w2.heap.size = g at *
                go_wp2_with fail
                go_loopw [15, 98, 99, 100, 101, 102, 103, 104, 105, 106, 107, 108, 109, 110, 111, 112, 113, 114, 115, 116, 117, 118, 119, 120, 121, 122, 123] (fun s15 _ _ _ _ _ _ _ _ _ _ _ _ _ _ _ _ _ _ _ _ _ _ _ _ _ _ wr => ∃ n : Nat, n ≤ 4 ∧ s15 = .int .i64 n ∧ Hid (Ra w wr h (msg bs) ∧ Ws wr (w.heap.size + 3) 65 (half1 (rowW (msg bs) r) n V) ∧ Cs wr g 67 (rowV r))) (fun s15 _ _ _ _ _ _ _ _ _ _ _ _ _ _ _ _ _ _ _ _ _ _ _ _ _ _ _ => 4 - (intOf s15).toNat)
                case atStart => exact ⟨0, by omega, rfl, H3⟩
                case round =>
                  clear H3
                  obtain ⟨n, hn, rfl, HI⟩ := hrel
                  by_cases hn' : n < 4
                  · have hVn := half1_len (rowW (msg bs) r) V n
                    rw [hVl] at hVn
                    have dn : decide ((n : Int) < 4) = true := by simp; omega
                    go_upto_region 23 with fail
                    clear dn
                    obtain ⟨n1, n2, n3, n4, n5, hx⟩ := ixr1 hn'
                    obtain ⟨f1, f2, f3, f4, f5, b1, b2, b3, b4, b5, fi, l1, l2, l3, l4, l5, hq⟩ := hx
                    have s0 := sg_lt r n4
                    have s5 := sg_lt r n5
                    have d0 := (HI.out.2.2.at n4).trans (rowV_at hr' l4)
                    have d1 := (HI.out.2.2.at n5).trans (rowV_at hr' l5)
                    have m0 := HI.out.1.m.at (i := sg r n4) (by rw [msg_len]; exact s0)
                    have m1 := HI.out.1.m.at (i := sg r n5) (by rw [msg_len]; exact s5)
                    have HX := Lib.hid (And.intro (rowW_at (msg bs) r l4) (rowW_at (msg bs) r l5))
                    generalize wAt (msg bs) (sg r n4) = x at *
                    generalize wAt (msg bs) (sg r n5) = y at *
                    generalize sg r n4 = t0 at *
                    generalize sg r n5 = t1 at *
                    have u0 : (t0 : Int) < 16 := by omega
                    have u1 : (t1 : Int) < 16 := by omega
                    have HD := Lib.hid (And.intro d0 (And.intro d1 (And.intro m0 m1)))
                    have HID := Lib.hid (And.intro HI.out.1.drew (And.intro HI.out.2.1.drew (Cs.drew HI.out.2.2)))
                    have hul : (wvs (half1 (rowW (msg bs) r) n V)).length = 16 := by rw [wvs_len, hVn]
                    have HL := Lib.hid (And.intro l1 (And.intro l2 (And.intro l3 (And.intro hn' hq))))
                    clear HI l1 l2 l3 l4 l5 hq s0 s5 m0 m1 d0 d1
                    refine wp_region_held_drew (S := (fun W : World => W.cell? ⟨g, n4, none⟩ = some (.int .i64 (t0 : Int)) ∧ W.cell? ⟨g, n5, none⟩ = some (.int .i64 (t1 : Int)) ∧ W.cell? ⟨w.heap.size + 2, t0, none⟩ = some (wv x) ∧ W.cell? ⟨w.heap.size + 2, t1, none⟩ = some (wv y))) (by kernel_rfl) HD.out (fun hHeld => ?_)
                    refine wpAnyH_take (i := 1) (oi := { dst := some 103, op := _, type := _, pos := _, after := _, guard := _ }) (v := ?_) rfl (by kernel_rfl) (by kernel_rfl) (by kernel_rfl) (fun _ _ _ h => h) (Or.inl ⟨by rfl, ?_⟩) hHeld ?_
                    rotate_left
                    · (intro w hSw; (try dsimp only at hSw); go_simp); all_goals with_reducible rfl
                    try simp only [Act.put, List.setIfInBounds_toArray, List.set_cons_zero, List.set_cons_succ]
                    refine wpAnyH_take (i := 2) (oi := { dst := some 104, op := _, type := _, pos := _, after := _, guard := _ }) (v := ?_) rfl (by kernel_rfl) (by kernel_rfl) (by kernel_rfl) (fun _ _ _ h => h) (Or.inl ⟨by rfl, ?_⟩) hHeld ?_
                    rotate_left
                    · (intro w hSw; (try dsimp only at hSw); go_simp); all_goals with_reducible rfl
                    try simp only [Act.put, List.setIfInBounds_toArray, List.set_cons_zero, List.set_cons_succ]
                    refine wpAnyH_take (i := 3) (oi := { dst := some 105, op := _, type := _, pos := _, after := _, guard := _ }) (v := ?_) rfl (by kernel_rfl) (by kernel_rfl) (by kernel_rfl) (fun _ _ _ h => h) (Or.inl ⟨by rfl, ?_⟩) hHeld ?_
                    rotate_left
                    · (intro w hSw; (try dsimp only at hSw); go_simp); all_goals with_reducible rfl
                    try simp only [Act.put, List.setIfInBounds_toArray, List.set_cons_zero, List.set_cons_succ]
                    refine wpAnyH_take (i := 4) (oi := { dst := some 106, op := _, type := _, pos := _, after := _, guard := _ }) (v := ?_) rfl (by kernel_rfl) (by kernel_rfl) (by kernel_rfl) (fun _ _ _ h => h) (Or.inl ⟨by rfl, ?_⟩) hHeld ?_
                    rotate_left
                    · (intro w hSw; (try dsimp only at hSw); go_simp); all_goals with_reducible rfl
                    try simp only [Act.put, List.setIfInBounds_toArray, List.set_cons_zero, List.set_cons_succ]
                    refine wpAnyH_take (i := 5) (oi := { dst := some 107, op := _, type := _, pos := _, after := _, guard := _ }) (v := ?_) rfl (by kernel_rfl) (by kernel_rfl) (by kernel_rfl) (fun _ _ _ h => h) (Or.inl ⟨by rfl, ?_⟩) hHeld ?_
                    rotate_left
                    · (intro w hSw; (try dsimp only at hSw); go_simp); all_goals with_reducible rfl
                    try simp only [Act.put, List.setIfInBounds_toArray, List.set_cons_zero, List.set_cons_succ]
                    refine wpAnyH_take (i := 6) (oi := { dst := some 108, op := _, type := _, pos := _, after := _, guard := _ }) (v := ?_) rfl (by kernel_rfl) (by kernel_rfl) (by kernel_rfl) (fun _ _ _ h => h) (Or.inl ⟨by rfl, ?_⟩) hHeld ?_
                    rotate_left
                    · (intro w hSw; (try dsimp only at hSw); go_simp); all_goals with_reducible rfl
                    try simp only [Act.put, List.setIfInBounds_toArray, List.set_cons_zero, List.set_cons_succ]
                    refine wpAnyH_take (i := 7) (oi := { dst := some 109, op := _, type := _, pos := _, after := _, guard := _ }) (v := ?_) rfl (by kernel_rfl) (by kernel_rfl) (by kernel_rfl) (fun _ _ _ h => h) (Or.inl ⟨by rfl, ?_⟩) hHeld ?_
                    rotate_left
                    · (intro w hSw; (try dsimp only at hSw); go_simp); all_goals with_reducible rfl
                    try simp only [Act.put, List.setIfInBounds_toArray, List.set_cons_zero, List.set_cons_succ]
                    refine wpAnyH_take (i := 8) (oi := { dst := some 110, op := _, type := _, pos := _, after := _, guard := _ }) (v := ?_) rfl (by kernel_rfl) (by kernel_rfl) (by kernel_rfl) (fun _ _ _ h => h) (Or.inl ⟨by rfl, ?_⟩) hHeld ?_
                    rotate_left
                    · (intro w hSw; (try dsimp only at hSw); go_simp); all_goals with_reducible rfl
                    try simp only [Act.put, List.setIfInBounds_toArray, List.set_cons_zero, List.set_cons_succ]
                    refine wpAnyH_take (i := 9) (oi := { dst := some 111, op := _, type := _, pos := _, after := _, guard := _ }) (v := ?_) rfl (by kernel_rfl) (by kernel_rfl) (by kernel_rfl) (fun _ _ _ h => h) (Or.inl ⟨by rfl, ?_⟩) hHeld ?_
                    rotate_left
                    · (intro w hSw; (try dsimp only at hSw); go_simp); all_goals with_reducible rfl
                    try simp only [Act.put, List.setIfInBounds_toArray, List.set_cons_zero, List.set_cons_succ]
                    refine wpAnyH_take (i := 10) (oi := { dst := some 112, op := _, type := _, pos := _, after := _, guard := _ }) (v := ?_) rfl (by kernel_rfl) (by kernel_rfl) (by kernel_rfl) (fun _ _ _ h => h) (Or.inl ⟨by rfl, ?_⟩) hHeld ?_
                    rotate_left
                    · (intro w hSw; (try dsimp only at hSw); go_simp); all_goals with_reducible rfl
                    try simp only [Act.put, List.setIfInBounds_toArray, List.set_cons_zero, List.set_cons_succ]
                    refine wpAnyH_take (i := 11) (oi := { dst := some 113, op := _, type := _, pos := _, after := _, guard := _ }) (v := ?_) rfl (by kernel_rfl) (by kernel_rfl) (by kernel_rfl) (fun _ _ _ h => h) (Or.inl ⟨by rfl, ?_⟩) hHeld ?_
                    rotate_left
                    · (intro w hSw; (try dsimp only at hSw); go_simp); all_goals with_reducible rfl
                    try simp only [Act.put, List.setIfInBounds_toArray, List.set_cons_zero, List.set_cons_succ]
                    refine wpAnyH_take (i := 12) (oi := { dst := some 114, op := _, type := _, pos := _, after := _, guard := _ }) (v := ?_) rfl (by kernel_rfl) (by kernel_rfl) (by kernel_rfl) (fun _ _ _ h => h) (Or.inl ⟨by rfl, ?_⟩) hHeld ?_
                    rotate_left
                    · (intro w hSw; (try dsimp only at hSw); go_simp); all_goals with_reducible rfl
                    try simp only [Act.put, List.setIfInBounds_toArray, List.set_cons_zero, List.set_cons_succ]
                    refine wpAnyH_take (i := 13) (oi := { dst := some 115, op := _, type := _, pos := _, after := _, guard := _ }) (v := ?_) rfl (by kernel_rfl) (by kernel_rfl) (by kernel_rfl) (fun _ _ _ h => h) (Or.inl ⟨by rfl, ?_⟩) hHeld ?_
                    rotate_left
                    · (intro w hSw; (try dsimp only at hSw); go_simp); all_goals with_reducible rfl
                    try simp only [Act.put, List.setIfInBounds_toArray, List.set_cons_zero, List.set_cons_succ]
                    refine wpAnyH_take (i := 14) (oi := { dst := some 116, op := _, type := _, pos := _, after := _, guard := _ }) (v := ?_) rfl (by kernel_rfl) (by kernel_rfl) (by kernel_rfl) (fun _ _ _ h => h) (Or.inl ⟨by rfl, ?_⟩) hHeld ?_
                    rotate_left
                    · (intro w hSw; (try dsimp only at hSw); go_simp); all_goals with_reducible rfl
                    try simp only [Act.put, List.setIfInBounds_toArray, List.set_cons_zero, List.set_cons_succ]
                    refine wpAnyH_take (i := 15) (oi := { dst := some 117, op := _, type := _, pos := _, after := _, guard := _ }) (v := ?_) rfl (by kernel_rfl) (by kernel_rfl) (by kernel_rfl) (fun _ _ _ h => h) (Or.inl ⟨by rfl, ?_⟩) hHeld ?_
                    rotate_left
                    · (intro w hSw; (try dsimp only at hSw); go_simp); all_goals with_reducible rfl
                    try simp only [Act.put, List.setIfInBounds_toArray, List.set_cons_zero, List.set_cons_succ]
                    refine wpAnyH_take (i := 16) (oi := { dst := some 118, op := _, type := _, pos := _, after := _, guard := _ }) (v := ?_) rfl (by kernel_rfl) (by kernel_rfl) (by kernel_rfl) (fun _ _ _ h => h) (Or.inl ⟨by rfl, ?_⟩) hHeld ?_
                    rotate_left
                    · (intro w hSw; (try dsimp only at hSw); go_simp); all_goals with_reducible rfl
                    try simp only [Act.put, List.setIfInBounds_toArray, List.set_cons_zero, List.set_cons_succ]
                    refine wpAnyH_take (i := 17) (oi := { dst := some 119, op := _, type := _, pos := _, after := _, guard := _ }) (v := ?_) rfl (by kernel_rfl) (by kernel_rfl) (by kernel_rfl) (fun _ _ _ h => h) (Or.inl ⟨by rfl, ?_⟩) hHeld ?_
                    rotate_left
                    · (intro w hSw; (try dsimp only at hSw); go_simp); all_goals with_reducible rfl
                    try simp only [Act.put, List.setIfInBounds_toArray, List.set_cons_zero, List.set_cons_succ]
                    refine wpAnyH_take (i := 18) (oi := { dst := some 120, op := _, type := _, pos := _, after := _, guard := _ }) (v := ?_) rfl (by kernel_rfl) (by kernel_rfl) (by kernel_rfl) (fun _ _ _ h => h) (Or.inl ⟨by rfl, ?_⟩) hHeld ?_
                    rotate_left
                    · (intro w hSw; (try dsimp only at hSw); go_simp); all_goals with_reducible rfl
                    try simp only [Act.put, List.setIfInBounds_toArray, List.set_cons_zero, List.set_cons_succ]
                    refine wpAnyH_take (i := 19) (oi := { dst := some 121, op := _, type := _, pos := _, after := _, guard := _ }) (v := ?_) rfl (by kernel_rfl) (by kernel_rfl) (by kernel_rfl) (fun _ _ _ h => h) (Or.inl ⟨by rfl, ?_⟩) hHeld ?_
                    rotate_left
                    · (intro w hSw; (try dsimp only at hSw); go_simp); all_goals with_reducible rfl
                    try simp only [Act.put, List.setIfInBounds_toArray, List.set_cons_zero, List.set_cons_succ]
                    refine wpAnyH_take (i := 20) (oi := { dst := some 122, op := _, type := _, pos := _, after := _, guard := _ }) (v := ?_) rfl (by kernel_rfl) (by kernel_rfl) (by kernel_rfl) (fun _ _ _ h => h) (Or.inl ⟨by rfl, ?_⟩) hHeld ?_
                    rotate_left
                    · (intro w hSw; (try dsimp only at hSw); go_simp); all_goals with_reducible rfl
                    try simp only [Act.put, List.setIfInBounds_toArray, List.set_cons_zero, List.set_cons_succ]
                    clear f1 f2 f3 f4 f5 b1 b2 b3 b4 b5 fi u0 u1
                    refine wpAnyH_ready (rs := [0]) (by kernel_rfl) (by simp) (AllReadyH.cons (o := _) rfl (fun K hK => ?_) AllReadyH.nil)
                    refine step_load_16 rfl _ rfl (w.heap.size + 3) 0 rfl (Cs.range HID.out.2.1) hul ?_
                    refine hK.out _ _ HD.out (fun hHeld => ?_)
                    clear hK K
                    refine wpAnyH_ready (rs := [21]) (by kernel_rfl) (by simp) (AllReadyH.cons (o := _) rfl (fun K hK => ?_) AllReadyH.nil)
                    go_simp
                    refine (mixr_any (i := n) (j := n1) (k := n2) (l := n3) x y hVn (by have := HL.out; omega) HL.out.1 HL.out.2.1 HL.out.2.2.1).mono ?_
                    rintro e w4 ⟨rfl, b4⟩
                    have HD4 := Lib.hid (show w4.cell? ⟨g, n4, none⟩ = some (.int .i64 (t0 : Int)) ∧ w4.cell? ⟨g, n5, none⟩ = some (.int .i64 (t1 : Int)) ∧ w4.cell? ⟨w.heap.size + 2, t0, none⟩ = some (wv x) ∧ w4.cell? ⟨w.heap.size + 2, t1, none⟩ = some (wv y) from
                      ⟨lift_cell (w := wr.drew) HD.out.1 b4, lift_cell (w := wr.drew) HD.out.2.1 b4, lift_cell (w := wr.drew) HD.out.2.2.1 b4, lift_cell (w := wr.drew) HD.out.2.2.2 b4⟩)
                    have H4 := Lib.hid (And.intro (HID.out.1.below b4) (And.intro (HID.out.2.1.below b4) (HID.out.2.2.below b4)))
                    clear b4 HID HD
                    refine hK.out _ _ HD4.out (fun hHeld => ?_)
                    clear hK K
                    have hE := Lib.hid (show mixL (half1 (rowW (msg bs) r) n V) n n1 n2 n3 x y = half1 (rowW (msg bs) r) (n + 1) V by
                      obtain ⟨q1, q2, q3, q4, q5⟩ := HL.out.2.2.2.2
                      rw [← HX.out.1, ← HX.out.2, q1, q2, q3, q4, q5]; rfl)
                    have hml : (wvs (half1 (rowW (msg bs) r) (n + 1) V)).length = 16 := by rw [wvs_len, half1_len, hVl]
                    rw [hE.out]
                    refine wpAnyH_ready (rs := [22]) (by kernel_rfl) (by simp) (AllReadyH.cons (o := _) rfl (fun K hK => ?_) AllReadyH.nil)
                    refine step_store_16 rfl _ _ rfl (w.heap.size + 3) rfl rfl H4.out.2.1 hul hml (wvs_one _) ?_
                    intro w5 c5 k5
                    have H5 := Lib.hid (And.intro (H4.out.1.keep k5 (fun b e => by omega)) (And.intro c5 (Cs.keep (S := fun x => x = w.heap.size + 3) H4.out.2.2 k5 (by omega))))
                    refine hK.out _ _ ⟨lift_keep HD4.out.1 k5 (by show ¬ g = w.heap.size + 3; omega), lift_keep HD4.out.2.1 k5 (by show ¬ g = w.heap.size + 3; omega), lift_keep HD4.out.2.2.1 k5 (by show ¬ w.heap.size + 2 = w.heap.size + 3; omega), lift_keep HD4.out.2.2.2 k5 (by show ¬ w.heap.size + 2 = w.heap.size + 3; omega)⟩ (fun hHeld => ?_)
                    refine wpAnyH_done (by kernel_rfl) ?_ _
                    clear hHeld hK K c5 k5 H4 HD4 hE HL HX
                    go_wp2_with fail
                    go_roundw
                    case rel => exact ⟨n + 1, by omega, by go_num, H5⟩
                    case measure => simp [intOf]; omega
                  · obtain rfl : n = 4 := by omega
                    have hVl1 := half1_len (rowW (msg bs) r) V 4
                    rw [hVl] at hVl1
                    generalize half1 (rowW (msg bs) r) 4 V = V1 at *
                    go_wp2_with fail
                    go_loopw [16, 124, 125, 126, 127, 128, 129, 130, 131, 132, 133, 134, 135, 136, 137, 138, 139, 140, 141, 142, 143, 144, 145, 146, 147, 148, 149, 150, 151, 152, 153, 154, 155, 156] (fun s16 _ _ _ _ _ _ _ _ _ _ _ _ _ _ _ _ _ _ _ _ _ _ _ _ _ _ _ _ _ _ _ _ _ wr => ∃ n : Nat, n ≤ 4 ∧ s16 = .int .i64 n ∧ Hid (Ra w wr h (msg bs) ∧ Ws wr (w.heap.size + 3) 65 (half2 (rowW (msg bs) r) n V1) ∧ Cs wr g 67 (rowV r))) (fun s16 _ _ _ _ _ _ _ _ _ _ _ _ _ _ _ _ _ _ _ _ _ _ _ _ _ _ _ _ _ _ _ _ _ _ => 4 - (intOf s16).toNat)
                    case atStart => exact ⟨0, by omega, rfl, HI⟩
                    case round =>
                      clear HI
                      obtain ⟨n, hn, rfl, HI⟩ := hrel
                      by_cases hn' : n < 4
                      · have hVn := half2_len (rowW (msg bs) r) V1 n
                        rw [hVl1] at hVn
                        have dn : decide ((n : Int) < 4) = true := by simp; omega
                        go_upto_region 27 with fail
                        clear dn
                        obtain ⟨m1, m2, m3, a1, a2, a3, n1, n2, n3, nn, n4, n5, hx⟩ := ix5 hn'
                        obtain ⟨f0, f1, f2, f3, f4, f5, f6, e4, e5, e6, f7, f8, f9, g1, g2, g3, b1, b2, b3, b4, b5, l0, l1, l2, l3, l4, l5, hq⟩ := hx
                        have s0 := sg_lt r n4
                        have s5 := sg_lt r n5
                        have d0 := (HI.out.2.2.at n4).trans (rowV_at hr' l4)
                        have d1 := (HI.out.2.2.at n5).trans (rowV_at hr' l5)
                        have m0 := HI.out.1.m.at (i := sg r n4) (by rw [msg_len]; exact s0)
                        have m1 := HI.out.1.m.at (i := sg r n5) (by rw [msg_len]; exact s5)
                        have HX := Lib.hid (And.intro (rowW_at (msg bs) r l4) (rowW_at (msg bs) r l5))
                        generalize wAt (msg bs) (sg r n4) = x at *
                        generalize wAt (msg bs) (sg r n5) = y at *
                        generalize sg r n4 = t0 at *
                        generalize sg r n5 = t1 at *
                        have u0 : (t0 : Int) < 16 := by omega
                        have u1 : (t1 : Int) < 16 := by omega
                        have HD := Lib.hid (And.intro d0 (And.intro d1 (And.intro m0 m1)))
                        have HID := Lib.hid (And.intro HI.out.1.drew (And.intro HI.out.2.1.drew (Cs.drew HI.out.2.2)))
                        have hul : (wvs (half2 (rowW (msg bs) r) n V1)).length = 16 := by rw [wvs_len, hVn]
                        have HL := Lib.hid (And.intro l1 (And.intro l2 (And.intro l3 (And.intro hn' hq))))
                        clear HI l0 l1 l2 l3 l4 l5 hq s0 s5 m0 m1 d0 d1
                        refine wp_region_held_drew (S := (fun W : World => W.cell? ⟨g, n4, none⟩ = some (.int .i64 (t0 : Int)) ∧ W.cell? ⟨g, n5, none⟩ = some (.int .i64 (t1 : Int)) ∧ W.cell? ⟨w.heap.size + 2, t0, none⟩ = some (wv x) ∧ W.cell? ⟨w.heap.size + 2, t1, none⟩ = some (wv y))) (by kernel_rfl) HD.out (fun hHeld => ?_)
                        refine wpAnyH_take (i := 1) (oi := { dst := some 129, op := _, type := _, pos := _, after := _, guard := _ }) (v := ?_) rfl (by kernel_rfl) (by kernel_rfl) (by kernel_rfl) (fun _ _ _ h => h) (Or.inl ⟨by rfl, ?_⟩) hHeld ?_
                        rotate_left
                        · (intro w hSw; (try dsimp only at hSw); go_simp); all_goals with_reducible rfl
                        try simp only [Act.put, List.setIfInBounds_toArray, List.set_cons_zero, List.set_cons_succ]
                        refine wpAnyH_take (i := 2) (oi := { dst := some 130, op := _, type := _, pos := _, after := _, guard := _ }) (v := ?_) rfl (by kernel_rfl) (by kernel_rfl) (by kernel_rfl) (fun _ _ _ h => h) (Or.inl ⟨by rfl, ?_⟩) hHeld ?_
                        rotate_left
                        · (intro w hSw; (try dsimp only at hSw); go_simp); all_goals with_reducible rfl
                        try simp only [Act.put, List.setIfInBounds_toArray, List.set_cons_zero, List.set_cons_succ]
                        refine wpAnyH_take (i := 3) (oi := { dst := some 131, op := _, type := _, pos := _, after := _, guard := _ }) (v := ?_) rfl (by kernel_rfl) (by kernel_rfl) (by kernel_rfl) (fun _ _ _ h => h) (Or.inl ⟨by rfl, ?_⟩) hHeld ?_
                        rotate_left
                        · (intro w hSw; (try dsimp only at hSw); go_simp); all_goals with_reducible rfl
                        try simp only [Act.put, List.setIfInBounds_toArray, List.set_cons_zero, List.set_cons_succ]
                        refine wpAnyH_take (i := 4) (oi := { dst := some 132, op := _, type := _, pos := _, after := _, guard := _ }) (v := ?_) rfl (by kernel_rfl) (by kernel_rfl) (by kernel_rfl) (fun _ _ _ h => h) (Or.inl ⟨by rfl, ?_⟩) hHeld ?_
                        rotate_left
                        · (intro w hSw; (try dsimp only at hSw); go_simp); all_goals with_reducible rfl
                        try simp only [Act.put, List.setIfInBounds_toArray, List.set_cons_zero, List.set_cons_succ]
                        refine wpAnyH_take (i := 5) (oi := { dst := some 133, op := _, type := _, pos := _, after := _, guard := _ }) (v := ?_) rfl (by kernel_rfl) (by kernel_rfl) (by kernel_rfl) (fun _ _ _ h => h) (Or.inl ⟨by rfl, ?_⟩) hHeld ?_
                        rotate_left
                        · (intro w hSw; (try dsimp only at hSw); go_simp); all_goals with_reducible rfl
                        try simp only [Act.put, List.setIfInBounds_toArray, List.set_cons_zero, List.set_cons_succ]
                        refine wpAnyH_take (i := 6) (oi := { dst := some 134, op := _, type := _, pos := _, after := _, guard := _ }) (v := ?_) rfl (by kernel_rfl) (by kernel_rfl) (by kernel_rfl) (fun _ _ _ h => h) (Or.inl ⟨by rfl, ?_⟩) hHeld ?_
                        rotate_left
                        · (intro w hSw; (try dsimp only at hSw); go_simp); all_goals with_reducible rfl
                        try simp only [Act.put, List.setIfInBounds_toArray, List.set_cons_zero, List.set_cons_succ]
                        refine wpAnyH_take (i := 7) (oi := { dst := some 135, op := _, type := _, pos := _, after := _, guard := _ }) (v := ?_) rfl (by kernel_rfl) (by kernel_rfl) (by kernel_rfl) (fun _ _ _ h => h) (Or.inl ⟨by rfl, ?_⟩) hHeld ?_
                        rotate_left
                        · (intro w hSw; (try dsimp only at hSw); go_simp); all_goals with_reducible rfl
                        try simp only [Act.put, List.setIfInBounds_toArray, List.set_cons_zero, List.set_cons_succ]
                        refine wpAnyH_take (i := 8) (oi := { dst := some 136, op := _, type := _, pos := _, after := _, guard := _ }) (v := ?_) rfl (by kernel_rfl) (by kernel_rfl) (by kernel_rfl) (fun _ _ _ h => h) (Or.inl ⟨by rfl, ?_⟩) hHeld ?_
                        rotate_left
                        · (intro w hSw; (try dsimp only at hSw); go_simp); all_goals with_reducible rfl
                        try simp only [Act.put, List.setIfInBounds_toArray, List.set_cons_zero, List.set_cons_succ]
                        refine wpAnyH_take (i := 9) (oi := { dst := some 137, op := _, type := _, pos := _, after := _, guard := _ }) (v := ?_) rfl (by kernel_rfl) (by kernel_rfl) (by kernel_rfl) (fun _ _ _ h => h) (Or.inl ⟨by rfl, ?_⟩) hHeld ?_
                        rotate_left
                        · (intro w hSw; (try dsimp only at hSw); go_simp); all_goals with_reducible rfl
                        try simp only [Act.put, List.setIfInBounds_toArray, List.set_cons_zero, List.set_cons_succ]
                        refine wpAnyH_take (i := 10) (oi := { dst := some 138, op := _, type := _, pos := _, after := _, guard := _ }) (v := ?_) rfl (by kernel_rfl) (by kernel_rfl) (by kernel_rfl) (fun _ _ _ h => h) (Or.inl ⟨by rfl, ?_⟩) hHeld ?_
                        rotate_left
                        · (intro w hSw; (try dsimp only at hSw); go_simp); all_goals with_reducible rfl
                        try simp only [Act.put, List.setIfInBounds_toArray, List.set_cons_zero, List.set_cons_succ]
                        refine wpAnyH_take (i := 11) (oi := { dst := some 139, op := _, type := _, pos := _, after := _, guard := _ }) (v := ?_) rfl (by kernel_rfl) (by kernel_rfl) (by kernel_rfl) (fun _ _ _ h => h) (Or.inl ⟨by rfl, ?_⟩) hHeld ?_
                        rotate_left
                        · (intro w hSw; (try dsimp only at hSw); go_simp); all_goals with_reducible rfl
                        try simp only [Act.put, List.setIfInBounds_toArray, List.set_cons_zero, List.set_cons_succ]
                        refine wpAnyH_take (i := 12) (oi := { dst := some 140, op := _, type := _, pos := _, after := _, guard := _ }) (v := ?_) rfl (by kernel_rfl) (by kernel_rfl) (by kernel_rfl) (fun _ _ _ h => h) (Or.inl ⟨by rfl, ?_⟩) hHeld ?_
                        rotate_left
                        · (intro w hSw; (try dsimp only at hSw); go_simp); all_goals with_reducible rfl
                        try simp only [Act.put, List.setIfInBounds_toArray, List.set_cons_zero, List.set_cons_succ]
                        refine wpAnyH_take (i := 13) (oi := { dst := some 141, op := _, type := _, pos := _, after := _, guard := _ }) (v := ?_) rfl (by kernel_rfl) (by kernel_rfl) (by kernel_rfl) (fun _ _ _ h => h) (Or.inl ⟨by rfl, ?_⟩) hHeld ?_
                        rotate_left
                        · (intro w hSw; (try dsimp only at hSw); go_simp); all_goals with_reducible rfl
                        try simp only [Act.put, List.setIfInBounds_toArray, List.set_cons_zero, List.set_cons_succ]
                        refine wpAnyH_take (i := 14) (oi := { dst := some 142, op := _, type := _, pos := _, after := _, guard := _ }) (v := ?_) rfl (by kernel_rfl) (by kernel_rfl) (by kernel_rfl) (fun _ _ _ h => h) (Or.inl ⟨by rfl, ?_⟩) hHeld ?_
                        rotate_left
                        · (intro w hSw; (try dsimp only at hSw); go_simp); all_goals with_reducible rfl
                        try simp only [Act.put, List.setIfInBounds_toArray, List.set_cons_zero, List.set_cons_succ]
                        refine wpAnyH_take (i := 15) (oi := { dst := some 143, op := _, type := _, pos := _, after := _, guard := _ }) (v := ?_) rfl (by kernel_rfl) (by kernel_rfl) (by kernel_rfl) (fun _ _ _ h => h) (Or.inl ⟨by rfl, ?_⟩) hHeld ?_
                        rotate_left
                        · (intro w hSw; (try dsimp only at hSw); go_simp); all_goals with_reducible rfl
                        try simp only [Act.put, List.setIfInBounds_toArray, List.set_cons_zero, List.set_cons_succ]
                        refine wpAnyH_take (i := 16) (oi := { dst := some 144, op := _, type := _, pos := _, after := _, guard := _ }) (v := ?_) rfl (by kernel_rfl) (by kernel_rfl) (by kernel_rfl) (fun _ _ _ h => h) (Or.inl ⟨by rfl, ?_⟩) hHeld ?_
                        rotate_left
                        · (intro w hSw; (try dsimp only at hSw); go_simp); all_goals with_reducible rfl
                        try simp only [Act.put, List.setIfInBounds_toArray, List.set_cons_zero, List.set_cons_succ]
                        refine wpAnyH_take (i := 17) (oi := { dst := some 145, op := _, type := _, pos := _, after := _, guard := _ }) (v := ?_) rfl (by kernel_rfl) (by kernel_rfl) (by kernel_rfl) (fun _ _ _ h => h) (Or.inl ⟨by rfl, ?_⟩) hHeld ?_
                        rotate_left
                        · (intro w hSw; (try dsimp only at hSw); go_simp); all_goals with_reducible rfl
                        try simp only [Act.put, List.setIfInBounds_toArray, List.set_cons_zero, List.set_cons_succ]
                        refine wpAnyH_take (i := 18) (oi := { dst := some 146, op := _, type := _, pos := _, after := _, guard := _ }) (v := ?_) rfl (by kernel_rfl) (by kernel_rfl) (by kernel_rfl) (fun _ _ _ h => h) (Or.inl ⟨by rfl, ?_⟩) hHeld ?_
                        rotate_left
                        · (intro w hSw; (try dsimp only at hSw); go_simp); all_goals with_reducible rfl
                        try simp only [Act.put, List.setIfInBounds_toArray, List.set_cons_zero, List.set_cons_succ]
                        refine wpAnyH_take (i := 19) (oi := { dst := some 147, op := _, type := _, pos := _, after := _, guard := _ }) (v := ?_) rfl (by kernel_rfl) (by kernel_rfl) (by kernel_rfl) (fun _ _ _ h => h) (Or.inl ⟨by rfl, ?_⟩) hHeld ?_
                        rotate_left
                        · (intro w hSw; (try dsimp only at hSw); go_simp); all_goals with_reducible rfl
                        try simp only [Act.put, List.setIfInBounds_toArray, List.set_cons_zero, List.set_cons_succ]
                        refine wpAnyH_take (i := 20) (oi := { dst := some 148, op := _, type := _, pos := _, after := _, guard := _ }) (v := ?_) rfl (by kernel_rfl) (by kernel_rfl) (by kernel_rfl) (fun _ _ _ h => h) (Or.inl ⟨by rfl, ?_⟩) hHeld ?_
                        rotate_left
                        · (intro w hSw; (try dsimp only at hSw); go_simp); all_goals with_reducible rfl
                        try simp only [Act.put, List.setIfInBounds_toArray, List.set_cons_zero, List.set_cons_succ]
                        refine wpAnyH_take (i := 21) (oi := { dst := some 149, op := _, type := _, pos := _, after := _, guard := _ }) (v := ?_) rfl (by kernel_rfl) (by kernel_rfl) (by kernel_rfl) (fun _ _ _ h => h) (Or.inl ⟨by rfl, ?_⟩) hHeld ?_
                        rotate_left
                        · (intro w hSw; (try dsimp only at hSw); go_simp); all_goals with_reducible rfl
                        try simp only [Act.put, List.setIfInBounds_toArray, List.set_cons_zero, List.set_cons_succ]
                        refine wpAnyH_take (i := 22) (oi := { dst := some 150, op := _, type := _, pos := _, after := _, guard := _ }) (v := ?_) rfl (by kernel_rfl) (by kernel_rfl) (by kernel_rfl) (fun _ _ _ h => h) (Or.inl ⟨by rfl, ?_⟩) hHeld ?_
                        rotate_left
                        · (intro w hSw; (try dsimp only at hSw); go_simp); all_goals with_reducible rfl
                        try simp only [Act.put, List.setIfInBounds_toArray, List.set_cons_zero, List.set_cons_succ]
                        refine wpAnyH_take (i := 23) (oi := { dst := some 151, op := _, type := _, pos := _, after := _, guard := _ }) (v := ?_) rfl (by kernel_rfl) (by kernel_rfl) (by kernel_rfl) (fun _ _ _ h => h) (Or.inl ⟨by rfl, ?_⟩) hHeld ?_
                        rotate_left
                        · (intro w hSw; (try dsimp only at hSw); go_simp); all_goals with_reducible rfl
                        try simp only [Act.put, List.setIfInBounds_toArray, List.set_cons_zero, List.set_cons_succ]
                        refine wpAnyH_take (i := 24) (oi := { dst := some 152, op := _, type := _, pos := _, after := _, guard := _ }) (v := ?_) rfl (by kernel_rfl) (by kernel_rfl) (by kernel_rfl) (fun _ _ _ h => h) (Or.inl ⟨by rfl, ?_⟩) hHeld ?_
                        rotate_left
                        · (intro w hSw; (try dsimp only at hSw); go_simp); all_goals with_reducible rfl
                        try simp only [Act.put, List.setIfInBounds_toArray, List.set_cons_zero, List.set_cons_succ]
                        refine wpAnyH_take (i := 25) (oi := { dst := some 153, op := _, type := _, pos := _, after := _, guard := _ }) (v := ?_) rfl (by kernel_rfl) (by kernel_rfl) (by kernel_rfl) (fun _ _ _ h => h) (Or.inl ⟨by rfl, ?_⟩) hHeld ?_
                        rotate_left
                        · (intro w hSw; (try dsimp only at hSw); go_simp); all_goals with_reducible rfl
                        try simp only [Act.put, List.setIfInBounds_toArray, List.set_cons_zero, List.set_cons_succ]
                        refine wpAnyH_take (i := 26) (oi := { dst := some 154, op := _, type := _, pos := _, after := _, guard := _ }) (v := ?_) rfl (by kernel_rfl) (by kernel_rfl) (by kernel_rfl) (fun _ _ _ h => h) (Or.inl ⟨by rfl, ?_⟩) hHeld ?_
                        rotate_left
                        · (intro w hSw; (try dsimp only at hSw); go_simp); all_goals with_reducible rfl
                        try simp only [Act.put, List.setIfInBounds_toArray, List.set_cons_zero, List.set_cons_succ]
                        refine wpAnyH_take (i := 27) (oi := { dst := some 155, op := _, type := _, pos := _, after := _, guard := _ }) (v := ?_) rfl (by kernel_rfl) (by kernel_rfl) (by kernel_rfl) (fun _ _ _ h => h) (Or.inl ⟨by rfl, ?_⟩) hHeld ?_
                        rotate_left
                        · (intro w hSw; (try dsimp only at hSw); go_simp); all_goals with_reducible rfl
                        try simp only [Act.put, List.setIfInBounds_toArray, List.set_cons_zero, List.set_cons_succ]
                        clear f0 f1 f2 f3 f4 f5 f6 f7 f8 f9 e4 e5 e6 g1 g2 g3 b1 b2 b3 b4 b5 u0 u1
                        refine wpAnyH_ready (rs := [0]) (by kernel_rfl) (by simp) (AllReadyH.cons (o := _) rfl (fun K hK => ?_) AllReadyH.nil)
                        refine step_load_16 rfl _ rfl (w.heap.size + 3) 0 rfl (Cs.range HID.out.2.1) hul ?_
                        refine hK.out _ _ HD.out (fun hHeld => ?_)
                        clear hK K
                        refine wpAnyH_ready (rs := [28]) (by kernel_rfl) (by simp) (AllReadyH.cons (o := _) rfl (fun K hK => ?_) AllReadyH.nil)
                        go_simp
                        refine (mixr_any (i := n) (j := n1) (k := n2) (l := n3) x y hVn (by have := HL.out; omega) HL.out.1 HL.out.2.1 HL.out.2.2.1).mono ?_
                        rintro e w4 ⟨rfl, b4⟩
                        have HD4 := Lib.hid (show w4.cell? ⟨g, n4, none⟩ = some (.int .i64 (t0 : Int)) ∧ w4.cell? ⟨g, n5, none⟩ = some (.int .i64 (t1 : Int)) ∧ w4.cell? ⟨w.heap.size + 2, t0, none⟩ = some (wv x) ∧ w4.cell? ⟨w.heap.size + 2, t1, none⟩ = some (wv y) from
                          ⟨lift_cell (w := wr.drew) HD.out.1 b4, lift_cell (w := wr.drew) HD.out.2.1 b4, lift_cell (w := wr.drew) HD.out.2.2.1 b4, lift_cell (w := wr.drew) HD.out.2.2.2 b4⟩)
                        have H4 := Lib.hid (And.intro (HID.out.1.below b4) (And.intro (HID.out.2.1.below b4) (HID.out.2.2.below b4)))
                        clear b4 HID HD
                        refine hK.out _ _ HD4.out (fun hHeld => ?_)
                        clear hK K
                        have hE := Lib.hid (show mixL (half2 (rowW (msg bs) r) n V1) n n1 n2 n3 x y = half2 (rowW (msg bs) r) (n + 1) V1 by
                          obtain ⟨q1, q2, q3, q4, q5⟩ := HL.out.2.2.2.2
                          rw [← HX.out.1, ← HX.out.2, ← q1, ← q2, ← q3, ← q4, ← q5]; rfl)
                        have hml : (wvs (half2 (rowW (msg bs) r) (n + 1) V1)).length = 16 := by rw [wvs_len, half2_len, hVl1]
                        rw [hE.out]
                        refine wpAnyH_ready (rs := [29]) (by kernel_rfl) (by simp) (AllReadyH.cons (o := _) rfl (fun K hK => ?_) AllReadyH.nil)
                        refine step_store_16 rfl _ _ rfl (w.heap.size + 3) rfl rfl H4.out.2.1 hul hml (wvs_one _) ?_
                        intro w5 c5 k5
                        have H5 := Lib.hid (And.intro (H4.out.1.keep k5 (fun b e => by omega)) (And.intro c5 (Cs.keep (S := fun x => x = w.heap.size + 3) H4.out.2.2 k5 (by omega))))
                        refine hK.out _ _ ⟨lift_keep HD4.out.1 k5 (by show ¬ g = w.heap.size + 3; omega), lift_keep HD4.out.2.1 k5 (by show ¬ g = w.heap.size + 3; omega), lift_keep HD4.out.2.2.1 k5 (by show ¬ w.heap.size + 2 = w.heap.size + 3; omega), lift_keep HD4.out.2.2.2 k5 (by show ¬ w.heap.size + 2 = w.heap.size + 3; omega)⟩ (fun hHeld => ?_)
                        refine wpAnyH_done (by kernel_rfl) ?_ _
                        clear hHeld hK K c5 k5 H4 HD4 hE HL HX
                        go_wp2_with fail
                        refine ⟨?_, ?measure⟩
                        (repeat apply Exists.intro)
                        refine ⟨?rel, rfl⟩
                        case rel => exact ⟨n + 1, by omega, by go_num, H5⟩
                        case measure => simp [intOf]; omega
                      · obtain rfl : n = 4 := by omega
                        rw [← HRD.out] at HI
                        have HO2 := Lib.hid (And.intro HI.out.1 HI.out.2.1)
                        clear HI
                        go_wp2_with fail
                        refine ⟨?_, ?measure⟩
                        (repeat apply Exists.intro)
                        refine ⟨?rel, rfl⟩
                        case rel => exact ⟨r + 1, by omega, by go_num, HO2⟩
                        case measure => simp [intOf]; omega
              · obtain rfl : r = 10 := by omega
                have hVr := rounds_len (msg bs) V0 10
                rw [hv0] at hVr
                have HR := Lib.hid (show blockP h bs many last = outW h (rounds (msg bs) 10 V0) by rw [← HV0.out]; rfl)
                have HB0 : Hid (Ra w wr (ow h (rounds (msg bs) 10 V0) 0) (msg bs) ∧ Ws wr (w.heap.size + 3) 65 (rounds (msg bs) 10 V0)) := by rw [ow_zero hl]; exact HI
                clear HI
                generalize rounds (msg bs) 10 V0 = V at *
                go_wp2_with fail
                go_loopw [17, 157, 158, 159, 160, 161, 162, 163, 164, 165, 166, 167, 168, 169, 170, 171, 172, 173, 174] (fun s17 _ _ _ _ _ _ _ _ _ _ _ _ _ _ _ _ _ _ wr => ∃ i : Nat, i ≤ 8 ∧ s17 = .int .i64 i ∧ Hid (Ra w wr (ow h V i) (msg bs) ∧ Ws wr (w.heap.size + 3) 65 V)) (fun s17 _ _ _ _ _ _ _ _ _ _ _ _ _ _ _ _ _ _ _ => 8 - (intOf s17).toNat)
                case atStart => exact ⟨0, by omega, rfl, HB0⟩
                case round =>
                  clear HB0
                  obtain ⟨i, hi, rfl, HI⟩ := hrel
                  by_cases hi' : i < 8
                  · have dn : decide ((i : Int) < 8) = true := by simp; omega
                    go_upto_region 31 with fail
                    clear dn
                    have c0 := (HI.out.1.h.at (i := i) (by rw [ow_len]; exact hi')).trans (by rw [ow_at _ _ _ hi', owAt, if_neg (by omega)])
                    have z0 := HI.out.1.h.fz i
                    have v1 := HI.out.2.at (i := i) (by omega)
                    have v2 := HI.out.2.at (i := i + 8) (by omega)
                    have f0 : (i : Int) < 8 := by omega
                    have f1 : (i : Int) < 16 := by omega
                    have f2 : IntKind.i64.wrap ((i : Int) + 8) = ((i + 8 : Nat) : Int) := by rw [IntKind.wrap_i64]; omega
                    have f3 : ((i + 8 : Nat) : Int) < 16 := by omega
                    have hp := HI.out.1.puth i (wAt h i ^^^ (wAt V i ^^^ wAt V (i + 8)))
                    rw [ow_next _ _ hi'] at hp
                    have k8 := (Keep.refl (fun c => c = w.heap.size) wr).set (p := ⟨w.heap.size, i, none⟩) (fun _ => rfl) (wv (wAt h i ^^^ (wAt V i ^^^ wAt V (i + 8))))
                    have HN := Lib.hid (And.intro hp (HI.out.2.keep k8 (by omega)))
                    have HX := Lib.hid (show (wAt h i ^^^ wAt V i) ^^^ wAt V (i + 8) = wAt h i ^^^ (wAt V i ^^^ wAt V (i + 8)) from UInt32.xor_assoc ..)
                    clear hp k8 HI
                    obtain ⟨i8, hi8⟩ : ∃ m, i + 8 = m := ⟨_, rfl⟩
                    rw [hi8] at v2 f2 f3 HN HX
                    have hi8lt : i8 < 16 := by omega
                    clear hi8
                    refine wp_region_held_drew (S := (fun W : World => W.cell? ⟨w.heap.size + 3, i, none⟩ = some (wv (wAt V i)) ∧ W.cell? ⟨w.heap.size + 3, i8, none⟩ = some (wv (wAt V i8)))) (by kernel_rfl) ⟨v1, v2⟩ (fun hHeld => ?_)
                    refine wpAnyH_take (i := 0) (oi := { dst := some 161, op := _, type := _, pos := _, after := _, guard := _ }) (v := ?_) rfl (by kernel_rfl) (by kernel_rfl) (by kernel_rfl) (fun _ _ _ h => h) (Or.inl ⟨by rfl, ?_⟩) hHeld ?_
                    rotate_left
                    · (intro w hSw; (try dsimp only at hSw); go_simp); all_goals with_reducible rfl
                    try simp only [Act.put, List.setIfInBounds_toArray, List.set_cons_zero, List.set_cons_succ]
                    refine wpAnyH_take (i := 1) (oi := { dst := some 162, op := _, type := _, pos := _, after := _, guard := _ }) (v := ?_) rfl (by kernel_rfl) (by kernel_rfl) (by kernel_rfl) (fun _ _ _ h => h) (Or.inl ⟨by rfl, ?_⟩) hHeld ?_
                    rotate_left
                    · (intro w hSw; (try dsimp only at hSw); go_simp); all_goals with_reducible rfl
                    try simp only [Act.put, List.setIfInBounds_toArray, List.set_cons_zero, List.set_cons_succ]
                    refine wpAnyH_take (i := 2) (oi := { dst := some 163, op := _, type := _, pos := _, after := _, guard := _ }) (v := ?_) rfl (by kernel_rfl) (by kernel_rfl) (by kernel_rfl) (fun _ _ _ h => h) (Or.inl ⟨by rfl, ?_⟩) hHeld ?_
                    rotate_left
                    · (intro w hSw; (try dsimp only at hSw); go_simp); all_goals with_reducible rfl
                    try simp only [Act.put, List.setIfInBounds_toArray, List.set_cons_zero, List.set_cons_succ]
                    refine wpAnyH_take (i := 4) (oi := { dst := some 165, op := _, type := _, pos := _, after := _, guard := _ }) (v := ?_) rfl (by kernel_rfl) (by kernel_rfl) (by kernel_rfl) (fun _ _ _ h => h) (Or.inl ⟨by rfl, ?_⟩) hHeld ?_
                    rotate_left
                    · (intro w hSw; (try dsimp only at hSw); go_simp); all_goals with_reducible rfl
                    try simp only [Act.put, List.setIfInBounds_toArray, List.set_cons_zero, List.set_cons_succ]
                    refine wpAnyH_take (i := 5) (oi := { dst := some 166, op := _, type := _, pos := _, after := _, guard := _ }) (v := ?_) rfl (by kernel_rfl) (by kernel_rfl) (by kernel_rfl) (fun _ _ _ h => h) (Or.inl ⟨by rfl, ?_⟩) hHeld ?_
                    rotate_left
                    · (intro w hSw; (try dsimp only at hSw); go_simp); all_goals with_reducible rfl
                    try simp only [Act.put, List.setIfInBounds_toArray, List.set_cons_zero, List.set_cons_succ]
                    refine wpAnyH_take (i := 6) (oi := { dst := some 167, op := _, type := _, pos := _, after := _, guard := _ }) (v := ?_) rfl (by kernel_rfl) (by kernel_rfl) (by kernel_rfl) (fun _ _ _ h => h) (Or.inl ⟨by rfl, ?_⟩) hHeld ?_
                    rotate_left
                    · (intro w hSw; (try dsimp only at hSw); go_simp); all_goals with_reducible rfl
                    try simp only [Act.put, List.setIfInBounds_toArray, List.set_cons_zero, List.set_cons_succ]
                    refine wpAnyH_take (i := 8) (oi := { dst := some 169, op := _, type := _, pos := _, after := _, guard := _ }) (v := ?_) rfl (by kernel_rfl) (by kernel_rfl) (by kernel_rfl) (fun _ _ _ h => h) (Or.inl ⟨by rfl, ?_⟩) hHeld ?_
                    rotate_left
                    · (intro w hSw; (try dsimp only at hSw); go_simp); all_goals with_reducible rfl
                    try simp only [Act.put, List.setIfInBounds_toArray, List.set_cons_zero, List.set_cons_succ]
                    refine wpAnyH_take (i := 9) (oi := { dst := some 170, op := _, type := _, pos := _, after := _, guard := _ }) (v := ?_) rfl (by kernel_rfl) (by kernel_rfl) (by kernel_rfl) (fun _ _ _ h => h) (Or.inl ⟨by rfl, ?_⟩) hHeld ?_
                    rotate_left
                    · (intro w hSw; (try dsimp only at hSw); go_simp); all_goals with_reducible rfl
                    try simp only [Act.put, List.setIfInBounds_toArray, List.set_cons_zero, List.set_cons_succ]
                    refine wpAnyH_take (i := 10) (oi := { dst := some 171, op := _, type := _, pos := _, after := _, guard := _ }) (v := ?_) rfl (by kernel_rfl) (by kernel_rfl) (by kernel_rfl) (fun _ _ _ h => h) (Or.inl ⟨by rfl, ?_⟩) hHeld ?_
                    rotate_left
                    · (intro w hSw; (try dsimp only at hSw); go_simp); all_goals with_reducible rfl
                    try simp only [Act.put, List.setIfInBounds_toArray, List.set_cons_zero, List.set_cons_succ]
                    refine wpAnyH_take (i := 11) (oi := { dst := some 172, op := _, type := _, pos := _, after := _, guard := _ }) (v := ?_) rfl (by kernel_rfl) (by kernel_rfl) (by kernel_rfl) (fun _ _ _ h => h) (Or.inl ⟨by rfl, ?_⟩) hHeld ?_
                    rotate_left
                    · (intro w hSw; (try dsimp only at hSw); go_simp); all_goals with_reducible rfl
                    try simp only [Act.put, List.setIfInBounds_toArray, List.set_cons_zero, List.set_cons_succ]
                    refine wpAnyH_ready (rs := [3]) (by kernel_rfl) (by simp) (AllReadyH.cons (o := _) rfl (fun K hK => ?_) AllReadyH.nil)
                    go_simp
                    refine hK.out _ _ ⟨v1, v2⟩ (fun hHeld => ?_)
                    clear hK K
                    refine wpAnyH_take (i := 7) (oi := { dst := some 168, op := _, type := _, pos := _, after := _, guard := _ }) (v := ?_) rfl (by kernel_rfl) (by kernel_rfl) (by kernel_rfl) (fun _ _ _ h => h) (Or.inl ⟨by rfl, ?_⟩) hHeld ?_
                    rotate_left
                    · (intro w hSw; (try dsimp only at hSw); go_simp); all_goals with_reducible rfl
                    try simp only [Act.put, List.setIfInBounds_toArray, List.set_cons_zero, List.set_cons_succ]
                    rw [w_xor]
                    generalize wAt h i ^^^ wAt V i = xx at HX ⊢
                    refine wpAnyH_take (i := 12) (oi := { dst := some 173, op := _, type := _, pos := _, after := _, guard := _ }) (v := ?_) rfl (by kernel_rfl) (by kernel_rfl) (by kernel_rfl) (fun _ _ _ h => h) (Or.inl ⟨by rfl, ?_⟩) hHeld ?_
                    rotate_left
                    · (intro w hSw; (try dsimp only at hSw); go_simp); all_goals with_reducible rfl
                    try simp only [Act.put, List.setIfInBounds_toArray, List.set_cons_zero, List.set_cons_succ]
                    rw [w_xor, HX.out]
                    refine wpAnyH_take (i := 13) (oi := { dst := some 174, op := _, type := _, pos := _, after := _, guard := _ }) (v := ?_) rfl (by kernel_rfl) (by kernel_rfl) (by kernel_rfl) (fun _ _ _ h => h) (Or.inl ⟨by rfl, ?_⟩) hHeld ?_
                    rotate_left
                    · (intro w hSw; (try dsimp only at hSw); go_simp); all_goals with_reducible rfl
                    try simp only [Act.put, List.setIfInBounds_toArray, List.set_cons_zero, List.set_cons_succ]
                    refine wpAnyH_ready (rs := [14]) (by kernel_rfl) (by simp) (AllReadyH.cons (o := _) rfl (fun K hK => ?_) AllReadyH.nil)
                    go_simp
                    refine hK.out _ _ ⟨HN.out.2.at (by omega), HN.out.2.at (by omega)⟩ (fun hHeld => ?_)
                    refine wpAnyH_done (by kernel_rfl) ?_ _
                    clear hHeld hK K c0 z0 v1 v2 f0 f1 f2 f3 HX
                    go_wp2_with fail
                    refine ⟨?_, ?measure⟩
                    (repeat apply Exists.intro)
                    refine ⟨?rel, rfl⟩
                    case rel => exact ⟨i + 1, by omega, by go_num, Lib.hid ⟨HN.out.1.drew, HN.out.2.drew⟩⟩
                    case measure => simp [intOf]; omega
                  · obtain rfl : i = 8 := by omega
                    rw [ow_end, ← HR.out] at HI
                    have hbl := blockP_len h bs many last
                    generalize hE : blockP h bs many last = R at *
                    have HE := Lib.hid hE
                    clear hE
                    have hul : (wvs R).length = 8 := by rw [wvs_len, hbl]
                    have hrg := Cs.range HI.out.1.h
                    go_wp2_with (first
                      | (with_reducible show wpList _ _ _ (⟨some 175, _, _, _, _, _⟩ :: _) _ _; refine wpList_load_8 _ rfl rfl w.heap.size 0 rfl hrg hul ?_)
                      | (refine wpList_store_8 (op := ⟨none, .store 33 _ _, _, _, _, _⟩) (cs := wvs R) rfl _ _ rfl (w.heap.size + 1) rfl rfl HI.out.1.o rfl hul (wvs_one _) ?_; intro w9 c9 k9))
                    refine bodyPost_ret (results_8 rfl _ _ (w.heap.size + 1) (cs := wvs R) hul rfl c9) rfl ⟨by rw [HE.out], ?_⟩
                    exact ((Keep.of_below (S := fun _ => False) HI.out.1.k).trans k9 (fun b hb e => by omega)).below (Nat.le_refl _) (fun b e => e.elim)
end Go.Proofs.YtmfajippoielhaaDoor
