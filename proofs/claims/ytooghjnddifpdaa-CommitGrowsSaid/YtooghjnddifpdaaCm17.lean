/- commit.Join. -/
import Derived.Test.YtooghjnddifpdaaCm16
namespace Go.Proofs.Ytooghjnddifpdaa
open Go.RowKit Go.Proofs.Ytooghjnddifpdaa.Cm BigFrame
set_option linter.unusedSimpArgs false
set_option linter.unusedVariables false
attribute [local go_sem] cell_alloc_some frozen_alloc_some

theorem built_2 (h k : Int) (A B : Option Addr) (n c m d : Nat) : ∀ (x y : List UInt8), x.length = 32 → y.length = 32 → Try.prog.built 82 [(0, .agg (ccs ⟨h, x, []⟩ (.slice A n c)).toArray), (1, .agg (ccs ⟨k, y, []⟩ (.slice B m d)).toArray)] = some (ccs ⟨h, x, []⟩ (.slice A n c) ++ ccs ⟨k, y, []⟩ (.slice B m d)).toArray
  | [x0, x1, x2, x3, x4, x5, x6, x7, x8, x9, x10, x11, x12, x13, x14, x15, x16, x17, x18, x19, x20, x21, x22, x23, x24, x25, x26, x27, x28, x29, x30, x31], [y0, y1, y2, y3, y4, y5, y6, y7, y8, y9, y10, y11, y12, y13, y14, y15, y16, y17, y18, y19, y20, y21, y22, y23, y24, y25, y26, y27, y28, y29, y30, y31], _, _ => by kernel_rfl
theorem index_20 (h k : Int) (A B : Option Addr) (n c m d : Nat) (w : World) : ∀ (x y : List UInt8), x.length = 32 → y.length = 32 → (Instr.index 82 (.agg (ccs ⟨h, x, []⟩ (.slice A n c) ++ ccs ⟨k, y, []⟩ (.slice B m d)).toArray) (.int .i64 0)).run Try.prog w = .ok (.agg (ccs ⟨h, x, []⟩ (.slice A n c)).toArray) w
  | [x0, x1, x2, x3, x4, x5, x6, x7, x8, x9, x10, x11, x12, x13, x14, x15, x16, x17, x18, x19, x20, x21, x22, x23, x24, x25, x26, x27, x28, x29, x30, x31], [y0, y1, y2, y3, y4, y5, y6, y7, y8, y9, y10, y11, y12, y13, y14, y15, y16, y17, y18, y19, y20, y21, y22, y23, y24, y25, y26, y27, y28, y29, y30, y31], _, _ => by kernel_rfl
theorem index_21 (h k : Int) (A B : Option Addr) (n c m d : Nat) (w : World) : ∀ (x y : List UInt8), x.length = 32 → y.length = 32 → (Instr.index 82 (.agg (ccs ⟨h, x, []⟩ (.slice A n c) ++ ccs ⟨k, y, []⟩ (.slice B m d)).toArray) (.int .i64 1)).run Try.prog w = .ok (.agg (ccs ⟨k, y, []⟩ (.slice B m d)).toArray) w
  | [x0, x1, x2, x3, x4, x5, x6, x7, x8, x9, x10, x11, x12, x13, x14, x15, x16, x17, x18, x19, x20, x21, x22, x23, x24, x25, x26, x27, x28, x29, x30, x31], [y0, y1, y2, y3, y4, y5, y6, y7, y8, y9, y10, y11, y12, y13, y14, y15, y16, y17, y18, y19, y20, y21, y22, y23, y24, y25, y26, y27, y28, y29, y30, y31], _, _ => by kernel_rfl
/-- Two commits, side by side. -/
def two (a b : C) (u v : Value) : Array Value := (ccs a u ++ ccs b v).toArray
theorem wpList_build_2 {ops : Array Oper} {rest : List Oper} {op : Oper} {s : Act} {w : World} {Q : Exit → Act → World → Prop} (hgd : op.guard = none) (p q : Operand) (ho : op.op = .build 82 #[(0, p), (1, q)]) {a b : C} {A B : Option Addr} {n c m d : Nat} (hp : s.eval p = .agg (ccs a (.slice A n c)).toArray) (hq : s.eval q = .agg (ccs b (.slice B m d)).toArray) (ha : a.x.length = 32) (hb : b.x.length = 32)
    (hk : wpList Try.prog ops Q rest (s.put op.dst (.agg (two a b (.slice A n c) (.slice B m d)))) w) : wpList Try.prog ops Q (op :: rest) s w :=
  wpList_plain hgd fun K hK => by
    have hr := run_build (P := Try.prog) w 82 #[(0, .agg (ccs a (.slice A n c)).toArray), (1, .agg (ccs b (.slice B m d)).toArray)] _ (built_2 a.h b.h A B n c m d a.x b.x ha hb)
    unfold Oper.wp execOp
    simp only [ho, List.map_toArray, List.map_cons, List.map_nil, hp, hq, Sem.run_bind, hr, Result.andThen_ok]
    exact hK _ _ hk
theorem wpList_index_20 {ops : Array Oper} {rest : List Oper} {op : Oper} {s : Act} {w : World} {Q : Exit → Act → World → Prop} (hgd : op.guard = none) (p q : Operand) (ho : op.op = .index 82 p q) {a b : C} {A B : Option Addr} {n c m d : Nat} (hp : s.eval p = .agg (two a b (.slice A n c) (.slice B m d))) (hq : s.eval q = .int .i64 0) (ha : a.x.length = 32) (hb : b.x.length = 32)
    (hk : wpList Try.prog ops Q rest (s.put op.dst (.agg (ccs a (.slice A n c)).toArray)) w) : wpList Try.prog ops Q (op :: rest) s w :=
  wpList_plain hgd fun K hK => by
    have hr : (Instr.index 82 (.agg (two a b (.slice A n c) (.slice B m d))) (.int .i64 0)).run Try.prog w = .ok (.agg (ccs a (.slice A n c)).toArray) w := index_20 a.h b.h A B n c m d w a.x b.x ha hb
    unfold Oper.wp execOp
    simp only [ho, hp, hq, Sem.run_bind, hr, Result.andThen_ok]
    exact hK _ _ hk
theorem wpList_index_21 {ops : Array Oper} {rest : List Oper} {op : Oper} {s : Act} {w : World} {Q : Exit → Act → World → Prop} (hgd : op.guard = none) (p q : Operand) (ho : op.op = .index 82 p q) {a b : C} {A B : Option Addr} {n c m d : Nat} (hp : s.eval p = .agg (two a b (.slice A n c) (.slice B m d))) (hq : s.eval q = .int .i64 1) (ha : a.x.length = 32) (hb : b.x.length = 32)
    (hk : wpList Try.prog ops Q rest (s.put op.dst (.agg (ccs b (.slice B m d)).toArray)) w) : wpList Try.prog ops Q (op :: rest) s w :=
  wpList_plain hgd fun K hK => by
    have hr : (Instr.index 82 (.agg (two a b (.slice A n c) (.slice B m d))) (.int .i64 1)).run Try.prog w = .ok (.agg (ccs b (.slice B m d)).toArray) w := index_21 a.h b.h A B n c m d w a.x b.x ha hb
    unfold Oper.wp execOp
    simp only [ho, hp, hq, Sem.run_bind, hr, Result.andThen_ok]
    exact hK _ _ hk
/-- A commit is stored into a variable that was just laid. -/
theorem wpList_store_cn {ops : Array Oper} {rest : List Oper} {op : Oper} {a : Act} {w : World} {Q : Exit → Act → World → Prop} (hgd : op.guard = none) (x y : Operand) (ho : op.op = .store 26 x y) (hx : a.eval x = .pointer (some ⟨w.heap.size, 0, none⟩)) {c : C} {v : Value} (hy : a.eval y = .agg (ccs c v).toArray)
    {cur : Array Value} (hs : cur.size = 34) (hl : c.x.length = 32) (hv : v.oneCell' = true)
    (hk : wpList Try.prog ops Q rest (a.put op.dst undef) (w.alloc (.cells (ccs c v).toArray 26))) : wpList Try.prog ops Q (op :: rest) a (w.alloc (.cells cur 26)) :=
  wpList_store_new hgd 26 x y ho (ccs c v).toArray hx hy (by simpa using hs.trans (ccs_len hl v).symm) (sizeC.trans (by simpa using (ccs_len hl v).symm)) (ccs_one hv) hk
/-- What two commits are together, or why they are none. -/
def joinE (a b : C) : Nat := if chk a ≠ 0 then chk a else if chk b ≠ 0 then chk b else if a.h ≠ b.h ∨ a.x ≠ b.x then 9 else if (joinP a.vs b.vs).isSome = true then 0 else 8
def joinC (a b : C) : C := if joinE a b = 0 then ⟨a.h, a.x, (joinP a.vs b.vs).getD []⟩ else cZ
theorem joinC_no {a b : C} (h : joinE a b ≠ 0) : joinC a b = cZ := by unfold joinC; rw [if_neg h]
structure JoinIn (w wA : World) (a b : C) (u v : Value) : Prop where
  e0 : wA.heap[w.heap.size]? = some (.cells (ccs a u).toArray 26 (0, 0))
  e1 : wA.heap[w.heap.size + 1]? = some (.cells (ccs b v).toArray 26 (0, 0))
  e2 : wA.heap[w.heap.size + 2]? = some (.cells (ccs cZ vZ).toArray 26 (0, 0))
  b : Below w.heap.size w wA
theorem JoinIn.mk' (w : World) (a b : C) (u v : Value) : JoinIn w (((w.alloc (.cells (ccs a u).toArray 26)).alloc (.cells (ccs b v).toArray 26)).alloc (.cells (ccs cZ vZ).toArray 26)) a b u v where
  e0 := kb_alloc (kb_alloc (kb_new rfl _) _) _
  e1 := kb_alloc (kb_new (by simp) _) _
  e2 := kb_new (by simp) _
  b := bl_alloc (bl_alloc (bl_alloc (Below.refl _ _) _) _) _
theorem JoinIn.below {w wA wB : World} {a b : C} {u v : Value} (h : JoinIn w wA a b u v) (k : Below wA.heap.size wA wB) : JoinIn w wB a b u v := ⟨kb_below k h.e0, kb_below k h.e1, kb_below k h.e2, bl_then h.b k⟩
theorem JoinIn.size {w wA : World} {a b : C} {u v : Value} (h : JoinIn w wA a b u v) : w.heap.size + 2 < wA.heap.size := kb_lt h.e2
theorem join_all {a b : List Vt} (h : Rs (-1) a) : joinP [] (a ++ b) = joinP a b := by
  rw [join_append, join_self h (fun x hx => by cases hx)]; rfl
/-- No commit is told. -/
theorem COut.fin {d : C} {n : Nat} {w w4 w5 : World} {e : Ending} {m : Int} (hd : d = cZ) (hm : m = (n : Int)) (he : e = .returned (.tuple #[.agg (ccs cZ vZ).toArray, .int .i64 m])) (hb : Below w.heap.size w w4) (k : Keep (fun b => b = w.heap.size + 2) w4 w5) : COut d n w e w5 :=
  COut.none hd hm he (((Keep.of_below (S := fun _ => False) hb).trans k (fun b h e => by omega)).below (Nat.le_refl _) (fun b e => e.elim))

set_option maxRecDepth 100000 in
set_option maxHeartbeats 4000000 in
theorem Join_any {w : World} {a b : C} {u v : Value} (ha : a.x.length = 32) (hb : b.x.length = 32) (hu : VRow w u a.vs) (hv : VRow w v b.vs) (hla : a.vs.length ≤ 1000) (hlb : b.vs.length ≤ 1000) :
    Calls Try.prog 14 #[.agg (ccs a u).toArray, .agg (ccs b v).toArray] w (COut (joinC a b) (joinE a b) w) := by
  have HU := Lib.hid hu
  have HV := Lib.hid hv
  have HX := Lib.hid (And.intro ha hb)
  obtain ⟨A, c, huu⟩ := hu.form
  subst huu
  obtain ⟨B, d, hvv⟩ := hv.form
  subst hvv
  clear hu hv ha hb
  go_enter Try.func14, Try.ntmps14
  go_upto_region 1 with fail
  refine wp_world fun wA hwA => ?_
  have hA : JoinIn w wA a b (.slice A a.vs.length c) (.slice B b.vs.length d) := by rw [hwA]; exact JoinIn.mk' w a b _ _
  have HA := Lib.hid hA
  clear hwA hA
  go_wp2_with (first
    | (with_reducible refine wpList_load_cw _ rfl (by kernel_rfl) _ rfl HA.out.e0 HX.out.1 ?_)
    | (with_reducible refine wpList_load_cw _ rfl (by kernel_rfl) _ rfl HA.out.e1 HX.out.2 ?_)
    | (refine wpList_build_2 (op := ⟨some 13, _, _, _, _, _⟩) rfl _ _ rfl rfl rfl HX.out.1 HX.out.2 ?_))
  go_loopw [7, 8, 14, 15, 16, 17, 18, 19, 20, 21, 22, 23] (fun _ _ s14 _ _ _ _ _ _ _ _ _ wr => ∃ (i : Nat), (i = 0 ∨ i = 1 ∧ chk a = 0 ∨ i = 2 ∧ chk a = 0 ∧ chk b = 0) ∧ s14 = .int .i64 i ∧ Hid (JoinIn w wr a b (.slice A a.vs.length c) (.slice B b.vs.length d))) (fun _ _ s14 _ _ _ _ _ _ _ _ _ _ => 2 - (intOf s14).toNat)
  case atStart => exact ⟨0, .inl rfl, rfl, HA⟩
  case round =>
    obtain ⟨i, hi, rfl, hR⟩ := hrel
    have HR := hR
    clear hR
    rcases hi with rfl | ⟨rfl, h0⟩ | ⟨rfl, h0, h1⟩
    · skip
      go_wp2_with (first
        | (refine wpList_index_20 (op := ⟨some 16, _, _, _, _, _⟩) rfl _ _ rfl rfl rfl HX.out.1 HX.out.2 ?_)
        | (refine wpList_store_cn (op := ⟨none, _, _, _, _, _⟩) rfl _ _ rfl rfl rfl (by kernel_rfl) HX.out.1 rfl ?_)
        | (with_reducible refine wpList_load_cw _ rfl (by kernel_rfl) _ rfl (kb_new rfl _) HX.out.1 ?_))
      refine (Check_any' HX.out.1 (HU.out.below (bl_alloc HR.out.b _)) (by omega)).mono ?_
      rintro e w2 ⟨rfl, b2⟩
      have HR2 := Lib.hid (HR.out.below (bl_then (bl_alloc (Below.refl _ _) _) b2))
      clear b2
      by_cases hc : chk a = 0
      · have HC := Lib.hid hc
        rw [hc]
        clear hc
        go_wp2_with fail
        go_roundw
        case rel => exact ⟨1, .inr (.inl ⟨rfl, HC.out⟩), rfl, Lib.hid HR2.out⟩
        case measure => simp [intOf]
      · have HE := Lib.hid (show joinE a b = chk a by unfold joinE; rw [if_pos hc])
        have HZ := Lib.hid (show joinE a b ≠ 0 by rw [HE.out]; exact hc)
        have hn : ((chk a : Int) == 0) = false := by simpa using hc
        have hn' : ¬ ((chk a : Int) = 0) := by omega
        clear hc
        go_wp2_with (refine wpList_store_c (op := ⟨none, _, _, _, _, _⟩) rfl _ _ rfl _ rfl (congrArg Value.agg zeroC) HR2.out.e2 zArr cZ_x rfl ?_)
        intro w4 g2 k2
        have HG := Lib.hid (And.intro g2 k2)
        clear g2 k2
        go_wp2_with fail
        refine bodyPost_ret (results_c rfl _ _ (w.heap.size + 2) cZ_x rfl HG.out.1 rfl) rfl ?_
        exact COut.fin (joinC_no HZ.out) (by rw [HE.out]) rfl HR2.out.b HG.out.2
    · have HA0 := Lib.hid h0
      clear h0
      go_wp2_with (first
        | (refine wpList_index_21 (op := ⟨some 16, _, _, _, _, _⟩) rfl _ _ rfl rfl rfl HX.out.1 HX.out.2 ?_)
        | (refine wpList_store_cn (op := ⟨none, _, _, _, _, _⟩) rfl _ _ rfl rfl rfl (by kernel_rfl) HX.out.2 rfl ?_)
        | (with_reducible refine wpList_load_cw _ rfl (by kernel_rfl) _ rfl (kb_new rfl _) HX.out.2 ?_))
      refine (Check_any' HX.out.2 (HV.out.below (bl_alloc HR.out.b _)) (by omega)).mono ?_
      rintro e w2 ⟨rfl, b2⟩
      have HR2 := Lib.hid (HR.out.below (bl_then (bl_alloc (Below.refl _ _) _) b2))
      clear b2
      by_cases hc : chk b = 0
      · have HC := Lib.hid hc
        rw [hc]
        clear hc
        go_wp2_with fail
        go_roundw
        case rel => exact ⟨2, .inr (.inr ⟨rfl, HA0.out, HC.out⟩), rfl, Lib.hid HR2.out⟩
        case measure => simp [intOf]
      · have HE := Lib.hid (show joinE a b = chk b by unfold joinE; rw [if_neg (by rw [HA0.out]; simp), if_pos hc])
        have HZ := Lib.hid (show joinE a b ≠ 0 by rw [HE.out]; exact hc)
        have hn : ((chk b : Int) == 0) = false := by simpa using hc
        have hn' : ¬ ((chk b : Int) = 0) := by omega
        clear hc
        go_wp2_with (refine wpList_store_c (op := ⟨none, _, _, _, _, _⟩) rfl _ _ rfl _ rfl (congrArg Value.agg zeroC) HR2.out.e2 zArr cZ_x rfl ?_)
        intro w4 g2 k2
        have HG := Lib.hid (And.intro g2 k2)
        clear g2 k2
        go_wp2_with fail
        refine bodyPost_ret (results_c rfl _ _ (w.heap.size + 2) cZ_x rfl HG.out.1 rfl) rfl ?_
        exact COut.fin (joinC_no HZ.out) (by rw [HE.out]) rfl HR2.out.b HG.out.2
    · have HA0 := Lib.hid (And.intro h0 h1)
      clear h0 h1
      have qa0 := ccs_0 a (.slice A a.vs.length c)
      have qa33 := ccs_33 HX.out.1 (.slice A a.vs.length c)
      have qb0 := ccs_0 b (.slice B b.vs.length d)
      have qb33 := ccs_33 HX.out.2 (.slice B b.vs.length d)
      have a0 := (kb_cell HR.out.e0 0).trans (by simpa using qa0)
      have a33 := (kb_cell HR.out.e0 33).trans (by simpa using qa33)
      have b0 := (kb_cell HR.out.e1 0).trans (by simpa using qb0)
      have b33 := (kb_cell HR.out.e1 33).trans (by simpa using qb33)
      have hnq := neq_hash a.x b.x HX.out.1 HX.out.2
      by_cases hh : a.h = b.h
      · by_cases hxx : a.x = b.x
        · have hd1 : (a.h == b.h) = true := by simpa using hh
          have hd3 : (a.h != b.h) = false := by simpa using hh
          have hd2 : (a.x == b.x) = true := by simpa using hxx
          rw [hd2] at hnq
          have HQ := Lib.hid (And.intro hh hxx)
          have ra := Lib.hid (rs_of_chk HA0.out.1)
          have rb := Lib.hid (rs_of_chk HA0.out.2)
          clear hh hxx hd2
          go_wp2_with (first
            | (with_reducible refine wpList_load_hw _ rfl (by kernel_rfl) _ rfl HR.out.e0 HX.out.1 ?_)
            | (with_reducible refine wpList_load_hw _ rfl (by kernel_rfl) _ rfl HR.out.e1 HX.out.2 ?_)
            | (refine wpList_store_c (op := ⟨none, _, _, _, _, _⟩) rfl _ _ rfl _ rfl (congrArg Value.agg zeroC) HR.out.e2 zArr cZ_x rfl ?_))
          have T0 : TwoRows (wr.alloc (.cells #[.slice A a.vs.length c, .slice B b.vs.length d] 24)) wr.heap.size (.slice A a.vs.length c) (.slice B b.vs.length d) a.vs b.vs := ⟨kb_new rfl _, HU.out.below (bl_alloc HR.out.b _), HV.out.below (bl_alloc HR.out.b _)⟩
          refine (joined_any T0 ra.out rb.out hla hlb).mono ?_
          rintro e w2 ⟨s, ok, rfl, b2, hok, hL⟩
          rw [join_all ra.out] at hok hL
          have HR2 := Lib.hid (HR.out.below (bl_then (bl_alloc (Below.refl _ _) _) b2))
          cases hj : joinP a.vs b.vs with
          | none =>
            have e1 : ok = false := by rw [hok, hj]; rfl
            subst e1
            have HE := Lib.hid (show joinE a b = 8 by unfold joinE; rw [if_neg (by rw [HA0.out.1]; simp), if_neg (by rw [HA0.out.2]; simp), if_neg (by rw [HQ.out.1, HQ.out.2]; simp), hj]; rfl)
            have HZ := Lib.hid (show joinE a b ≠ 0 by rw [HE.out]; decide)
            clear hL hj hok b2 T0
            go_wp2_with (refine wpList_store_c (op := ⟨none, _, _, _, _, _⟩) rfl _ _ rfl _ rfl (congrArg Value.agg zeroC) HR2.out.e2 zArr cZ_x rfl ?_)
            intro w4 g2 k2
            have HG := Lib.hid (And.intro g2 k2)
            clear g2 k2
            go_wp2_with fail
            refine bodyPost_ret (results_c rfl _ _ (w.heap.size + 2) cZ_x rfl HG.out.1 rfl) rfl ?_
            exact COut.fin (joinC_no HZ.out) (by rw [HE.out]; rfl) rfl HR2.out.b HG.out.2
          | some L =>
            have e1 : ok = true := by rw [hok, hj]; rfl
            subst e1
            have ho := hL L hj
            obtain ⟨A2, c2, rfl⟩ := owns_slice0 ho
            have HE := Lib.hid (show joinE a b = 0 ∧ joinC a b = ⟨a.h, a.x, L⟩ by
              have e : joinE a b = 0 := by unfold joinE; rw [if_neg (by rw [HA0.out.1]; simp), if_neg (by rw [HA0.out.2]; simp), if_neg (by rw [HQ.out.1, HQ.out.2]; simp), hj]; rfl
              refine ⟨e, ?_⟩
              unfold joinC; rw [if_pos e, hj]; rfl)
            have e33 := (kb_cell HR2.out.e0 33).trans (by simpa using qa33)
            have z33 := kb_frozen HR2.out.e0 33
            have F0 := kb_set (i := 33) HR2.out.e0 (.slice A2 L.length c2)
            rw [ccs_set HX.out.1] at F0
            have F2 := kb_far HR2.out.e2 (p := ⟨w.heap.size, 33, none⟩) (by simp) (.slice A2 L.length c2)
            have hsz := HR.out.size
            have ho2 := own_set (p := w.heap.size) (i := 33) (u := .slice A2 L.length c2) ho (fun e => by have := (ho.lt _ e).1; simp at this; omega)
            have hb2 := bl_set (p := ⟨w.heap.size, 33, none⟩) (Nat.le_refl _) HR2.out.b (.slice A2 L.length c2)
            have HP := Lib.hid (And.intro F0 (And.intro F2 (And.intro ho2 hb2)))
            clear hL hj hok b2 T0 F0 F2 ho ho2 hb2
            go_wp2_with (first
              | (with_reducible refine wpList_load_cw _ rfl (by kernel_rfl) _ rfl HP.out.1 HX.out.1 ?_)
              | (refine wpList_store_c (op := ⟨none, _, _, _, _, _⟩) rfl _ _ rfl _ rfl rfl HP.out.2.1 zArr HX.out.1 rfl ?_))
            intro w4 g2 k2
            have HG := Lib.hid (And.intro g2 k2)
            clear g2 k2
            go_wp2_with fail
            refine bodyPost_ret (results_c rfl _ _ (w.heap.size + 2) HX.out.1 rfl HG.out.1 rfl) rfl ?_
            rw [HE.out.1, HE.out.2]
            refine ⟨.slice A2 L.length c2, rfl, owns_mono (HG.out.2.row HP.out.2.2.1 (fun b h e => by have := (HP.out.2.2.1.lt b h).1; simp at this; omega)) (by simp; omega), ?_⟩
            exact ((Keep.of_below (S := fun _ => False) HP.out.2.2.2).trans HG.out.2 (fun b h e => by omega)).below (Nat.le_refl _) (fun b e => e.elim)
        · have hd1 : (a.h == b.h) = true := by simpa using hh
          have hd3 : (a.h != b.h) = false := by simpa using hh
          have hd2 : (a.x == b.x) = false := by simpa using hxx
          rw [hd2] at hnq
          have HE := Lib.hid (show joinE a b = 9 by unfold joinE; rw [if_neg (by rw [HA0.out.1]; simp), if_neg (by rw [HA0.out.2]; simp), if_pos (.inr hxx)])
          have HZ := Lib.hid (show joinE a b ≠ 0 by rw [HE.out]; decide)
          clear hh hxx hd2
          go_wp2_with (first
            | (with_reducible refine wpList_load_hw _ rfl (by kernel_rfl) _ rfl HR.out.e0 HX.out.1 ?_)
            | (with_reducible refine wpList_load_hw _ rfl (by kernel_rfl) _ rfl HR.out.e1 HX.out.2 ?_)
            | (refine wpList_store_c (op := ⟨none, _, _, _, _, _⟩) rfl _ _ rfl _ rfl (congrArg Value.agg zeroC) HR.out.e2 zArr cZ_x rfl ?_))
          intro w4 g2 k2
          have HG := Lib.hid (And.intro g2 k2)
          clear g2 k2
          go_wp2_with fail
          refine bodyPost_ret (results_c rfl _ _ (w.heap.size + 2) cZ_x rfl HG.out.1 rfl) rfl ?_
          exact COut.fin (joinC_no HZ.out) (by rw [HE.out]; rfl) rfl HR.out.b HG.out.2
      · have hd1 : (a.h == b.h) = false := by simpa using hh
        have hd3 : (a.h != b.h) = true := by simpa using hh
        have HE := Lib.hid (show joinE a b = 9 by unfold joinE; rw [if_neg (by rw [HA0.out.1]; simp), if_neg (by rw [HA0.out.2]; simp), if_pos (.inl hh)])
        have HZ := Lib.hid (show joinE a b ≠ 0 by rw [HE.out]; decide)
        clear hh
        go_wp2_with (first
          | (with_reducible refine wpList_load_hw _ rfl (by kernel_rfl) _ rfl HR.out.e0 HX.out.1 ?_)
          | (with_reducible refine wpList_load_hw _ rfl (by kernel_rfl) _ rfl HR.out.e1 HX.out.2 ?_)
          | (refine wpList_store_c (op := ⟨none, _, _, _, _, _⟩) rfl _ _ rfl _ rfl (congrArg Value.agg zeroC) HR.out.e2 zArr cZ_x rfl ?_))
        intro w4 g2 k2
        have HG := Lib.hid (And.intro g2 k2)
        clear g2 k2
        go_wp2_with fail
        refine bodyPost_ret (results_c rfl _ _ (w.heap.size + 2) cZ_x rfl HG.out.1 rfl) rfl ?_
        exact COut.fin (joinC_no HZ.out) (by rw [HE.out]; rfl) rfl HR.out.b HG.out.2
end Go.Proofs.Ytooghjnddifpdaa
