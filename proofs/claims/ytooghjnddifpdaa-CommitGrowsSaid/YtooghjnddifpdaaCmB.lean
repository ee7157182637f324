/- slices.Insert of one vote without room; as a whole. · place, cmp.Compare, slices.BinarySearchFunc over votes. · The document's laid. · commit.Add. -/
import Derived.Test.YtooghjnddifpdaaCmA
section
namespace Go.Proofs.Ytooghjnddifpdaa
open Go.RowKit Go.Proofs.Ytooghjnddifpdaa.Cm BigFrame
set_option linter.unusedSimpArgs false
set_option linter.unusedVariables false
attribute [local go_sem] cell_alloc_some frozen_alloc_some

theorem wpList_append_eq (w : World) {ops : Array Oper} {rest : List Oper} {o : Oper} {a : Act} {Q : Exit → Act → World → Prop} (hgd : o.guard = none) (d s : Operand)
    (ho : o.op = .call { callee := .builtin .append, args := #[d, s], argTypes := #[24, 3] }) (v u : Value) (hd : a.eval d = v) (hs : a.eval s = u) {v' : Value} {w' : World}
    (hr : ∀ ty, (Builtin.append_ #[24, 3] ty #[v, u]).run Try.prog w = .ok v' w') (h : ∀ W, Hid (W = w') → wpList Try.prog ops Q rest (a.put o.dst v') W) : wpList Try.prog ops Q (o :: rest) a w :=
  wpList_plain hgd fun _ hK => by
    unfold Oper.wp execOp
    simp only [ho, resolve, invoke, builtin, Sem.run_bind, Sem.run_pure, Result.andThen_ok, List.map_toArray, List.map_cons, List.map_nil, hd, hs, hr]
    exact hK _ _ (h _ (Lib.hid rfl))
theorem wpList_copy_eq (w : World) {ops : Array Oper} {rest : List Oper} {o : Oper} {a : Act} {Q : Exit → Act → World → Prop} (hgd : o.guard = none) (d s : Operand)
    (ho : o.op = .call { callee := .builtin .copy, args := #[d, s], argTypes := #[24, 24] }) (v u : Value) (hd : a.eval d = v) (hs : a.eval s = u) {v' : Value} {w' : World}
    (hr : ∀ ty, (Builtin.copy_ #[24, 24] ty #[v, u]).run Try.prog w = .ok v' w') (h : ∀ W, Hid (W = w') → wpList Try.prog ops Q rest (a.put o.dst v') W) : wpList Try.prog ops Q (o :: rest) a w :=
  wpList_copy_v w hgd d s ho v u hd hs hr (h _ (Lib.hid rfl))
/-- A new row, the vote laid in, what stood behind the place behind it. -/
theorem grow_row {row : Array Value} {l : List Vt} {x : Vt} {n G i : Nat} (hsz : row.size = G * 2) (htk : row.toList.take (i * 2) = (vcs l).take (i * 2)) (hn : l.length = n) (hi : i ≤ n) (hG : n + 1 ≤ G) :
    (updC (updC row (i * 2) [.int .i64 x.p, .int .u64 x.g]) ((i + 1) * 2) ((vcs l).drop (i * 2))).toList.take ((n + 1) * 2) = vcs (l.take i ++ x :: l.drop i) := by
  have hL : (vcs l).length = n * 2 := by rw [vcs_len, hn]
  rw [vcs_laid]
  apply List.ext_getElem?
  intro j
  by_cases hj : j < (n + 1) * 2
  · rw [List.getElem?_take_of_lt hj, Array.getElem?_toList, updC_get _ _ _ (by rw [updC_size, hsz, List.length_drop, hL]; omega)]
    by_cases h0 : (i + 1) * 2 ≤ j
    · rw [if_pos (by rw [List.length_drop, hL]; omega), List.getElem?_append_right (by rw [List.length_take, hL]; omega), List.getElem?_append_right (by simp; omega)]
      congr 1
      simp [List.length_take, hL]
      omega
    · rw [if_neg (by omega), updC_get _ _ _ (by rw [hsz]; simp; omega)]
      by_cases h1 : i * 2 ≤ j ∧ j < i * 2 + 2
      · rw [if_pos (by simpa using h1), List.getElem?_append_right (by simp; omega), List.getElem?_append_left (by simp; omega)]
        rw [List.length_take, hL, show min (i * 2) (n * 2) = i * 2 by omega]
      · have h2 : j < i * 2 := by omega
        rw [if_neg (by simpa using h1), List.getElem?_append_left (by rw [List.length_take, hL]; omega), ← htk, List.getElem?_take_of_lt h2, Array.getElem?_toList]
  · rw [List.getElem?_take_eq_none (by omega), List.getElem?_eq_none (by simp [hL]; omega)]

set_option maxRecDepth 100000 in
set_option maxHeartbeats 4000000 in
theorem Insert_grow {w : World} {B g vb n i : Nat} {cur : Array Value} {l : List Vt} {x : Vt} (hB : B ≤ w.heap.size) (hh : w.heap[g]? = some (.cells cur 29 (0, 0))) (hsz : cur.size = n * 2) (htk : cur.toList.take (n * 2) = vcs l) (hn : l.length = n)
    (hv : w.heap[vb]? = some (.cells #[.int .i64 x.p, .int .u64 x.g] 29 (0, 0))) (hi : i < n) (hl : n ≤ 1000000) :
    Calls Try.prog 45 #[.slice (some ⟨g, 0, none⟩) n n, .int .i64 i, .slice (some ⟨vb, 0, none⟩) 1 1] w (InsOut B (.slice (some ⟨g, 0, none⟩) n n) (l.take i ++ x :: l.drop i) w) := by
  obtain ⟨i0, hi0, hz0, hz1, hz2⟩ := info_parts infoV
  have hL : (vcs l).length = n * 2 := by rw [vcs_len, hn]
  have hq2 : ¬ ((i : Int) = (n : Int)) := by omega
  have hq3 : (n : Int) < (n : Int) + 1 := by omega
  have hkk : (n : Int) + 1 - (i : Int) = ((n + 1 - i : Nat) : Int) := by omega
  have hik : i + (n + 1 - i) = n + 1 := by omega
  have hcell : ∀ (W : World), W.heap[g]? = some (.cells cur 29 (0, 0)) → ∀ j u, (vcs l)[j]? = some u → W.cell? ⟨g, j, none⟩ = some u := fun W hW j u hj => by
    rw [kb_cell hW, ← Array.getElem?_toList]
    rw [← htk, List.getElem?_take] at hj
    split at hj
    · exact hj
    · cases hj
  have hold : (Builtin.firstCells i0.size i (.slice (some ⟨g, 0, none⟩) i n)).run Try.prog w.drew = .ok ((vcs l).take (i * 2)).toArray w.drew := by
    rw [hz1]
    exact run_firstCells_some w.drew 2 i ⟨g, 0, none⟩ i n ((vcs l).take (i * 2)) (by rw [List.length_take, hL]; omega) (fun j v hj => by
      rw [addr_add, Nat.zero_add]
      rw [List.getElem?_take] at hj
      split at hj
      · exact hcell w.drew (kb_drew hh) j v hj
      · cases hj)
  obtain ⟨G, hG⟩ : ∃ G, G = grownCap w (n + 1) n 29 := ⟨_, rfl⟩
  have hGn : n + 1 ≤ G := by rw [hG]; exact grownCap_ge w _ _ _
  have hGm : G ≤ maxLen := by rw [hG]; exact grownCap_le_maxLen w (n + 1) n 29 (by unfold maxLen; omega)
  obtain ⟨ROW, hROW⟩ : ∃ ROW : Array Value, ROW = ((vcs l).take (i * 2)).toArray ++ Builtin.zeroCells (Value.agg #[.int .i64 0, .int .u64 0]).cells (n + 1 - i) ++ Builtin.zeroCells (Value.agg #[.int .i64 0, .int .u64 0]).cells (G - (n + 1)) := ⟨_, rfl⟩
  have hrz : ∀ ty, (Builtin.append_ #[24, 3] ty #[.slice (some ⟨g, 0, none⟩) i n, .int .i64 ((n : Int) + 1 - (i : Int))]).run Try.prog w = .ok (.slice (some ⟨w.heap.size, 0, none⟩) (n + 1) G) (w.drew.alloc (.cells ROW 29)) := fun ty => by
    have h := Lib.run_append_grow_zeros w 24 3 ty 29 i0 _ .i64 .i64 Try.underlying24 Try.underlying3 hi0 hz0 (some ⟨g, 0, none⟩) i n ((vcs l).take (i * 2)) hold (n + 1 - i) (by omega) (by omega) (by omega) (by omega) (by rw [hz2]; omega) (by rw [hz2, hik]; exact growslice_fits (by omega) (by omega))
    rw [hik, ← hG] at h
    rw [hkk, hROW]
    exact h
  have hRs : ROW.size = G * 2 := by
    rw [hROW]
    simp only [Array.size_append, List.size_toArray, List.length_take, hL, size_zeroCells]
    show _ + _ * 2 + _ * 2 = _
    rw [show min (i * 2) (n * 2) = i * 2 by omega]
    omega
  have hRt : ROW.toList.take (i * 2) = (vcs l).take (i * 2) := by
    rw [hROW]
    apply List.ext_getElem?
    intro j
    by_cases hj : j < i * 2
    · rw [List.getElem?_take_of_lt hj, Array.getElem?_toList, Array.getElem?_append_left (by simp [hL]; omega), Array.getElem?_append_left (by simp [hL]; omega)]
      simp
    · rw [List.getElem?_take_eq_none (by omega), List.getElem?_take_eq_none (by omega)]
  have hgw : g < w.heap.size := kb_lt hh
  have hvw : vb < w.heap.size := kb_lt hv
  have hGi : ¬ (G = i) := by omega
  have hGim : ¬ (G = i + 1) := by omega
  have hci : ¬ (n = i) := by omega
  have hmin : Nat.min (n - i) (n - i) = n - i := by simp only [Nat.min_def]; split <;> omega
  have hw1 : IntKind.i64.wrap ((i : Int) + 1) = (i : Int) + 1 := by rw [IntKind.wrap_i64]; omega
  have hb1 : (0 : Int) ≤ (i : Int) + 1 := by omega
  have hin : i ≤ n := by omega
  have htn : ((i : Int) + 1).toNat = i + 1 := by omega
  have hb3 : (i : Int) ≤ (n : Int) := by omega
  have hb6 : ((i : Int) + 1) ≤ (n : Int) + 1 := by omega
  have HH := Lib.hid (And.intro hh hv)
  have HN := Lib.hid hn
  have HC := Lib.hid hcell
  have HR := Lib.hid (And.intro hRs hRt)
  have HL := Lib.hid hL
  have HM := Lib.hid hmin
  have HRZ := Lib.hid hrz
  clear hkk hik hold hROW hG hh hv hn hsz htk hRs hRt hL hcell hmin hrz hi0 hz0 hz1 hz2
  go_enter Try.func45, Try.ntmps45
  go_wp2_with (at_builtin; refine wpList_append_eq _ rfl _ _ rfl _ _ rfl rfl HRZ.out ?_)
  intro W1 hW1
  have G1 : W1.heap[w.heap.size]? = some (.cells ROW 29 (0, 0)) := by rw [hW1.out]; exact kb_new rfl _
  have b1 : Below w.heap.size w W1 := by rw [hW1.out]; exact bl_alloc (bl_drew (Below.refl _ _)) _
  have HB := Lib.hid (And.intro G1 b1)
  clear hW1 G1 b1
  have hcp1 : ∀ ty, (Builtin.copy_ #[24, 24] ty #[.slice (some ⟨w.heap.size, i * 2, none⟩) (n + 1 - i) (G - i), .slice (some ⟨vb, 0, none⟩) 1 1]).run Try.prog W1 = .ok (goInt (Nat.min 1 (n + 1 - i))) (W1.setCells w.heap.size (i * 2) [.int .i64 x.p, .int .u64 x.g]) := fun ty =>
    run_copy_v W1 ty w.heap.size (i * 2) (n + 1 - i) (G - i) ⟨vb, 0, none⟩ 1 1 [.int .i64 x.p, .int .u64 x.g] (by rw [show Nat.min 1 (n + 1 - i) = 1 by simp only [Nat.min_def]; split <;> omega]; rfl)
      (fun j v hj => by
        rw [addr_add, Nat.zero_add, kb_cell (kb_below HB.out.2 HH.out.2)]
        simpa using hj)
      (fun j hj => by
        have hj : j < 2 := hj
        rw [kb_cell HB.out.1, Array.getElem?_eq_getElem (by rw [HR.out.1]; omega)]; rfl) (fun j hj => kb_frozen HB.out.1 _) (fun v hv => by
        rcases List.mem_cons.1 hv with rfl | hv
        · rfl
        · rw [List.mem_singleton.1 hv]; rfl)
  have HC1 := Lib.hid hcp1
  clear hcp1
  go_wp2_with (refine wpList_copy_eq (o := ⟨some 45, _, _, _, _, _⟩) _ rfl _ _ rfl _ _ rfl rfl HC1.out ?_)
  intro W2 hW2
  have G2 : W2.heap[w.heap.size]? = some (.cells (updC ROW (i * 2) [.int .i64 x.p, .int .u64 x.g]) 29 (0, 0)) := by rw [hW2.out]; exact setCells_at [.int .i64 x.p, .int .u64 x.g] W1 _ (i * 2) HB.out.1
  have b2 : Below w.heap.size w W2 := by rw [hW2.out]; exact bl_cells _ (Nat.le_refl _) _ HB.out.2
  have HB2 := Lib.hid (And.intro G2 b2)
  have hcp2 : ∀ ty, (Builtin.copy_ #[24, 24] ty #[.slice (some ⟨w.heap.size, (i + 1) * 2, none⟩) (n - i) (G - (i + 1)), .slice (some ⟨g, i * 2, none⟩) (n - i) (n - i)]).run Try.prog W2.drew = .ok (goInt (Nat.min (n - i) (n - i))) (W2.drew.setCells w.heap.size ((i + 1) * 2) ((vcs l).drop (i * 2))) := fun ty =>
    run_copy_v W2.drew ty w.heap.size ((i + 1) * 2) (n - i) (G - (i + 1)) ⟨g, i * 2, none⟩ (n - i) (n - i) ((vcs l).drop (i * 2)) (by rw [HM.out, List.length_drop, HL.out]; omega)
      (fun j v hj => by
        rw [addr_add]
        rw [List.getElem?_drop] at hj
        exact HC.out _ (kb_drew (kb_below HB2.out.2 HH.out.1)) _ _ hj)
      (fun j hj => by
        rw [List.length_drop, HL.out] at hj
        rw [kb_cell (kb_drew HB2.out.1), Array.getElem?_eq_getElem (by rw [updC_size, HR.out.1]; omega)]; rfl) (fun j hj => kb_frozen (kb_drew HB2.out.1) _) (fun v hv => vcs_one l v (List.mem_of_mem_drop hv))
  have G3 := setCells_at ((vcs l).drop (i * 2)) W2.drew _ ((i + 1) * 2) (kb_drew HB2.out.1)
  have b3 : Below w.heap.size w (W2.drew.setCells w.heap.size ((i + 1) * 2) ((vcs l).drop (i * 2))) := bl_cells _ (Nat.le_refl _) _ (bl_drew HB2.out.2)
  have HB3 := Lib.hid (And.intro G3 b3)
  clear G2 b2 G3 b3 hW2
  go_wp2_with fail
  go_region_law (refine step_copy_v rfl _ _ rfl _ _ (by simp [Act.eval, Act.put]) (by simp [Act.eval, Act.put]) hcp2 ?_)
  go_wp2
  go_ret
  refine InsOut.mk' (s' := .slice (some ⟨w.heap.size, 0, none⟩) (n + 1) G) (m := l.take i ++ x :: l.drop i) rfl ⟨?_, .inr ⟨w.heap.size, G, _, rfl, hB, HB3.out.1, by omega, hGm, by rw [updC_size, updC_size, HR.out.1], grow_row HR.out.1 HR.out.2 HN.out hin hGn⟩⟩ rfl (by simp [HN.out]; omega) (Keep.of_below HB3.out.2) (fun b hb => .inr (by simp [Value.ownBlock] at hb; omega))
  rw [vcs_len]; simp [HN.out]; omega

/-- Insert of one vote. -/
theorem Insert_any {w : World} {B vb : Nat} {s : Value} {l : List Vt} {x : Vt} (i : Nat) (ho : w.ownsRow B 29 2 s l.length (vcs l)) (hv : w.heap[vb]? = some (.cells #[.int .i64 x.p, .int .u64 x.g] 29 (0, 0))) (hne : s.ownBlock ≠ some vb) (hi : i ≤ l.length) (hB : B ≤ w.heap.size) (hl : l.length ≤ 1000000) :
    Calls Try.prog 45 #[s, .int .i64 i, .slice (some ⟨vb, 0, none⟩) 1 1] w (InsOut B s (l.take i ++ x :: l.drop i) w) := by
  by_cases e : i = l.length
  · subst e
    have hx : VRow w (.slice (some ⟨vb, 0, none⟩) 1 1) [x] := ⟨_, _, rfl, fun _ => ⟨vb, 0, rfl, kb_lt hv, fun j m hj => by
      cases j with
      | zero => simp at hj; subst hj; exact ⟨kb_cell hv 0, kb_cell hv 1⟩
      | succ j => simp at hj⟩⟩
    have := Insert_end ho hx hB hl
    simpa using this
  · rcases ho.2 with ⟨rfl, h0⟩ | ⟨g, cap, cur, rfl, hBg, hh, hnc, hm, hsz, htk⟩
    · omega
    · have hvg : vb ≠ g := fun h => hne (by rw [h]; rfl)
      by_cases hc : cap = l.length
      · subst hc
        exact Insert_grow hB hh hsz htk rfl hv (by omega) hl
      · exact Insert_shift hBg hh hm hsz htk rfl hv hvg (by omega) (by omega) hl
end Go.Proofs.Ytooghjnddifpdaa
end
section
namespace Go.Proofs.Ytooghjnddifpdaa
open Go.RowKit Go.Proofs.Ytooghjnddifpdaa.Cm BigFrame
set_option linter.unusedSimpArgs false
set_option linter.unusedVariables false
attribute [local go_sem] cell_alloc_some frozen_alloc_some

theorem isNaN_any (x : Int) (w : World) : Calls Try.prog 97 #[.int .i64 x] w fun e w' => e = .returned (.bool false) ∧ w = w' := by
  go_enter Try.func97, Try.ntmps97
  go_wp2
  go_ret
  exact ⟨by first | rfl | exact ret_bool (by simp), rfl⟩
def cmpI (a b : Int) : Int := if a < b then -1 else if b < a then 1 else 0
theorem Compare_any (a b : Int) (w : World) : Calls Try.prog 75 #[.int .i64 a, .int .i64 b] w fun e w' => e = .returned (.int .i64 (cmpI a b)) ∧ w = w' := by
  by_cases h1 : a < b
  · have e : cmpI a b = -1 := by simp [cmpI, h1]
    rw [e]
    clear e
    go_enter Try.func75, Try.ntmps75
    go_wp2_with (go_at_call 97; (with_reducible refine (isNaN_any _ _).mono ?_); rintro e w1 ⟨rfl, rfl⟩)
    go_ret
    exact ⟨rfl, rfl⟩
  by_cases h2 : b < a
  · have e : cmpI a b = 1 := by simp [cmpI, h1, h2]
    rw [e]
    clear e
    go_enter Try.func75, Try.ntmps75
    go_wp2_with (go_at_call 97; (with_reducible refine (isNaN_any _ _).mono ?_); rintro e w1 ⟨rfl, rfl⟩)
    go_ret
    exact ⟨rfl, rfl⟩
  · have e : cmpI a b = 0 := by simp [cmpI, h1, h2]
    rw [e]
    clear e
    go_enter Try.func75, Try.ntmps75
    go_wp2_with (go_at_call 97; (with_reducible refine (isNaN_any _ _).mono ?_); rintro e w1 ⟨rfl, rfl⟩)
    go_ret
    exact ⟨rfl, rfl⟩
theorem place_any (v : Vt) (p : Int) (w : World) : Calls Try.prog 44 #[vtV v, .int .i64 p] w fun e w' => e = .returned (.int .i64 (cmpI v.p p)) ∧ Below w.heap.size w w' := by
  go_enter Try.func44, Try.ntmps44
  go_wp2_with (go_at_call 75; (with_reducible refine (Compare_any _ _ _).mono ?_); rintro e w1 ⟨rfl, rfl⟩)
  go_ret
  exact ⟨rfl, bl_alloc (Below.refl _ _) _⟩
theorem cmpI_neg (a b : Int) : decide (cmpI a b < 0) = decide (a < b) := by
  unfold cmpI
  split
  · simp [*]
  · split <;> simp [*]
theorem cmpI_eq (a b : Int) : (cmpI a b == 0) = decide (a = b) := by
  rw [Bool.eq_iff_iff]
  unfold cmpI
  split
  · simp; omega
  · split
    · simp; omega
    · simp; omega

theorem mono_p {l : List Vt} {a : Int} (hr : Rs a l) : ∀ {i j : Nat}, i < j → j < l.length → (vAt l i).p < (vAt l j).p := fun hij hj => hr.at_lt hij (vAt_some (by omega)) (vAt_some hj)
/-- Where a place is, or would be. -/
def BinOut (l : List Vt) (p : Int) (w : World) (e : Ending) (w' : World) : Prop := e = .returned (.tuple #[.int .i64 (cutN l p : Int), .bool (findV l p).isSome]) ∧ Below w.heap.size w w'
theorem BinOut.mk' {l : List Vt} {p a : Int} {w w' : World} {e : Ending} {i : Nat} {s : Bool} (hr : Rs a l) (h1 : i ≤ l.length) (h2 : ∀ j, j < i → (vAt l j).p < p) (h3 : ∀ j, i ≤ j → j < l.length → p ≤ (vAt l j).p) (hs : s = (decide (i < l.length) && decide ((vAt l i).p = p)))
    (he : e = .returned (.tuple #[.int .i64 (i : Int), .bool s])) (hb : Below w.heap.size w w') : BinOut l p w e w' := by
  have hc : cutN l p = i := cut_unique h1 (fun j v hj hv => by
    have h := vAt_some (l := l) (i := j) (by omega)
    rw [h] at hv
    injection hv with hv
    rw [← hv]
    exact h2 j hj) (fun v hv => by
    have hi := (List.getElem?_eq_some_iff.1 hv).1
    have h := vAt_some hi
    rw [h] at hv
    injection hv with hv
    rw [← hv]
    have := h3 i (by omega) hi
    omega)
  refine ⟨?_, hb⟩
  have hf : (findV l p).isSome = s := by
    rw [cut_find hr, hc, hs]
    by_cases hi : i < l.length
    · rw [vAt_some hi]
      by_cases e : (vAt l i).p = p
      · simp [hi, e]
      · simp [hi, e]
    · rw [List.getElem?_eq_none (by omega)]
      simp [hi]
  rw [he, hc, hf]

set_option maxRecDepth 100000 in
set_option maxHeartbeats 2000000 in
theorem BinarySearch_any {w : World} {v : Value} {l : List Vt} {a : Int} (p : Int) (hv : VRow w v l) (hr : Rs a l) (hl : l.length ≤ 1000000) :
    Calls Try.prog 43 #[v, .int .i64 p, .func (.func 44) #[] #[]] w (BinOut l p w) := by
  have HV0 := Lib.hid hv
  have HR := Lib.hid hr
  obtain ⟨A, cap, rfl⟩ := hv.form
  clear hv hr
  obtain ⟨n, hn⟩ : ∃ n, l.length = n := ⟨_, rfl⟩
  have HN := Lib.hid hn
  rw [hn] at hl HV0 ⊢
  clear hn
  go_enter Try.func43, Try.ntmps43
  go_wp2_with fail
  go_loopw [9, 10, 11, 15, 16, 17, 18, 19, 20, 21, 22, 23, 24, 25, 26, 27, 28, 29, 30, 31, 32, 33, 34] (fun s9 s10 _ _ _ _ _ _ _ _ _ _ _ _ _ _ _ _ _ _ _ _ _ wr => ∃ (i j : Nat), i ≤ j ∧ j ≤ n ∧ s9 = .int .i64 i ∧ s10 = .int .i64 j ∧ Hid (∀ k, k < i → (vAt l k).p < p) ∧ Hid (∀ k, j ≤ k → k < n → p ≤ (vAt l k).p) ∧ Below w.heap.size w wr) (fun s9 s10 _ _ _ _ _ _ _ _ _ _ _ _ _ _ _ _ _ _ _ _ _ _ => (intOf s10).toNat - (intOf s9).toNat)
  case atStart => exact ⟨0, n, by omega, by omega, rfl, rfl, fun k hk => by omega, fun k h1 h2 => by omega, Below.refl _ _⟩
  case round =>
    obtain ⟨i, j, hij, hjn, rfl, rfl, h1, h2, hbel⟩ := hrel
    have HBe := Lib.hid hbel
    by_cases hlt : i < j
    · obtain ⟨h, hh⟩ : ∃ h, h = (i + j) / 2 := ⟨_, rfl⟩
      have hhi : i ≤ h ∧ h < j := by omega
      obtain ⟨b, off, cap', hA, hbl, d0', d1'⟩ := HV0.out.at (i := h) (by rw [HN.out]; omega)
      have d0 := (hbel.cell (p := ⟨b, off + h * 2, none⟩) hbl).trans d0'
      have d1 := (hbel.cell (p := ⟨b, off + h * 2 + 1, none⟩) hbl).trans d1'
      obtain ⟨rfl, rfl⟩ : A = some ⟨b, off, none⟩ ∧ cap = cap' := by injection hA with h1 h2 h3; exact ⟨h1, h3⟩
      clear hA d0' d1' hbel
      have hq : ((i : Int) + (j : Int)) / 2 = (h : Int) := by omega
      have H1 := h1
      have H2 := h2
      have HN2 := Lib.hid (show ∀ (i j : Nat), i < j → j < l.length → (vAt l i).p < (vAt l j).p from fun i j => mono_p HR.out)
      have hb := And.intro hhi.1 (And.intro hhi.2 hh)
      have HH := Lib.hid hb
      clear hh hhi hb
      have hjl : (h : Int) < (n : Int) := by have := HH.out.2.1; omega
      have e1 := cmpI_neg (vAt l h).p p
      by_cases hp : (vAt l h).p < p
      · have hd : decide (cmpI (vAt l h).p p < 0) = true := by rw [e1]; simpa using hp
        have HP := Lib.hid hp
        clear hp e1
        go_wp2_with fail
        refine (place_any (vAt l h) p _).mono ?_
        rintro e w2 ⟨rfl, b2⟩
        have HB2 := Lib.hid (bl_then HBe.out b2)
        clear b2
        go_wp2_with fail
        have ha := HH.out
        go_roundw
        case rel => exact ⟨h + 1, j, by omega, hjn, by go_num, rfl, (fun k hk => by
          by_cases e : k = h
          · subst e; exact HP.out
          · have := HN2.out k h (by omega) (by rw [HN.out]; omega); have := HP.out; omega), H2.out, HB2.out⟩
        case measure => simp [intOf]; omega
      · have hd : decide (cmpI (vAt l h).p p < 0) = false := by rw [e1]; simpa using hp
        have HP := Lib.hid hp
        clear hp e1
        go_wp2_with fail
        refine (place_any (vAt l h) p _).mono ?_
        rintro e w2 ⟨rfl, b2⟩
        have HB2 := Lib.hid (bl_then HBe.out b2)
        clear b2
        go_wp2_with fail
        have ha := HH.out
        go_roundw
        case rel => exact ⟨i, h, by omega, by omega, rfl, rfl, H1.out, (fun k hk hkn => by
          by_cases e : k = h
          · subst e; have := HP.out; omega
          · have := HN2.out h k (by omega) (by rw [HN.out]; omega); have := HP.out; omega), HB2.out⟩
        case measure => simp [intOf]; omega
    · obtain rfl : i = j := by omega
      by_cases hin : i < n
      · obtain ⟨b, off, cap', hA, hbl, d0', d1'⟩ := HV0.out.at (i := i) (by rw [HN.out]; omega)
        have d0 := (hbel.cell (p := ⟨b, off + i * 2, none⟩) hbl).trans d0'
        have d1 := (hbel.cell (p := ⟨b, off + i * 2 + 1, none⟩) hbl).trans d1'
        obtain ⟨rfl, rfl⟩ : A = some ⟨b, off, none⟩ ∧ cap = cap' := by injection hA with h1 h2 h3; exact ⟨h1, h3⟩
        have H1 := h1
        have H2 := h2
        have hq := cmpI_eq (vAt l i).p p
        clear hA d0' d1' hbel h1 h2
        go_wp2_with fail
        refine (place_any (vAt l i) p _).mono ?_
        rintro e w2 ⟨rfl, b2⟩
        have HB2 := Lib.hid (bl_then HBe.out b2)
        clear b2
        go_wp2_with fail
        go_ret2
        exact BinOut.mk' (s := decide ((vAt l i).p = p)) HR.out (by rw [HN.out]; omega) H1.out (by rw [HN.out]; exact H2.out) (by simp [HN.out, hin]) rfl HB2.out
      · obtain rfl : i = n := by omega
        have H1 := h1
        have H2 := h2
        clear hbel h1 h2
        go_wp2_with fail
        go_ret2
        exact BinOut.mk' (s := false) HR.out (by rw [HN.out]; omega) H1.out (by rw [HN.out]; exact H2.out) (by simp [HN.out]) rfl HBe.out
end Go.Proofs.Ytooghjnddifpdaa
end
section
namespace Go.Proofs.Ytooghjnddifpdaa
open Go.RowKit Go.Proofs.Ytooghjnddifpdaa.Cm BigFrame
set_option linter.unusedSimpArgs false
set_option linter.unusedVariables false
attribute [local go_sem] cell_alloc_some frozen_alloc_some

theorem lit_row (w : World) (x : Vt) : VRow (w.alloc (.cells #[.int .i64 x.p, .int .u64 x.g] 29)) (.slice (some ⟨w.heap.size, 0, none⟩) 1 1) [x] :=
  ⟨_, _, rfl, fun _ => ⟨w.heap.size, 0, rfl, by simp, fun j m hj => by
    have h := kb_new (w := w) rfl (.cells #[.int .i64 x.p, .int .u64 x.g] 29)
    cases j with
    | zero => simp at hj; subst hj; exact ⟨kb_cell h 0, kb_cell h 1⟩
    | succ j => simp at hj⟩⟩
theorem vapp_rel {wb wr w1 : World} {u v' : Value} {o : Obj} {L : List Vt} {x : Vt} {n : Nat} (hown : wr.ownsRow wb.heap.size 29 2 u n (vcs L)) (hnx : Below wb.heap.size wb wr)
    (hown' : w1.ownsRow wb.heap.size 29 2 v' (n + 1) (vcs L ++ vcs [x])) (hgrow : (wr.alloc o).grownBy w1 u.ownBlock) :
    w1.ownsRow wb.heap.size 29 2 v' (n + 1) (vcs (L ++ [x])) ∧ Below wb.heap.size wb w1 := by
  have hs := hnx.size
  exact ⟨by rw [vcs_append]; exact hown', (hnx.alloc hs o).grown hgrow (by simp; omega) (fun j hj => (hown.lt j hj).1)⟩
/-- What is laid so far. -/
def LaidAt (l : List Vt) (x : Vt) (k : Nat) (put : Bool) (L : List Vt) : Prop := laidV l x = L ++ if put = true then l.drop k else laidV (l.drop k) x
theorem LaidAt.zero (l : List Vt) (x : Vt) : LaidAt l x 0 false [] := by simp [LaidAt]
theorem LaidAt.yes {l : List Vt} {x : Vt} {k : Nat} {L : List Vt} (h : LaidAt l x k true L) (hk : k < l.length) : LaidAt l x (k + 1) true (L ++ [vAt l k]) := by
  unfold LaidAt at h ⊢
  simp only [if_true] at h ⊢
  rw [h, drop_at hk]; simp
theorem LaidAt.no {l : List Vt} {x : Vt} {k : Nat} {L : List Vt} (h : LaidAt l x k false L) (hk : k < l.length) (hp : ¬ x.p < (vAt l k).p) : LaidAt l x (k + 1) false (L ++ [vAt l k]) := by
  unfold LaidAt at h ⊢
  simp only [Bool.false_eq_true, if_false] at h ⊢
  rw [h, drop_at hk]
  conv => lhs; unfold laidV
  rw [if_neg hp]; simp
theorem LaidAt.now {l : List Vt} {x : Vt} {k : Nat} {L : List Vt} (h : LaidAt l x k false L) (hk : k < l.length) (hp : x.p < (vAt l k).p) : LaidAt l x (k + 1) true (L ++ [x] ++ [vAt l k]) := by
  unfold LaidAt at h ⊢
  simp only [Bool.false_eq_true, if_false, if_true] at h ⊢
  rw [h, drop_at hk]
  conv => lhs; unfold laidV
  rw [if_pos hp]; simp
theorem LaidAt.end1 {l : List Vt} {x : Vt} {L : List Vt} (h : LaidAt l x l.length true L) : L = laidV l x := by
  unfold LaidAt at h; simp at h; exact h.symm
theorem LaidAt.end2 {l : List Vt} {x : Vt} {L : List Vt} (h : LaidAt l x l.length false L) : L ++ [x] = laidV l x := by
  unfold LaidAt at h; simp [laidV] at h; exact h.symm

set_option maxRecDepth 100000 in
set_option maxHeartbeats 4000000 in
theorem laid_any {w : World} {v : Value} {l : List Vt} (x : Vt) (hv : VRow w v l) (hl : l.length ≤ 1000000) :
    Calls Try.prog 47 #[v, vtV x] w fun e w' => ∃ v', e = .returned v' ∧ NewVotes w w' v' (laidV l x) := by
  have HV0 := Lib.hid hv
  obtain ⟨A, cap, rfl⟩ := hv.form
  clear hv
  obtain ⟨n, hn⟩ : ∃ n, l.length = n := ⟨_, rfl⟩
  have HN := Lib.hid hn
  rw [hn] at hl HV0 ⊢
  clear hn
  go_enter Try.func47, Try.ntmps47
  go_wp2_with fail
  refine wp_world fun wb hwb => ?_
  have hX : wb.heap[w.heap.size]? = some (.cells #[.int .i64 x.p, .int .u64 x.g] 29 (0, 0)) := by rw [hwb]; exact kb_new rfl _
  have bz : Below w.heap.size w wb := by rw [hwb]; exact bl_alloc (Below.refl _ _) _
  have HX := Lib.hid (And.intro hX bz)
  have hsw : w.heap.size < wb.heap.size := kb_lt hX
  clear hwb hX bz
  go_loopw [5, 6, 7, 8, 9, 10, 11, 12, 13, 14, 15, 16, 17, 18, 19, 20, 21, 22, 23, 24, 25, 26, 27, 28, 29, 30, 31, 32, 33, 34, 35, 36] (fun s5 s6 s7 _ _ _ _ _ _ _ _ _ _ _ _ _ _ _ _ _ _ _ _ _ _ _ _ _ _ _ _ _ wr => ∃ (k : Nat) (put : Bool) (L : List Vt), k ≤ n ∧ s7 = .int .i64 k ∧ s6 = .bool put ∧ L.length ≤ 2 * k ∧ Hid (wr.ownsRow wb.heap.size 29 2 s5 L.length (vcs L)) ∧ Hid (LaidAt l x k put L) ∧ Below wb.heap.size wb wr) (fun _ _ s7 _ _ _ _ _ _ _ _ _ _ _ _ _ _ _ _ _ _ _ _ _ _ _ _ _ _ _ _ _ _ => n - (intOf s7).toNat)
  case atStart => exact ⟨0, false, [], by omega, rfl, rfl, by simp, World.ownsRow_nil _ _ _ _, LaidAt.zero _ _, Below.refl _ _⟩
  case round =>
    obtain ⟨k, put, L, hk, rfl, rfl, hLk, hown, hL, hnx⟩ := hrel
    have HO := hown
    have HLa := hL
    have HNx := Lib.hid hnx
    obtain ⟨A5, c5, hs5⟩ := owns_slice0 hown.out
    subst hs5
    have hX := kb_cell (kb_below hnx HX.out.1)
    have hX0 := hX 0
    have hX1 := hX 1
    simp at hX0 hX1
    by_cases hlt : k < n
    · obtain ⟨b, off, cap', hA, hbl, d0', d1'⟩ := HV0.out.at (i := k) (by rw [HN.out]; exact hlt)
      have d0 := ((bl_then HX.out.2 hnx).cell (p := ⟨b, off + k * 2, none⟩) hbl).trans d0'
      have d1 := ((bl_then HX.out.2 hnx).cell (p := ⟨b, off + k * 2 + 1, none⟩) hbl).trans d1'
      obtain ⟨rfl, rfl⟩ : A = some ⟨b, off, none⟩ ∧ cap = cap' := by injection hA with h1 h2 h3; exact ⟨h1, h3⟩
      have HI := Lib.hid (show k < l.length by rw [HN.out]; exact hlt)
      have HD0 := Lib.hid (And.intro d0' d1')
      clear hA d0' d1' hX hown hL hnx
      cases put with
      | true =>
        have HG := Lib.hid (HLa.out.yes HI.out)
        go_wp2_with fail
        go_quiet (fail)
        generalize hwq : wr.drewN nq = wq
        have HQ0 := Lib.hid (show wq.ownsRow wb.heap.size 29 2 (.slice A5 L.length c5) L.length (vcs L) by rw [← hwq]; exact HO.out)
        have HQ1 := Lib.hid (show Below wb.heap.size wb wq by rw [← hwq]; exact bl_drewN HNx.out _)
        have d0q : wq.cell? ⟨b, off + k * 2, none⟩ = some (.int .i64 (vAt l k).p) := by rw [← hwq]; exact d0
        have d1q : wq.cell? ⟨b, off + k * 2 + 1, none⟩ = some (.int .u64 (vAt l k).g) := by rw [← hwq]; exact d1
        clear hwq
        have HR2 := Lib.hid (lit_row (wq) (vAt l k))
        have ho2 := (HQ0.out).alloc (.cells #[.int .i64 (vAt l k).p, .int .u64 (vAt l k).g] 29)
        go_wp2_with (at_builtin; refine wpList_append_v _ rfl _ _ rfl wb.heap.size _ _ _ rfl ho2 _ [vAt l k] rfl HR2.out ?c3 ?c4 ?_)
        case c3 => simp; omega
        case c4 => have := HQ1.out.size; simp at this ⊢; omega
        intro v' w2 hown2 hgrow2 _
        obtain ⟨A7, c7, rfl⟩ := owns_slice0 hown2
        have R2 := vapp_rel (HQ0.out) HQ1.out hown2 hgrow2
        have HQ := Lib.hid R2
        clear hown2 hgrow2 R2 ho2
        go_wp2
        go_roundw
        case rel => exact ⟨k + 1, true, _, by omega, by go_num, rfl, by simp; omega, Lib.hid (by simpa using HQ.out.1), HG.out, HQ.out.2⟩
        case measure => simp [intOf]; omega
      | false =>
        by_cases hp : x.p < (vAt l k).p
        · have HG := Lib.hid (HLa.out.now HI.out hp)
          have hd : decide (x.p < (vAt l k).p) = true := by simpa using hp
          go_wp2_with fail
          go_quiet (fail)
          generalize hwq : wr.drewN nq = wq
          have HQ0 := Lib.hid (show wq.ownsRow wb.heap.size 29 2 (.slice A5 L.length c5) L.length (vcs L) by rw [← hwq]; exact HO.out)
          have HQ1 := Lib.hid (show Below wb.heap.size wb wq by rw [← hwq]; exact bl_drewN HNx.out _)
          have HD := Lib.hid (show wq.cell? ⟨b, off + k * 2, none⟩ = some (.int .i64 (vAt l k).p) ∧ wq.cell? ⟨b, off + k * 2 + 1, none⟩ = some (.int .u64 (vAt l k).g) by rw [← hwq]; exact ⟨d0, d1⟩)
          have hX0q : wq.cell? ⟨w.heap.size, 0, none⟩ = some (.int .i64 x.p) := by rw [← hwq]; exact hX0
          have hX1q : wq.cell? ⟨w.heap.size, 1, none⟩ = some (.int .u64 x.g) := by rw [← hwq]; exact hX1
          have HR := Lib.hid (lit_row wq x)
          have ho := HQ0.out.alloc (.cells #[.int .i64 x.p, .int .u64 x.g] 29)
          clear hwq
          go_wp2_with (at_builtin; refine wpList_append_v _ rfl _ _ rfl wb.heap.size _ _ _ rfl ho _ [x] rfl HR.out ?c3 ?c4 ?_)
          case c3 => simp; omega
          case c4 => have := HQ1.out.size; simp; omega
          intro v' w1 hown' hgrow _
          obtain ⟨A6, c6, rfl⟩ := owns_slice0 hown'
          have R := vapp_rel HQ0.out HQ1.out hown' hgrow
          have HRR := Lib.hid R
          clear hown' hgrow R ho
          have d0r := ((bl_then HX.out.2 HRR.out.2).cell (p := ⟨b, off + k * 2, none⟩) hbl).trans HD0.out.1
          have d1r := ((bl_then HX.out.2 HRR.out.2).cell (p := ⟨b, off + k * 2 + 1, none⟩) hbl).trans HD0.out.2
          have HR2 := Lib.hid (lit_row (w1) (vAt l k))
          have ho2 := (HRR.out.1).alloc (.cells #[.int .i64 (vAt l k).p, .int .u64 (vAt l k).g] 29)
          go_wp2_with (at_builtin; refine wpList_append_v _ rfl _ _ rfl wb.heap.size _ _ _ rfl ho2 _ [vAt l k] rfl HR2.out ?c3 ?c4 ?_)
          case c3 => simp; omega
          case c4 => have := HRR.out.2.size; simp at this ⊢; omega
          intro v' w2 hown2 hgrow2 _
          obtain ⟨A7, c7, rfl⟩ := owns_slice0 hown2
          have R2 := vapp_rel (HRR.out.1) HRR.out.2 hown2 hgrow2
          have HQ := Lib.hid R2
          clear hown2 hgrow2 R2 ho2
          go_wp2
          go_roundw
          case rel => exact ⟨k + 1, true, _, by omega, by go_num, rfl, by simp; omega, Lib.hid (by simpa using HQ.out.1), HG.out, HQ.out.2⟩
          case measure => simp [intOf]; omega
        · have HG := Lib.hid (HLa.out.no HI.out hp)
          have hd : decide (x.p < (vAt l k).p) = false := by simpa using hp
          go_wp2_with fail
          go_quiet (fail)
          generalize hwq : wr.drewN nq = wq
          have HQ0 := Lib.hid (show wq.ownsRow wb.heap.size 29 2 (.slice A5 L.length c5) L.length (vcs L) by rw [← hwq]; exact HO.out)
          have HQ1 := Lib.hid (show Below wb.heap.size wb wq by rw [← hwq]; exact bl_drewN HNx.out _)
          have d0q : wq.cell? ⟨b, off + k * 2, none⟩ = some (.int .i64 (vAt l k).p) := by rw [← hwq]; exact d0
          have d1q : wq.cell? ⟨b, off + k * 2 + 1, none⟩ = some (.int .u64 (vAt l k).g) := by rw [← hwq]; exact d1
          clear hwq
          have HR2 := Lib.hid (lit_row (wq) (vAt l k))
          have ho2 := (HQ0.out).alloc (.cells #[.int .i64 (vAt l k).p, .int .u64 (vAt l k).g] 29)
          go_wp2_with (at_builtin; refine wpList_append_v _ rfl _ _ rfl wb.heap.size _ _ _ rfl ho2 _ [vAt l k] rfl HR2.out ?c3 ?c4 ?_)
          case c3 => simp; omega
          case c4 => have := HQ1.out.size; simp at this ⊢; omega
          intro v' w2 hown2 hgrow2 _
          obtain ⟨A7, c7, rfl⟩ := owns_slice0 hown2
          have R2 := vapp_rel (HQ0.out) HQ1.out hown2 hgrow2
          have HQ := Lib.hid R2
          clear hown2 hgrow2 R2 ho2
          go_wp2
          go_roundw
          case rel => exact ⟨k + 1, false, _, by omega, by go_num, rfl, by simp; omega, Lib.hid (by simpa using HQ.out.1), HG.out, HQ.out.2⟩
          case measure => simp [intOf]; omega
    · obtain rfl : k = n := by omega
      cases put with
      | true =>
        have HE := Lib.hid (LaidAt.end1 (l := l) (x := x) (by rw [HN.out]; exact hL.out))
        clear hX hown hL hnx
        go_wp2_with fail
        go_ret
        exact ⟨_, rfl, by rw [← HE.out]; exact owns_mono HO.out (by omega), bl_then HX.out.2 HNx.out⟩
      | false =>
        have HE := Lib.hid (LaidAt.end2 (l := l) (x := x) (by rw [HN.out]; exact hL.out))
        have HR := Lib.hid (lit_row wr x)
        have ho := hown.out.alloc (.cells #[.int .i64 x.p, .int .u64 x.g] 29)
        clear hX hown hL hnx
        go_wp2_with (at_builtin; refine wpList_append_v _ rfl _ _ rfl wb.heap.size _ _ _ rfl ho _ [x] rfl HR.out ?c3 ?c4 ?_)
        case c3 => simp; omega
        case c4 => have := HNx.out.size; simp; omega
        intro v' w1 hown' hgrow _
        obtain ⟨A6, c6, rfl⟩ := owns_slice0 hown'
        have R := vapp_rel HO.out HNx.out hown' hgrow
        have HRR := Lib.hid R
        clear hown' hgrow R ho
        go_wp2
        go_ret
        exact ⟨_, rfl, by rw [← HE.out]; simpa using owns_mono HRR.out.1 (by omega), bl_then HX.out.2 HRR.out.2⟩
end Go.Proofs.Ytooghjnddifpdaa
end
section
namespace Go.Proofs.Ytooghjnddifpdaa
open Go.RowKit Go.Proofs.Ytooghjnddifpdaa.Cm BigFrame
set_option linter.unusedSimpArgs false
set_option linter.unusedVariables false
attribute [local go_sem] cell_alloc_some frozen_alloc_some

/-- What a commit is with a vote more, or why it is none. -/
def addE (c : C) (x : Vt) : Nat := if chk c ≠ 0 then chk c else if x.p < 0 ∨ 64 ≤ x.p then 3 else if (findV c.vs x.p).isSome = true then 8 else 0
def addC (c : C) (x : Vt) : C := if addE c x = 0 then ⟨c.h, c.x, laidV c.vs x⟩ else cZ
/-- A commit told, in new memory, and an error. -/
def COut (d : C) (n : Nat) (w : World) (e : Ending) (w' : World) : Prop := ∃ v', e = .returned (.tuple #[.agg (ccs d v').toArray, .int .i64 (n : Int)]) ∧ NewVotes w w' v' d.vs
theorem COut.none {d : C} {n : Nat} {w w' : World} {e : Ending} {m : Int} (hd : d = cZ) (hm : m = (n : Int)) (he : e = .returned (.tuple #[.agg (ccs cZ vZ).toArray, .int .i64 m])) (hb : Below w.heap.size w w') : COut d n w e w' := by
  subst hd; subst hm
  exact ⟨_, he, World.ownsRow_nil _ _ _ _, hb⟩
theorem addC_no {c : C} {x : Vt} (h : addE c x ≠ 0) : addC c x = cZ := by unfold addC; rw [if_neg h]
theorem vt_boxed {w : World} {b : Nat} {x : Vt} {fr : Nat × Nat} (h : w.heap[b]? = some (.cells #[.int .i64 x.p, .int .u64 x.g] 29 fr)) : w.cell? ⟨b, 0, none⟩ = some (.int .i64 x.p) ∧ w.cell? ⟨b, 1, none⟩ = some (.int .u64 x.g) := ⟨kb_cell h 0, kb_cell h 1⟩
/-- The blocks that Add makes at first. -/
structure AddIn (w wA : World) (c : C) (v : Value) (x : Vt) : Prop where
  e0 : wA.heap[w.heap.size]? = some (.cells (ccs c v).toArray 26 (0, 0))
  e1 : wA.heap[w.heap.size + 1]? = some (.cells #[.int .i64 x.p, .int .u64 x.g] 29 (0, 0))
  e2 : wA.heap[w.heap.size + 2]? = some (.cells (ccs cZ vZ).toArray 26 (0, 0))
  b : Below w.heap.size w wA
theorem AddIn.mk' (w : World) (c : C) (v : Value) (x : Vt) : AddIn w (((w.alloc (.cells (ccs c v).toArray 26)).alloc (.cells #[.int .i64 x.p, .int .u64 x.g] 29)).alloc (.cells (ccs cZ vZ).toArray 26)) c v x where
  e0 := kb_alloc (kb_alloc (kb_new rfl _) _) _
  e1 := kb_alloc (kb_new (by simp) _) _
  e2 := kb_new (by simp) _
  b := bl_alloc (bl_alloc (bl_alloc (Below.refl _ _) _) _) _
theorem AddIn.below {w wA wB : World} {c : C} {v : Value} {x : Vt} (h : AddIn w wA c v x) (k : Below wA.heap.size wA wB) : AddIn w wB c v x := ⟨kb_below k h.e0, kb_below k h.e1, kb_below k h.e2, bl_then h.b k⟩
theorem AddIn.size {w wA : World} {c : C} {v : Value} {x : Vt} (h : AddIn w wA c v x) : w.heap.size + 2 < wA.heap.size := kb_lt h.e2
theorem zArr : (ccs cZ vZ).toArray.size = 34 := rfl

set_option maxRecDepth 100000 in
set_option maxHeartbeats 4000000 in
theorem Add_bad {w : World} {c : C} {v : Value} (x : Vt) (hx : c.x.length = 32) (hv : VRow w v c.vs) (hl : c.vs.length ≤ 1000000) (hc : chk c ≠ 0) :
    Calls Try.prog 12 #[.agg (ccs c v).toArray, vtV x] w (COut (addC c x) (addE c x) w) := by
  have he : addE c x = chk c := by unfold addE; rw [if_pos hc]
  have HE := Lib.hid (And.intro he (addC_no (by rw [he]; exact hc)))
  have HV := Lib.hid hv
  have HX := Lib.hid hx
  have hone := hv.one
  have HC := Lib.hid hc
  clear he hv hx hc
  go_enter Try.func12, Try.ntmps12
  go_upto_region 1 with fail
  refine wp_world fun wA hwA => ?_
  have hA : AddIn w wA c v x := by rw [hwA]; exact AddIn.mk' w c v x
  have HA := Lib.hid hA
  clear hwA hA
  go_wp2_with (with_reducible refine wpList_load_cw _ rfl (by kernel_rfl) _ rfl HA.out.e0 HX.out ?_)
  refine (Check_any' HX.out (HV.out.below HA.out.b) hl).mono ?_
  rintro e w1 ⟨rfl, b1⟩
  have HA1 := Lib.hid (HA.out.below b1)
  clear b1
  have hn : ((chk c : Int) == 0) = false := by have := HC.out; simpa using this
  have hn' : ¬ ((chk c : Int) = 0) := by have := HC.out; omega
  go_wp2_with (refine wpList_store_c (op := ⟨none, _, _, _, _, _⟩) rfl _ _ rfl _ rfl (congrArg Value.agg zeroC) HA1.out.e2 zArr cZ_x rfl ?_)
  intro w2 g2 k2
  have HG := Lib.hid (And.intro g2 k2)
  clear g2 k2
  go_wp2_with fail
  refine bodyPost_ret (results_c rfl _ _ (w.heap.size + 2) cZ_x rfl HG.out.1 rfl) rfl ?_
  exact COut.none HE.out.2 (by rw [HE.out.1]) rfl (((Keep.of_below (S := fun _ => False) HA1.out.b).trans HG.out.2 (fun b h e => by omega)).below (Nat.le_refl _) (fun b e => e.elim))

set_option maxRecDepth 100000 in
set_option maxHeartbeats 4000000 in
theorem Add_range {w : World} {c : C} {v : Value} (x : Vt) (hx : c.x.length = 32) (hv : VRow w v c.vs) (hl : c.vs.length ≤ 1000000) (hc : chk c = 0) (hr : x.p < 0 ∨ 64 ≤ x.p) :
    Calls Try.prog 12 #[.agg (ccs c v).toArray, vtV x] w (COut (addC c x) (addE c x) w) := by
  have he : addE c x = 3 := by unfold addE; rw [if_neg (by omega), if_pos hr]
  have HE := Lib.hid (And.intro he (addC_no (by rw [he]; decide)))
  have HR := Lib.hid hr
  clear hr
  have HV := Lib.hid hv
  have HX := Lib.hid hx
  have hone := hv.one
  have HC := Lib.hid hc
  clear he hv hx hc
  go_enter Try.func12, Try.ntmps12
  go_upto_region 1 with fail
  refine wp_world fun wA hwA => ?_
  have hA : AddIn w wA c v x := by rw [hwA]; exact AddIn.mk' w c v x
  have HA := Lib.hid hA
  clear hwA hA
  go_wp2_with (with_reducible refine wpList_load_cw _ rfl (by kernel_rfl) _ rfl HA.out.e0 HX.out ?_)
  refine (Check_any' HX.out (HV.out.below HA.out.b) hl).mono ?_
  rintro e w1 ⟨rfl, b1⟩
  have HA1 := Lib.hid (HA.out.below b1)
  clear b1
  rw [HC.out]
  go_wp2_with fail
  obtain ⟨hp0, hp1⟩ := vt_boxed (kb_drew HA1.out.e1)
  refine wp_region_held_drew (S := (fun W : World => W.cell? ⟨w.heap.size + 1, 0, none⟩ = some (.int .i64 x.p) ∧ W.cell? ⟨w.heap.size + 1, 1, none⟩ = some (.int .u64 x.g))) (by kernel_rfl) ⟨hp0, hp1⟩ (fun hHeld => ?_)
  refine wpAnyH_take (i := 1) (oi := { dst := some 17, op := _, type := _, pos := _, after := _, guard := _ }) (v := ?_) rfl (by kernel_rfl) (by kernel_rfl) (by kernel_rfl) (fun _ _ _ h => h) (Or.inl ⟨by rfl, ?_⟩) hHeld ?_
  rotate_left
  · (intro w hSw; (try dsimp only at hSw); go_simp); all_goals with_reducible rfl
  try simp only [Act.put, List.setIfInBounds_toArray, List.set_cons_zero, List.set_cons_succ]
  refine wpAnyH_ready (rs := [0]) (by kernel_rfl) (by simp) (AllReadyH.cons (o := _) rfl (fun K hK => ?_) AllReadyH.nil)
  go_simp
  refine (rises_any _).mono ?_
  rintro e w2 ⟨rfl, rfl⟩
  have HA2 := Lib.hid (HA1.out.below (bl_alloc (bl_drew (Below.refl _ _)) (.cells #[.int .i64 (-1)] 3)))
  refine hK.out _ _ (vt_boxed HA2.out.e1) (fun hHeld => ?_)
  clear hK K
  refine wpAnyH_ready (rs := [2]) (by kernel_rfl) (by simp) (AllReadyH.cons (o := _) rfl (fun K hK => ?_) AllReadyH.nil)
  go_simp
  refine (rise_any (last := -1) x (kb_new (w := w1.drew) rfl _)).mono ?_
  rintro e w3 ⟨rfl, h3, k3⟩
  have hsz := HA1.out.size
  have E0 := k3.kb HA2.out.e0 (by simp; omega)
  have E1 := k3.kb HA2.out.e1 (by simp; omega)
  have E2 := k3.kb HA2.out.e2 (by simp; omega)
  have bb : Below w.heap.size w w3 := ((Keep.of_below (S := fun _ => False) HA2.out.b).trans k3 (fun b h e => by have : b = w1.heap.size := e; omega)).below (Nat.le_refl _) (fun b e => e.elim)
  have HA3 := Lib.hid (AddIn.mk E0 E1 E2 bb)
  refine hK.out _ _ (vt_boxed HA3.out.e1) (fun hHeld => ?_)
  clear hK K h3 k3 E0 E1 E2 bb
  generalize hrr : (riseS (-1) x).1 = rr at *
  refine wpAnyH_take (i := 3) (oi := { dst := some 7, op := _, type := _, pos := _, after := _, guard := _ }) (v := ?_) rfl (by kernel_rfl) (by kernel_rfl) (by kernel_rfl) (fun _ _ _ h => h) (Or.inl ⟨by rfl, ?_⟩) hHeld ?_
  rotate_left
  · (intro w hSw; (try dsimp only at hSw); go_simp); all_goals with_reducible rfl
  try simp only [Act.put, List.setIfInBounds_toArray, List.set_cons_zero, List.set_cons_succ]
  refine wpAnyH_done (by kernel_rfl) ?_ _
  have e3 : rr = 3 := by rw [← hrr]; exact rise_3 HR.out
  subst e3
  clear hHeld hrr
  go_wp2_with (refine wpList_store_c (op := ⟨none, _, _, _, _, _⟩) rfl _ _ rfl _ rfl (congrArg Value.agg zeroC) HA3.out.e2 zArr cZ_x rfl ?_)
  intro w4 g2 k2
  have HG := Lib.hid (And.intro g2 k2)
  clear g2 k2
  go_wp2_with fail
  refine bodyPost_ret (results_c rfl _ _ (w.heap.size + 2) cZ_x rfl HG.out.1 rfl) rfl ?_
  exact COut.none HE.out.2 (by rw [HE.out.1]; rfl) rfl (((Keep.of_below (S := fun _ => False) HA3.out.b).trans HG.out.2 (fun b h e => by omega)).below (Nat.le_refl _) (fun b e => e.elim))
end Go.Proofs.Ytooghjnddifpdaa
end
