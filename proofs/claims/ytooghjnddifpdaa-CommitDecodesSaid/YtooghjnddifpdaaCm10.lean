/- slices.Insert of one vote without room; as a whole. -/
import Derived.Test.YtooghjnddifpdaaCm9
namespace Go.Proofs.Ytooghjnddifpdaa
open Go.RowKit Go.Proofs.Ytooghjnddifpdaa.Cm BigFrame
set_option linter.unusedSimpArgs false
set_option linter.unusedVariables false
attribute [local go_sem] cell_alloc_some frozen_alloc_some

theorem wpList_append_eq (w : World) {ops : Array Oper} {rest : List Oper} {o : Oper} {a : Act} {Q : Exit → Act → World → Prop} (hgd : o.guard = none) (d s : Operand)
    (ho : o.op = .call { callee := .builtin .append, args := #[d, s], argTypes := #[24, 3] }) (v u : Value) (hd : a.eval d = v) (hs : a.eval s = u) {v' : Value} {w' : World}
    (hr : ∀ ty, (Builtin.append_ #[24, 3] ty #[v, u]).run Try.prog w = .ok v' w') (h : ∀ W, Hid (W = w') → wpList Try.prog ops Q rest (a.put o.dst v') W) : wpList Try.prog ops Q (o :: rest) a w :=
  wpList_plain hgd fun _ hK => by
    unfold Oper.wp execOp
    simp only [ho, resolve, invoke, builtin, Sem.run_bind, Sem.run_pure, Result.andThen_ok, List.map_toArray, List.map_cons, List.map_nil, hd, hs, hr]
    exact hK _ _ (h _ (Lib.hid rfl))
theorem wpList_copy_eq (w : World) {ops : Array Oper} {rest : List Oper} {o : Oper} {a : Act} {Q : Exit → Act → World → Prop} (hgd : o.guard = none) (d s : Operand)
    (ho : o.op = .call { callee := .builtin .copy, args := #[d, s], argTypes := #[24, 24] }) (v u : Value) (hd : a.eval d = v) (hs : a.eval s = u) {v' : Value} {w' : World}
    (hr : ∀ ty, (Builtin.copy_ #[24, 24] ty #[v, u]).run Try.prog w = .ok v' w') (h : ∀ W, Hid (W = w') → wpList Try.prog ops Q rest (a.put o.dst v') W) : wpList Try.prog ops Q (o :: rest) a w :=
  wpList_copy_v w hgd d s ho v u hd hs hr (h _ (Lib.hid rfl))
/-- A new row, the vote laid in, what stood behind the place behind it. -/
theorem grow_row {row : Array Value} {l : List Vt} {x : Vt} {n G i : Nat} (hsz : row.size = G * 2) (htk : row.toList.take (i * 2) = (vcs l).take (i * 2)) (hn : l.length = n) (hi : i ≤ n) (hG : n + 1 ≤ G) :
    (updC (updC row (i * 2) [.int .i64 x.p, .int .u64 x.g]) ((i + 1) * 2) ((vcs l).drop (i * 2))).toList.take ((n + 1) * 2) = vcs (l.take i ++ x :: l.drop i) := by
  have hL : (vcs l).length = n * 2 := by rw [vcs_len, hn]
  rw [vcs_laid]
  apply List.ext_getElem?
  intro j
  by_cases hj : j < (n + 1) * 2
  · rw [List.getElem?_take_of_lt hj, Array.getElem?_toList, updC_get _ _ _ (by rw [updC_size, hsz, List.length_drop, hL]; omega)]
    by_cases h0 : (i + 1) * 2 ≤ j
    · rw [if_pos (by rw [List.length_drop, hL]; omega), List.getElem?_append_right (by rw [List.length_take, hL]; omega), List.getElem?_append_right (by simp; omega)]
      congr 1
      simp [List.length_take, hL]
      omega
    · rw [if_neg (by omega), updC_get _ _ _ (by rw [hsz]; simp; omega)]
      by_cases h1 : i * 2 ≤ j ∧ j < i * 2 + 2
      · rw [if_pos (by simpa using h1), List.getElem?_append_right (by simp; omega), List.getElem?_append_left (by simp; omega)]
        rw [List.length_take, hL, show min (i * 2) (n * 2) = i * 2 by omega]
      · have h2 : j < i * 2 := by omega
        rw [if_neg (by simpa using h1), List.getElem?_append_left (by rw [List.length_take, hL]; omega), ← htk, List.getElem?_take_of_lt h2, Array.getElem?_toList]
  · rw [List.getElem?_take_eq_none (by omega), List.getElem?_eq_none (by simp [hL]; omega)]

set_option maxRecDepth 100000 in
set_option maxHeartbeats 4000000 in
theorem Insert_grow {w : World} {B g vb n i : Nat} {cur : Array Value} {l : List Vt} {x : Vt} (hB : B ≤ w.heap.size) (hh : w.heap[g]? = some (.cells cur 29 (0, 0))) (hsz : cur.size = n * 2) (htk : cur.toList.take (n * 2) = vcs l) (hn : l.length = n)
    (hv : w.heap[vb]? = some (.cells #[.int .i64 x.p, .int .u64 x.g] 29 (0, 0))) (hi : i < n) (hl : n ≤ 1000000) :
    Calls Try.prog 45 #[.slice (some ⟨g, 0, none⟩) n n, .int .i64 i, .slice (some ⟨vb, 0, none⟩) 1 1] w (InsOut B (.slice (some ⟨g, 0, none⟩) n n) (l.take i ++ x :: l.drop i) w) := by
  obtain ⟨i0, hi0, hz0, hz1, hz2⟩ := info_parts infoV
  have hL : (vcs l).length = n * 2 := by rw [vcs_len, hn]
  have hq2 : ¬ ((i : Int) = (n : Int)) := by omega
  have hq3 : (n : Int) < (n : Int) + 1 := by omega
  have hkk : (n : Int) + 1 - (i : Int) = ((n + 1 - i : Nat) : Int) := by omega
  have hik : i + (n + 1 - i) = n + 1 := by omega
  have hcell : ∀ (W : World), W.heap[g]? = some (.cells cur 29 (0, 0)) → ∀ j u, (vcs l)[j]? = some u → W.cell? ⟨g, j, none⟩ = some u := fun W hW j u hj => by
    rw [kb_cell hW, ← Array.getElem?_toList]
    rw [← htk, List.getElem?_take] at hj
    split at hj
    · exact hj
    · cases hj
  have hold : (Builtin.firstCells i0.size i (.slice (some ⟨g, 0, none⟩) i n)).run Try.prog w.drew = .ok ((vcs l).take (i * 2)).toArray w.drew := by
    rw [hz1]
    exact run_firstCells_some w.drew 2 i ⟨g, 0, none⟩ i n ((vcs l).take (i * 2)) (by rw [List.length_take, hL]; omega) (fun j v hj => by
      rw [addr_add, Nat.zero_add]
      rw [List.getElem?_take] at hj
      split at hj
      · exact hcell w.drew (kb_drew hh) j v hj
      · cases hj)
  obtain ⟨G, hG⟩ : ∃ G, G = grownCap w (n + 1) n 29 := ⟨_, rfl⟩
  have hGn : n + 1 ≤ G := by rw [hG]; exact grownCap_ge w _ _ _
  have hGm : G ≤ maxLen := by rw [hG]; exact grownCap_le_maxLen w (n + 1) n 29 (by unfold maxLen; omega)
  obtain ⟨ROW, hROW⟩ : ∃ ROW : Array Value, ROW = ((vcs l).take (i * 2)).toArray ++ Builtin.zeroCells (Value.agg #[.int .i64 0, .int .u64 0]).cells (n + 1 - i) ++ Builtin.zeroCells (Value.agg #[.int .i64 0, .int .u64 0]).cells (G - (n + 1)) := ⟨_, rfl⟩
  have hrz : ∀ ty, (Builtin.append_ #[24, 3] ty #[.slice (some ⟨g, 0, none⟩) i n, .int .i64 ((n : Int) + 1 - (i : Int))]).run Try.prog w = .ok (.slice (some ⟨w.heap.size, 0, none⟩) (n + 1) G) (w.drew.alloc (.cells ROW 29)) := fun ty => by
    have h := Lib.run_append_grow_zeros w 24 3 ty 29 i0 _ .i64 .i64 Try.underlying24 Try.underlying3 hi0 hz0 (some ⟨g, 0, none⟩) i n ((vcs l).take (i * 2)) hold (n + 1 - i) (by omega) (by omega) (by omega) (by omega) (by rw [hz2]; omega) (by rw [hz2, hik]; exact growslice_fits (by omega) (by omega))
    rw [hik, ← hG] at h
    rw [hkk, hROW]
    exact h
  have hRs : ROW.size = G * 2 := by
    rw [hROW]
    simp only [Array.size_append, List.size_toArray, List.length_take, hL, size_zeroCells]
    show _ + _ * 2 + _ * 2 = _
    rw [show min (i * 2) (n * 2) = i * 2 by omega]
    omega
  have hRt : ROW.toList.take (i * 2) = (vcs l).take (i * 2) := by
    rw [hROW]
    apply List.ext_getElem?
    intro j
    by_cases hj : j < i * 2
    · rw [List.getElem?_take_of_lt hj, Array.getElem?_toList, Array.getElem?_append_left (by simp [hL]; omega), Array.getElem?_append_left (by simp [hL]; omega)]
      simp
    · rw [List.getElem?_take_eq_none (by omega), List.getElem?_take_eq_none (by omega)]
  have hgw : g < w.heap.size := kb_lt hh
  have hvw : vb < w.heap.size := kb_lt hv
  have hGi : ¬ (G = i) := by omega
  have hGim : ¬ (G = i + 1) := by omega
  have hci : ¬ (n = i) := by omega
  have hmin : Nat.min (n - i) (n - i) = n - i := by simp only [Nat.min_def]; split <;> omega
  have hw1 : IntKind.i64.wrap ((i : Int) + 1) = (i : Int) + 1 := by rw [IntKind.wrap_i64]; omega
  have hb1 : (0 : Int) ≤ (i : Int) + 1 := by omega
  have hin : i ≤ n := by omega
  have htn : ((i : Int) + 1).toNat = i + 1 := by omega
  have hb3 : (i : Int) ≤ (n : Int) := by omega
  have hb6 : ((i : Int) + 1) ≤ (n : Int) + 1 := by omega
  have HH := Lib.hid (And.intro hh hv)
  have HN := Lib.hid hn
  have HC := Lib.hid hcell
  have HR := Lib.hid (And.intro hRs hRt)
  have HL := Lib.hid hL
  have HM := Lib.hid hmin
  have HRZ := Lib.hid hrz
  clear hkk hik hold hROW hG hh hv hn hsz htk hRs hRt hL hcell hmin hrz hi0 hz0 hz1 hz2
  go_enter Try.func45, Try.ntmps45
  go_wp2_with (at_builtin; refine wpList_append_eq _ rfl _ _ rfl _ _ rfl rfl HRZ.out ?_)
  intro W1 hW1
  have G1 : W1.heap[w.heap.size]? = some (.cells ROW 29 (0, 0)) := by rw [hW1.out]; exact kb_new rfl _
  have b1 : Below w.heap.size w W1 := by rw [hW1.out]; exact bl_alloc (bl_drew (Below.refl _ _)) _
  have HB := Lib.hid (And.intro G1 b1)
  clear hW1 G1 b1
  have hcp1 : ∀ ty, (Builtin.copy_ #[24, 24] ty #[.slice (some ⟨w.heap.size, i * 2, none⟩) (n + 1 - i) (G - i), .slice (some ⟨vb, 0, none⟩) 1 1]).run Try.prog W1 = .ok (goInt (Nat.min 1 (n + 1 - i))) (W1.setCells w.heap.size (i * 2) [.int .i64 x.p, .int .u64 x.g]) := fun ty =>
    run_copy_v W1 ty w.heap.size (i * 2) (n + 1 - i) (G - i) ⟨vb, 0, none⟩ 1 1 [.int .i64 x.p, .int .u64 x.g] (by rw [show Nat.min 1 (n + 1 - i) = 1 by simp only [Nat.min_def]; split <;> omega]; rfl)
      (fun j v hj => by
        rw [addr_add, Nat.zero_add, kb_cell (kb_below HB.out.2 HH.out.2)]
        simpa using hj)
      (fun j hj => by
        have hj : j < 2 := hj
        rw [kb_cell HB.out.1, Array.getElem?_eq_getElem (by rw [HR.out.1]; omega)]; rfl) (fun j hj => kb_frozen HB.out.1 _) (fun v hv => by
        rcases List.mem_cons.1 hv with rfl | hv
        · rfl
        · rw [List.mem_singleton.1 hv]; rfl)
  have HC1 := Lib.hid hcp1
  clear hcp1
  go_wp2_with (refine wpList_copy_eq (o := ⟨some 45, _, _, _, _, _⟩) _ rfl _ _ rfl _ _ rfl rfl HC1.out ?_)
  intro W2 hW2
  have G2 : W2.heap[w.heap.size]? = some (.cells (updC ROW (i * 2) [.int .i64 x.p, .int .u64 x.g]) 29 (0, 0)) := by rw [hW2.out]; exact setCells_at [.int .i64 x.p, .int .u64 x.g] W1 _ (i * 2) HB.out.1
  have b2 : Below w.heap.size w W2 := by rw [hW2.out]; exact bl_cells _ (Nat.le_refl _) _ HB.out.2
  have HB2 := Lib.hid (And.intro G2 b2)
  have hcp2 : ∀ ty, (Builtin.copy_ #[24, 24] ty #[.slice (some ⟨w.heap.size, (i + 1) * 2, none⟩) (n - i) (G - (i + 1)), .slice (some ⟨g, i * 2, none⟩) (n - i) (n - i)]).run Try.prog W2.drew = .ok (goInt (Nat.min (n - i) (n - i))) (W2.drew.setCells w.heap.size ((i + 1) * 2) ((vcs l).drop (i * 2))) := fun ty =>
    run_copy_v W2.drew ty w.heap.size ((i + 1) * 2) (n - i) (G - (i + 1)) ⟨g, i * 2, none⟩ (n - i) (n - i) ((vcs l).drop (i * 2)) (by rw [HM.out, List.length_drop, HL.out]; omega)
      (fun j v hj => by
        rw [addr_add]
        rw [List.getElem?_drop] at hj
        exact HC.out _ (kb_drew (kb_below HB2.out.2 HH.out.1)) _ _ hj)
      (fun j hj => by
        rw [List.length_drop, HL.out] at hj
        rw [kb_cell (kb_drew HB2.out.1), Array.getElem?_eq_getElem (by rw [updC_size, HR.out.1]; omega)]; rfl) (fun j hj => kb_frozen (kb_drew HB2.out.1) _) (fun v hv => vcs_one l v (List.mem_of_mem_drop hv))
  have G3 := setCells_at ((vcs l).drop (i * 2)) W2.drew _ ((i + 1) * 2) (kb_drew HB2.out.1)
  have b3 : Below w.heap.size w (W2.drew.setCells w.heap.size ((i + 1) * 2) ((vcs l).drop (i * 2))) := bl_cells _ (Nat.le_refl _) _ (bl_drew HB2.out.2)
  have HB3 := Lib.hid (And.intro G3 b3)
  clear G2 b2 G3 b3 hW2
  go_wp2_with fail
  go_region_law (refine step_copy_v rfl _ _ rfl _ _ (by simp [Act.eval, Act.put]) (by simp [Act.eval, Act.put]) hcp2 ?_)
  go_wp2
  go_ret
  refine InsOut.mk' (s' := .slice (some ⟨w.heap.size, 0, none⟩) (n + 1) G) (m := l.take i ++ x :: l.drop i) rfl ⟨?_, .inr ⟨w.heap.size, G, _, rfl, hB, HB3.out.1, by omega, hGm, by rw [updC_size, updC_size, HR.out.1], grow_row HR.out.1 HR.out.2 HN.out hin hGn⟩⟩ rfl (by simp [HN.out]; omega) (Keep.of_below HB3.out.2) (fun b hb => .inr (by simp [Value.ownBlock] at hb; omega))
  rw [vcs_len]; simp [HN.out]; omega

/-- Insert of one vote. -/
theorem Insert_any {w : World} {B vb : Nat} {s : Value} {l : List Vt} {x : Vt} (i : Nat) (ho : w.ownsRow B 29 2 s l.length (vcs l)) (hv : w.heap[vb]? = some (.cells #[.int .i64 x.p, .int .u64 x.g] 29 (0, 0))) (hne : s.ownBlock ≠ some vb) (hi : i ≤ l.length) (hB : B ≤ w.heap.size) (hl : l.length ≤ 1000000) :
    Calls Try.prog 45 #[s, .int .i64 i, .slice (some ⟨vb, 0, none⟩) 1 1] w (InsOut B s (l.take i ++ x :: l.drop i) w) := by
  by_cases e : i = l.length
  · subst e
    have hx : VRow w (.slice (some ⟨vb, 0, none⟩) 1 1) [x] := ⟨_, _, rfl, fun _ => ⟨vb, 0, rfl, kb_lt hv, fun j m hj => by
      cases j with
      | zero => simp at hj; subst hj; exact ⟨kb_cell hv 0, kb_cell hv 1⟩
      | succ j => simp at hj⟩⟩
    have := Insert_end ho hx hB hl
    simpa using this
  · rcases ho.2 with ⟨rfl, h0⟩ | ⟨g, cap, cur, rfl, hBg, hh, hnc, hm, hsz, htk⟩
    · omega
    · have hvg : vb ≠ g := fun h => hne (by rw [h]; rfl)
      by_cases hc : cap = l.length
      · subst hc
        exact Insert_grow hB hh hsz htk rfl hv (by omega) hl
      · exact Insert_shift hBg hh hm hsz htk rfl hv hvg (by omega) (by omega) hl
end Go.Proofs.Ytooghjnddifpdaa
