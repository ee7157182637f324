/- Votes appended; CopyCommit, OverCommit. -/
import Derived.Test.YtooghjnddifpdaaCm6
import Derived.Deep.Cut
namespace Go.Proofs.Ytooghjnddifpdaa
open Go.RowKit Go.Proofs.Ytooghjnddifpdaa.Cm BigFrame
set_option linter.unusedSimpArgs false
set_option linter.unusedVariables false
attribute [local go_sem] cell_alloc_some frozen_alloc_some

/-- A world gets a name. -/
theorem wp_world {P : Program} {code : Code} {Q : Exit → Act → World → Prop} {a : Act} {w : World} (h : ∀ w', w' = w → Code.wp P code Q a w') : Code.wp P code Q a w := h w rfl
theorem infoV : (Try.prog.info? 29).map (fun i => (i.zero, i.size, i.bytes)) = some (some (.agg #[.int .i64 0, .int .u64 0]), 2, 16) := by kernel_rfl
theorem vcs_get {l : List Vt} {j : Nat} {u : Value} (h : (vcs l)[j]? = some u) : ∃ m, l[j / 2]? = some m ∧ u = if j % 2 = 0 then .int .i64 m.p else .int .u64 m.g := by
  have hj := (List.getElem?_eq_some_iff.1 h).1
  rw [vcs_len] at hj
  obtain ⟨m, hm⟩ : ∃ m, l[j / 2]? = some m := ⟨_, List.getElem?_eq_getElem (by omega)⟩
  obtain ⟨h1, h2⟩ := vcs_at l _ m hm
  refine ⟨m, hm, ?_⟩
  by_cases e : j % 2 = 0
  · rw [if_pos e]
    rw [show j = j / 2 * 2 by omega, h1] at h
    injection h with h; exact h.symm
  · rw [if_neg e]
    rw [show j = j / 2 * 2 + 1 by omega, h2] at h
    injection h with h; exact h.symm
theorem VRow.cells {w : World} {v : Value} {l : List Vt} (h : VRow w v l) (h0 : 0 < l.length) : ∃ b off cap, v = .slice (some ⟨b, off, none⟩) l.length cap ∧ b < w.heap.size ∧ ∀ j u, (vcs l)[j]? = some u → w.cell? ⟨b, off + j, none⟩ = some u := by
  obtain ⟨A, cap, rfl, h⟩ := h
  obtain ⟨b, off, rfl, hb, hc⟩ := h h0
  refine ⟨b, off, cap, rfl, hb, fun j u hu => ?_⟩
  obtain ⟨m, hm, rfl⟩ := vcs_get hu
  obtain ⟨h1, h2⟩ := hc _ m hm
  by_cases e : j % 2 = 0
  · rw [if_pos e, ← h1]
    rw [show off + j / 2 * 2 = off + j by omega]
  · rw [if_neg e, ← h2]
    rw [show off + j / 2 * 2 + 1 = off + j by omega]
/-- Votes are appended onto a row of the call's own. -/
theorem run_append_v (w : World) (base ty : Nat) (v : Value) (n : Nat) (xs : List Value) (hown : w.ownsRow base 29 2 v n xs) (u : Value) (l : List Vt) (hu : VRow w u l)
    (h63 : n + l.length ≤ 1000000000) (hbase : base ≤ w.heap.size) :
    ∃ v' w', (Builtin.append_ #[24, 24] ty #[v, u]).run Try.prog w = .ok v' w' ∧ w'.ownsRow base 29 2 v' (n + l.length) (xs ++ vcs l) ∧ w.grownBy w' v.ownBlock ∧
      (v'.ownBlock = v.ownBlock ∨ v'.ownBlock = some w.heap.size) := by
  obtain ⟨i0, hi, hz0, hz1, hz2⟩ := info_parts infoV
  rcases Nat.eq_zero_or_pos l.length with h0 | h0
  · obtain rfl : l = [] := List.eq_nil_of_length_eq_zero h0
    obtain ⟨A, c, rfl, _⟩ := hu
    cases A with
    | none =>
      refine ⟨v, w, ?_, by simpa [vcs] using hown, ⟨rfl, rfl, rfl, Nat.le_refl _, fun _ _ _ => rfl⟩, .inl rfl⟩
      rcases hown.2 with ⟨rfl, rfl⟩ | ⟨g, cap, cur, rfl, _, _, hnc, _⟩
      · simp [Builtin.append_, run_underlying Try.underlying24, sizeOf, typeInfo, hi, Builtin.lenOf, Builtin.firstCells]
      · simp [Builtin.append_, run_underlying Try.underlying24, sizeOf, typeInfo, hi, Builtin.lenOf, Builtin.firstCells, hnc, storeCells]
    | some ad =>
      obtain ⟨v', w', hr, h2, h3, _, h5⟩ := run_append_own_at (P := Try.prog) w base 24 ty 29 i0 (.agg #[.int .i64 0, .int .u64 0]) 2 16 Try.underlying24 hi hz0 hz1 hz2 rfl (by omega) v n xs hown ad 0 c [] (by simp) (fun j u hu => by simp at hu) (by simp) (by unfold maxLen; simp at h63; omega) (by simp at h63; omega) hbase
      exact ⟨v', w', hr, h2, h3, h5⟩
  · obtain ⟨b, off, cap, rfl, hb, hc⟩ := hu.cells h0
    obtain ⟨v', w', hr, h2, h3, _, h5⟩ := run_append_own_at (P := Try.prog) w base 24 ty 29 i0 (.agg #[.int .i64 0, .int .u64 0]) 2 16 Try.underlying24 hi hz0 hz1 hz2 rfl (by omega) v n xs hown ⟨b, off, none⟩ l.length cap (vcs l) (by rw [vcs_len]) (fun j u hu => by rw [addr_add]; exact hc j u hu) (vcs_one l) (by unfold maxLen; omega) (by omega) hbase
    exact ⟨v', w', hr, h2, h3, h5⟩
theorem wp_append_v (w : World) {o : Oper} {a : Act} {K : Act → World → Prop} {Q : Exit → Act → World → Prop} (s x : Operand)
    (ho : o.op = .call { callee := .builtin .append, args := #[s, x], argTypes := #[24, 24] })
    (base : Nat) (v : Value) (n : Nat) (xs : List Value) (hs : a.eval s = v) (hown : w.ownsRow base 29 2 v n xs)
    (u : Value) (l : List Vt) (hx : a.eval x = u) (hu : VRow w u l) (h63 : n + l.length ≤ 1000000000) (hbase : base ≤ w.heap.size)
    (h : ∀ v' w', w'.ownsRow base 29 2 v' (n + l.length) (xs ++ vcs l) → w.grownBy w' v.ownBlock → (v'.ownBlock = v.ownBlock ∨ v'.ownBlock = some w.heap.size) → K (a.put o.dst v') w') :
    o.wp Try.prog a w K Q := by
  obtain ⟨v', w', hr, h2, h3, h5⟩ := run_append_v w base o.type v n xs hown u l hu h63 hbase
  unfold Oper.wp execOp
  simp only [ho, resolve, invoke, builtin, Sem.run_bind, Sem.run_pure, Result.andThen_ok, List.map_toArray, List.map_cons, List.map_nil, hs, hx, hr]
  exact h v' w' h2 h3 h5
theorem wpList_append_v (w : World) {ops : Array Oper} {rest : List Oper} {o : Oper} {a : Act} {Q : Exit → Act → World → Prop} (hgd : o.guard = none) (s x : Operand)
    (ho : o.op = .call { callee := .builtin .append, args := #[s, x], argTypes := #[24, 24] })
    (base : Nat) (v : Value) (n : Nat) (xs : List Value) (hs : a.eval s = v) (hown : w.ownsRow base 29 2 v n xs)
    (u : Value) (l : List Vt) (hx : a.eval x = u) (hu : VRow w u l) (h63 : n + l.length ≤ 1000000000) (hbase : base ≤ w.heap.size)
    (h : ∀ v' w', w'.ownsRow base 29 2 v' (n + l.length) (xs ++ vcs l) → w.grownBy w' v.ownBlock → (v'.ownBlock = v.ownBlock ∨ v'.ownBlock = some w.heap.size) → wpList Try.prog ops Q rest (a.put o.dst v') w') :
    wpList Try.prog ops Q (o :: rest) a w :=
  wpList_plain hgd fun K hK => wp_append_v w s x ho base v n xs hs hown u l hx hu h63 hbase fun v' w' h2 h3 h5 => hK _ _ (h v' w' h2 h3 h5)
theorem owns_lit0v {w : World} {base b : Nat} {e : TypeId} {cap : Nat} (h : w.heap[b]? = some (.cells #[] e (0, 0))) (hb : base ≤ b) (hc : cap = 0) : w.ownsRow base e 2 (.slice (some ⟨b, 0, none⟩) 0 cap) 0 [] :=
  ⟨rfl, .inr ⟨b, cap, #[], rfl, hb, h, Nat.zero_le _, by subst hc; decide, by subst hc; rfl, rfl⟩⟩
/-- Votes made anew. -/
def NewVotes (w w' : World) (v : Value) (l : List Vt) : Prop := w'.ownsRow w.heap.size 29 2 v l.length (vcs l) ∧ Below w.heap.size w w'
theorem NewVotes.row {w w' : World} {v : Value} {l : List Vt} (h : NewVotes w w' v l) : VRow w' v l := VRow.of_own h.1
theorem own1 {w : World} {base e size n : Nat} {v : Value} {xs : List Value} (h : w.ownsRow base e size v n xs) : v.oneCell' = true := by
  obtain ⟨A, c, rfl⟩ := owns_slice0 h; rfl

set_option maxRecDepth 100000 in
set_option maxHeartbeats 2000000 in
theorem CopyCommit_any {w : World} {c : C} {v : Value} (hx : c.x.length = 32) (hv : VRow w v c.vs) (hl : c.vs.length ≤ 1000000) :
    Calls Try.prog 11 #[.agg (ccs c v).toArray] w fun e w' => ∃ v', e = .returned (.agg (ccs c v').toArray) ∧ NewVotes w w' v' c.vs := by
  have q33 := ccs_33 hx v
  have D0 : (w.alloc (.cells (ccs c v).toArray 26)).heap[w.heap.size]? = some _ := kb_new rfl _
  have b0 : Below w.heap.size w (w.alloc (.cells (ccs c v).toArray 26)) := bl_alloc (Below.refl _ _) _
  have HV := Lib.hid (fun W (h : Below w.heap.size w W) => hv.below h)
  have HX := Lib.hid hx
  have hone := hv.one
  have HD := Lib.hid (And.intro D0 b0)
  clear hv b0 hx D0
  go_enter Try.func11, Try.ntmps11
  go_upto_region 1 with fail
  refine wp_world fun wz hwz => ?_
  have hsz : wz.heap.size = w.heap.size + 2 := by rw [hwz]; simp
  have E0 : wz.heap[w.heap.size]? = some (.cells (ccs c v).toArray 26 (0, 0)) := by rw [hwz]; exact kb_alloc HD.out.1 _
  have E1 : wz.heap[w.heap.size + 1]? = some (.cells (ccs cZ vZ).toArray 26 (0, 0)) := by rw [hwz]; exact kb_new (by simp) _
  have bz : Below w.heap.size w wz := by rw [hwz]; exact bl_alloc HD.out.2 _
  have HE := Lib.hid (And.intro E0 (And.intro E1 bz))
  have e33 := (kb_cell E0 33).trans (by simpa using q33)
  clear E0 E1 hwz
  have ho := owns_lit0v (w := wz.alloc (.cells #[] 29)) (base := w.heap.size + 2) (b := w.heap.size + 2) (cap := 0) (kb_new hsz.symm _) (by omega) rfl
  have hV := HV.out _ (bl_alloc bz (.cells #[] 29))
  go_wp2_with (at_builtin; refine wpList_append_v _ rfl _ _ rfl (w.heap.size + 2) _ _ _ rfl ho _ _ rfl hV ?c1 ?c2 ?_)
  case c1 => omega
  case c2 => simp; omega
  intro v' w1 hown' hgrow _
  obtain ⟨A', cap', rfl⟩ := owns_slice0 hown'
  have b1 : Below wz.heap.size wz w1 := (bl_alloc (Below.refl _ _) _).grown hgrow (by simp) (fun j hj => by simp [Value.ownBlock] at hj; omega)
  have E0 := kb_below b1 HE.out.1
  have z0 := kb_frozen E0 33
  have e33' := (kb_cell E0 33).trans (by simpa using q33)
  have hF := kb_set (i := 33) E0 (.slice A' c.vs.length cap')
  rw [ccs_set HX.out] at hF
  have E1 := kb_far (kb_below b1 HE.out.2.1) (p := ⟨w.heap.size, 33, none⟩) (by simp) (.slice A' c.vs.length cap')
  have hs1 := b1.size
  have HO := Lib.hid hown'
  have HF := Lib.hid (And.intro hF E1)
  have HB1 := Lib.hid b1
  have h1 := own1 hown'
  clear hown' hgrow ho hV E0 hF E1 e33 b1
  go_wp2_with (first
    | (with_reducible refine wpList_load_cw _ rfl (by kernel_rfl) _ rfl HF.out.1 HX.out ?_)
    | (with_reducible refine wpList_store_c rfl _ _ rfl _ rfl rfl HF.out.2 rfl HX.out h1 ?_))
  intro w2 g2 k2
  have HG := Lib.hid (And.intro g2 k2)
  clear g2 k2
  go_wp2_with fail
  refine bodyPost_ret (results_c1 rfl _ _ (w.heap.size + 1) HX.out rfl HG.out.1) rfl ?_
  have n1 : w1.ownsRow (w.heap.size + 2) 29 2 (.slice A' c.vs.length cap') c.vs.length (vcs c.vs) := by simpa using HO.out
  have hgl : ∀ g, (Value.slice A' c.vs.length cap').ownBlock = some g → w.heap.size + 2 ≤ g := fun g hg => (n1.lt g hg).1
  have n2 := own_set (p := w.heap.size) (i := 33) (u := .slice A' c.vs.length cap') n1 (fun e => by have := hgl _ e; omega)
  have n3 := HG.out.2.row n2 (fun b hb e => by have := hgl b hb; omega)
  have bw : Below w.heap.size w (w1.setCell ⟨w.heap.size, 33, none⟩ (.slice A' c.vs.length cap')) := bl_set (Nat.le_refl _) (bl_then bz HB1.out) _
  exact ⟨_, rfl, owns_mono n3 (by omega), ((Keep.of_below (S := fun _ => False) bw).trans HG.out.2 (fun b h e => by omega)).below (Nat.le_refl _) (fun b e => e.elim)⟩
end Go.Proofs.Ytooghjnddifpdaa
