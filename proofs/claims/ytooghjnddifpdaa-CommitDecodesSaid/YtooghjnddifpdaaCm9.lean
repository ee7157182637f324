/- slices.Insert of one vote: at the end; with room; without room. -/
import Derived.Test.YtooghjnddifpdaaCm8
import Derived.Lib.AppendZerosOnto
import Derived.Lib.Overlaps
import Derived.Deep.RegionLaw
import Derived.Laws.Externs
import Derived.Laws.IdiomCopy
namespace Go.Proofs.Ytooghjnddifpdaa
open Go.RowKit Go.Proofs.Ytooghjnddifpdaa.Cm BigFrame
set_option linter.unusedSimpArgs false
set_option linter.unusedVariables false
attribute [local go_sem] cell_alloc_some frozen_alloc_some

theorem kb_shape {w : World} {b : Nat} {cs : Array Value} {t : TypeId} {fr : Nat × Nat} (h : w.heap[b]? = some (.cells cs t fr)) : w.shape? b = some (t, cs.size) := by simp [World.shape?, h]
theorem sizeV : (Try.prog.info? 29).map (·.size) = some 2 := by kernel_rfl
/-- copy of votes: all is read before anything is written. -/
theorem run_copy_v (w : World) (ty b o dLen dCap : Nat) (a : Addr) (sLen sCap : Nat) (cs : List Value) (hn : cs.length = Nat.min sLen dLen * 2)
    (hsrc : ∀ j v, cs[j]? = some v → w.cell? (a.add j) = some v) (hc : ∀ j, j < cs.length → (w.cell? ⟨b, o + j, none⟩).isSome = true) (hf : ∀ j, j < cs.length → w.frozen? ⟨b, o + j, none⟩ = false) (h1 : ∀ v ∈ cs, v.oneCell' = true) :
    (Builtin.copy_ #[24, 24] ty #[.slice (some ⟨b, o, none⟩) dLen dCap, .slice (some a) sLen sCap]).run Try.prog w = .ok (goInt (Nat.min sLen dLen)) (w.setCells b o cs) := by
  have hl := run_loadCells_list (P := Try.prog) w a cs hsrc
  have hst := run_storeCells_cells (P := Try.prog) b o cs 0 w (by simpa using hc) (by simpa using hf) h1
  have hs := sizeV
  cases hq : Try.prog.info? 29 with
  | none => simp [hq] at hs
  | some i =>
    have hi : i.size = 2 := by simpa [hq] using hs
    rw [hn] at hl
    simp [Builtin.copy_, run_underlying Try.underlying24, Builtin.lenOf, Builtin.firstCells, sizeOf, typeInfo, hq, hi, hl, hst]
theorem wpList_copy_v (w : World) {ops : Array Oper} {rest : List Oper} {o : Oper} {a : Act} {Q : Exit → Act → World → Prop} (hgd : o.guard = none) (d s : Operand)
    (ho : o.op = .call { callee := .builtin .copy, args := #[d, s], argTypes := #[24, 24] }) (v u : Value) (hd : a.eval d = v) (hs : a.eval s = u) {v' : Value} {w' : World}
    (hr : ∀ ty, (Builtin.copy_ #[24, 24] ty #[v, u]).run Try.prog w = .ok v' w') (h : wpList Try.prog ops Q rest (a.put o.dst v') w') : wpList Try.prog ops Q (o :: rest) a w :=
  wpList_plain hgd fun _ hK => by
    unfold Oper.wp execOp
    simp only [ho, resolve, invoke, builtin, Sem.run_bind, Sem.run_pure, Result.andThen_ok, List.map_toArray, List.map_cons, List.map_nil, hd, hs, hr]
    exact hK _ _ h
theorem step_copy_v {ops : Array Oper} {o : Oper} {a : Act} {w : World} {K : Act → World → Prop} {Q : Exit → Act → World → Prop} {E : Prop}
    (hg : o.guard = none) (d x : Operand) (hop : o.op = Op.call { callee := Callee.builtin Builtin.copy, args := #[d, x], argTypes := #[24, 24] })
    (v u : Value) (hd : a.eval d = v) (hx : a.eval x = u) {v' : Value} {w' : World} (hr : ∀ ty, (Builtin.copy_ #[24, 24] ty #[v, u]).run Try.prog w = .ok v' w') (hK : K (a.put o.dst v') w') :
    if Region.wanted o (yielded ops a.tmps) = true then Oper.wp Try.prog o a w K Q else E := by
  have hw : Region.wanted o (yielded ops a.tmps) = true := by simp [Region.wanted, hg]
  rw [if_pos hw]
  unfold Oper.wp
  simp [execOp, hop, resolve, invoke, builtin, hd, hx, hr, Result.andThen]
  exact hK

/-- What Insert answers. -/
def InsOut (B : Nat) (s : Value) (l : List Vt) (w : World) (e : Ending) (w' : World) : Prop := ∃ s', e = .returned s' ∧ w'.ownsRow B 29 2 s' l.length (vcs l) ∧ Keep (fun b => s.ownBlock = some b) w w' ∧ ∀ b, s'.ownBlock = some b → s.ownBlock = some b ∨ w.heap.size ≤ b
theorem InsOut.mk' {B n : Nat} {s s' : Value} {l m : List Vt} {w w' : World} {e : Ending} (he : e = .returned s') (ho : w'.ownsRow B 29 2 s' n (vcs m)) (hm : m = l) (hn : n = l.length) (hk : Keep (fun b => s.ownBlock = some b) w w') (hb : ∀ b, s'.ownBlock = some b → s.ownBlock = some b ∨ w.heap.size ≤ b) : InsOut B s l w e w' := by
  subst hm; subst hn; exact ⟨s', he, ho, hk, hb⟩

set_option maxRecDepth 100000 in
set_option maxHeartbeats 2000000 in
theorem Insert_end {w : World} {B : Nat} {s lit : Value} {l : List Vt} {x : Vt} (ho : w.ownsRow B 29 2 s l.length (vcs l)) (hx : VRow w lit [x]) (hB : B ≤ w.heap.size) (hl : l.length ≤ 1000000) :
    Calls Try.prog 45 #[s, .int .i64 l.length, lit] w (InsOut B s (l ++ [x]) w) := by
  obtain ⟨A, cap, rfl⟩ := owns_slice0 ho
  obtain ⟨A', cap', rfl⟩ := hx.form
  have HO := Lib.hid ho
  have HX := Lib.hid hx
  clear ho hx
  obtain ⟨n, hn⟩ : ∃ n, l.length = n := ⟨_, rfl⟩
  have HN := Lib.hid hn
  rw [hn] at hl HO ⊢
  clear hn
  rw [show ([x] : List Vt).length = 1 from rfl] at HX ⊢
  have hlt : ¬ (n : Int) < (n : Int) := by omega
  have hcapn : n ≤ cap := by
    rcases HO.out.2 with ⟨e, h0⟩ | ⟨g, c, cur, e, _, _, hnc, _⟩
    · injection e with e1 e2 e3; omega
    · injection e with e1 e2 e3; omega
  by_cases hcn : cap = n
  · obtain rfl : n = cap := hcn.symm
    go_enter Try.func45, Try.ntmps45
    go_wp2_with (at_builtin; refine wpList_append_v _ rfl _ _ rfl B _ _ _ rfl HO.out _ [x] rfl HX.out ?c3 hB ?_)
    case c3 => first | omega | (simp; omega)
    intro v' w1 hown' hgrow hb
    obtain ⟨A2, c2, rfl⟩ := owns_slice0 hown'
    have hk := (Keep.refl (fun b => (Value.slice A n n).ownBlock = some b) w).grown hgrow (fun b _ e => e)
    have HH := Lib.hid (And.intro hown' (And.intro hk hb))
    clear hown' hgrow hb hk
    go_wp2
    go_ret
    exact InsOut.mk' (s' := .slice A2 (n + 1) c2) (m := l ++ [x]) rfl (by rw [vcs_append]; exact HH.out.1) rfl (by simp [HN.out]) HH.out.2.1 (fun b hb => HH.out.2.2.elim (fun e => .inl (e ▸ hb)) (fun e => .inr (by rw [e] at hb; injection hb with hb; omega)))
  · go_enter Try.func45, Try.ntmps45
    go_wp2_with (at_builtin; refine wpList_append_v _ rfl _ _ rfl B _ _ _ rfl HO.out _ [x] rfl HX.out ?c3 hB ?_)
    case c3 => first | omega | (simp; omega)
    intro v' w1 hown' hgrow hb
    obtain ⟨A2, c2, rfl⟩ := owns_slice0 hown'
    have hk := (Keep.refl (fun b => (Value.slice A n cap).ownBlock = some b) w).grown hgrow (fun b _ e => e)
    have HH := Lib.hid (And.intro hown' (And.intro hk hb))
    clear hown' hgrow hb hk
    go_wp2
    go_ret
    exact InsOut.mk' (s' := .slice A2 (n + 1) c2) (m := l ++ [x]) rfl (by rw [vcs_append]; exact HH.out.1) rfl (by simp [HN.out]) HH.out.2.1 (fun b hb => HH.out.2.2.elim (fun e => .inl (e ▸ hb)) (fun e => .inr (by rw [e] at hb; injection hb with hb; omega)))

theorem vcs_cons (x : Vt) (l : List Vt) : vcs (x :: l) = [.int .i64 x.p, .int .u64 x.g] ++ vcs l := rfl
theorem vcs_take (l : List Vt) (i : Nat) : vcs (l.take i) = (vcs l).take (i * 2) := by
  induction l generalizing i with
  | nil => simp [vcs]
  | cons x L ih =>
    cases i with
    | zero => simp [vcs]
    | succ i =>
      rw [List.take_succ_cons, vcs_cons, vcs_cons, ih, show (i + 1) * 2 = i * 2 + 1 + 1 by omega]
      rfl
theorem vcs_drop (l : List Vt) (i : Nat) : vcs (l.drop i) = (vcs l).drop (i * 2) := by
  induction l generalizing i with
  | nil => simp [vcs]
  | cons x L ih =>
    cases i with
    | zero => simp
    | succ i =>
      rw [List.drop_succ_cons, vcs_cons, ih, show (i + 1) * 2 = i * 2 + 1 + 1 by omega]
      rfl
theorem vcs_laid (l : List Vt) (i : Nat) (x : Vt) : vcs (l.take i ++ x :: l.drop i) = (vcs l).take (i * 2) ++ ([.int .i64 x.p, .int .u64 x.g] ++ (vcs l).drop (i * 2)) := by
  rw [vcs_append, vcs_cons, vcs_take, vcs_drop]
/-- A row in which all behind a place has gone on by one. -/
theorem shift_row {cur : Array Value} {l : List Vt} {x : Vt} {n cap i : Nat} (hsz : cur.size = cap * 2) (htk : cur.toList.take (n * 2) = vcs l) (hn : l.length = n) (hi : i ≤ n) (hroom : n + 1 ≤ cap) :
    (updC (updC cur ((i + 1) * 2) ((vcs l).drop (i * 2))) (i * 2) [.int .i64 x.p, .int .u64 x.g]).toList.take ((n + 1) * 2) = vcs (l.take i ++ x :: l.drop i) := by
  have hL : (vcs l).length = n * 2 := by rw [vcs_len, hn]
  rw [vcs_laid]
  apply List.ext_getElem?
  intro j
  by_cases hj : j < (n + 1) * 2
  · rw [List.getElem?_take_of_lt hj, Array.getElem?_toList, updC_get _ _ _ (by rw [updC_size, hsz]; simp; omega)]
    by_cases h1 : i * 2 ≤ j ∧ j < i * 2 + 2
    · rw [if_pos (by simpa using h1), List.getElem?_append_right (by simp; omega), List.getElem?_append_left (by simp; omega)]
      rw [List.length_take, hL, show min (i * 2) (n * 2) = i * 2 by omega]
    · rw [if_neg (by simpa using h1), updC_get _ _ _ (by rw [hsz, List.length_drop, hL]; omega)]
      by_cases h2 : j < i * 2
      · rw [if_neg (by omega), List.getElem?_append_left (by rw [List.length_take, hL]; omega), List.getElem?_take_of_lt h2, ← htk, List.getElem?_take_of_lt (by omega), Array.getElem?_toList]
      · rw [if_pos (by rw [List.length_drop, hL]; omega), List.getElem?_append_right (by rw [List.length_take, hL]; omega), List.getElem?_append_right (by simp; omega)]
        congr 1
        simp [List.length_take, hL]
        omega
  · rw [List.getElem?_take_eq_none (by omega), List.getElem?_eq_none (by simp [hL]; omega)]
theorem sizeVr : ∀ w : World, (Go.sizeOf 29).run Try.prog w = .ok 2 w := fun w => by kernel_rfl
theorem isSome_cells (b : Nat) (vs : List Value) (o : Nat) (w : World) (h : ∀ j, j < vs.length → (w.cell? ⟨b, o + j, none⟩).isSome = true) (k : Nat) (hk : (w.cell? ⟨b, k, none⟩).isSome = true) : ((w.setCells b o vs).cell? ⟨b, k, none⟩).isSome = true := by
  by_cases hin : o ≤ k ∧ k < o + vs.length
  · have := World.cell?_setCells_in b vs o w h (k - o) (by omega)
    rw [show o + (k - o) = k by omega] at this
    rw [this]; rfl
  · rw [World.cell?_setCells_out b vs o w ⟨b, k, none⟩ (fun _ _ => by show k < o ∨ o + vs.length ≤ k; omega)]
    exact hk

set_option maxRecDepth 100000 in
set_option maxHeartbeats 4000000 in
theorem Insert_shift {w : World} {B g vb n cap i : Nat} {cur : Array Value} {l : List Vt} {x : Vt} (hB : B ≤ g) (hh : w.heap[g]? = some (.cells cur 29 (0, 0))) (hm : cap ≤ maxLen) (hsz : cur.size = cap * 2) (htk : cur.toList.take (n * 2) = vcs l) (hn : l.length = n)
    (hv : w.heap[vb]? = some (.cells #[.int .i64 x.p, .int .u64 x.g] 29 (0, 0))) (hne : vb ≠ g) (hi : i < n) (hroom : n + 1 ≤ cap) (hl : n ≤ 1000000) :
    Calls Try.prog 45 #[.slice (some ⟨g, 0, none⟩) n cap, .int .i64 i, .slice (some ⟨vb, 0, none⟩) 1 1] w (InsOut B (.slice (some ⟨g, 0, none⟩) n cap) (l.take i ++ x :: l.drop i) w) := by
  have hz2 : ¬ ((i : Int) = (n : Int)) := by omega
  have hov : ∀ lb cb, (callFunc 76 #[.slice (some ⟨vb, 0, none⟩) 1 1, .slice (some ⟨g, (i + 1) * 2, none⟩) lb cb]).run Try.prog w = .ok (.value (.bool false)) w := fun lb cb => by
    rw [run_callFunc_extern Try.func76 (by kernel_rfl) (by kernel_rfl) (by kernel_rfl) (e := Extern.SlicesOverlaps.overlaps #[24, 24] #[4]) (by kernel_rfl),
      Lib.run_overlaps_apart w 24 4 29 Try.underlying24 2 sizeVr ⟨vb, 0, none⟩ ⟨g, (i + 1) * 2, none⟩ 1 1 lb cb hne _ _ _ _ (kb_shape hv) (kb_shape hh) (by omega) (kb_frozen hv 0) (kb_frozen hv _)]
    rfl
  have hw1 : IntKind.i64.wrap ((i : Int) + 1) = (i : Int) + 1 := by rw [IntKind.wrap_i64]; omega
  have hb1 : (0 : Int) ≤ (i : Int) + 1 := by omega
  have htn : ((i : Int) + 1).toNat = i + 1 := by omega
  have hb2 : ¬ (cap = i + 1) := by omega
  have hb3 : (i : Int) ≤ (n : Int) + 1 := by omega
  have hb4 : ¬ (cap = i) := by omega
  have hb5 : ((i : Int) + 1) ≤ (n : Int) + 1 := by omega
  have hL : (vcs l).length = n * 2 := by rw [vcs_len, hn]
  have hmin : Nat.min (n + 1 - i) (n - i) = n - i := by simp only [Nat.min_def]; split <;> omega
  have hcl : ∀ k, k < cap * 2 → (w.cell? ⟨g, k, none⟩).isSome = true := fun k hk => by rw [kb_cell hh, Array.getElem?_eq_getElem (by omega)]; rfl
  have hcp1 : ∀ ty, (Builtin.copy_ #[24, 24] ty #[.slice (some ⟨g, (i + 1) * 2, none⟩) (n - i) (cap - (i + 1)), .slice (some ⟨g, i * 2, none⟩) (n + 1 - i) (cap - i)]).run Try.prog w.drew = .ok (goInt (Nat.min (n + 1 - i) (n - i))) (w.drew.setCells g ((i + 1) * 2) ((vcs l).drop (i * 2))) := fun ty =>
    run_copy_v w.drew ty g ((i + 1) * 2) (n - i) (cap - (i + 1)) ⟨g, i * 2, none⟩ (n + 1 - i) (cap - i) ((vcs l).drop (i * 2)) (by rw [hmin, List.length_drop, hL]; omega)
      (fun j v hj => by
        rw [addr_add]
        rw [List.getElem?_drop] at hj
        show w.cell? _ = _
        rw [kb_cell hh, ← Array.getElem?_toList]
        rw [← htk, List.getElem?_take] at hj
        split at hj
        · exact hj
        · cases hj)
      (fun j hj => hcl _ (by rw [List.length_drop, hL] at hj; omega)) (fun j hj => kb_frozen (kb_drew hh) _) (fun v hv => vcs_one l v (List.mem_of_mem_drop hv))
  obtain ⟨W1, hW1⟩ : ∃ W1, W1 = w.drew.setCells g ((i + 1) * 2) ((vcs l).drop (i * 2)) := ⟨_, rfl⟩
  have K1 : Keep (fun b => b = g) w W1 := by rw [hW1]; exact keep_cells _ _ (Keep.refl _ w).drew (fun _ => rfl)
  have G1 : W1.heap[g]? = some (.cells (updC cur ((i + 1) * 2) ((vcs l).drop (i * 2))) 29 (0, 0)) := by rw [hW1]; exact setCells_at _ _ _ _ (kb_drew hh)
  have V1 := K1.kb hv hne
  rw [← hW1] at hcp1
  have hcp2 : ∀ ty, (Builtin.copy_ #[24, 24] ty #[.slice (some ⟨g, i * 2, none⟩) (n + 1 - i) (cap - i), .slice (some ⟨vb, 0, none⟩) 1 1]).run Try.prog W1 = .ok (goInt (Nat.min 1 (n + 1 - i))) (W1.setCells g (i * 2) [.int .i64 x.p, .int .u64 x.g]) := fun ty =>
    run_copy_v W1 ty g (i * 2) (n + 1 - i) (cap - i) ⟨vb, 0, none⟩ 1 1 [.int .i64 x.p, .int .u64 x.g] (by rw [show Nat.min 1 (n + 1 - i) = 1 by simp only [Nat.min_def]; split <;> omega]; rfl)
      (fun j v hj => by
        rw [addr_add, Nat.zero_add, kb_cell V1]
        simpa using hj)
      (fun j hj => by
        have hj : j < 2 := hj
        rw [kb_cell G1, Array.getElem?_eq_getElem (by rw [updC_size]; omega)]; rfl) (fun j hj => kb_frozen G1 _) (fun v hv => by
        rcases List.mem_cons.1 hv with rfl | hv
        · rfl
        · rw [List.mem_singleton.1 hv]; rfl)
  have G2 := setCells_at [.int .i64 x.p, .int .u64 x.g] W1 _ (i * 2) G1
  have K2 := keep_cells [.int .i64 x.p, .int .u64 x.g] (i * 2) K1 (g := g) (fun _ => rfl)
  have HG := Lib.hid (And.intro G2 K2)
  have HSR := Lib.hid (shift_row (x := x) (i := i) hsz htk hn (by omega) hroom)
  clear G1 V1 hmin G2 K2 K1 hcl hL
  have HH := Lib.hid (And.intro hh hv)
  have HN := Lib.hid hn
  have HS := Lib.hid hsz
  have HT := Lib.hid htk
  clear hh hv hn hsz htk hW1
  go_enter Try.func45, Try.ntmps45
  go_wp2_with (simp only [hov])
  go_region_law (refine step_copy_v rfl _ _ rfl _ _ (by simp [Act.eval, Act.put]) (by simp [Act.eval, Act.put]) hcp1 ?_)
  go_wp2_with (at_builtin; refine wpList_copy_v _ rfl _ _ rfl _ _ rfl rfl hcp2 ?_)
  go_ret
  refine InsOut.mk' (s' := .slice (some ⟨g, 0, none⟩) (n + 1) cap) (m := l.take i ++ x :: l.drop i) rfl ⟨?_, .inr ⟨g, cap, _, rfl, hB, HG.out.1, by omega, hm, by rw [updC_size, updC_size, HS.out], HSR.out⟩⟩ rfl (by simp [HN.out]; omega) (HG.out.2.mono (fun b _ e => by subst e; rfl)) (fun b hb => .inl hb)
  rw [vcs_len]; simp [HN.out]; omega
end Go.Proofs.Ytooghjnddifpdaa
