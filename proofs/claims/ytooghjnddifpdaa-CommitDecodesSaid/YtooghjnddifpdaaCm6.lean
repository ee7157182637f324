/- Whole commits loaded, stored, answered; long, SameCommit. -/
import Derived.Test.YtooghjnddifpdaaCm5
namespace Go.Proofs.Ytooghjnddifpdaa
open Go.RowKit Go.Proofs.Ytooghjnddifpdaa.Cm BigFrame
set_option linter.unusedSimpArgs false
set_option linter.unusedVariables false

/-- A commit is loaded, under a guard too. -/
theorem wpList_load_cw {ops : Array Oper} {rest : List Oper} {op : Oper} {a : Act} {w : World} {Q : Exit → Act → World → Prop} (x : Operand) (ho : op.op = .load 26 x) (hw : Region.wanted op (yielded ops a.tmps) = true) (b : Nat) (hx : a.eval x = .pointer (some ⟨b, 0, none⟩)) {c : C} {v : Value} {fr : Nat × Nat}
    (h : w.heap[b]? = some (.cells (ccs c v).toArray 26 fr)) (hl : c.x.length = 32) (hk : wpList Try.prog ops Q rest (a.put op.dst (.agg (ccs c v).toArray)) w) : wpList Try.prog ops Q (op :: rest) a w :=
  BigFrame.wpList_want hw fun _ hK => wp_load_mid 26 x ho b 0 hx (ccs c v) _ (range_of_kb h) Try.underlying26 rfl (sizeC.trans (ccs_lenA hl).symm) (hK _ _ hk)
theorem sizeH : (Try.prog.info? 23).map (·.size) = some 32 := by kernel_rfl
theorem ccs_range {w : World} {b : Nat} {c : C} {v : Value} {fr : Nat × Nat} (h : w.heap[b]? = some (.cells (ccs c v).toArray 26 fr)) (hl : c.x.length = 32) : w.rangeAt b 1 (u8s c.x) := fun j u hu => by
  rw [kb_cell h]
  have := ccs_h hl v j u hu
  simpa using this
/-- A commit's hash is loaded. -/
theorem wpList_load_hw {ops : Array Oper} {rest : List Oper} {op : Oper} {a : Act} {w : World} {Q : Exit → Act → World → Prop} (x : Operand) (ho : op.op = .load 23 x) (hw : Region.wanted op (yielded ops a.tmps) = true) (b : Nat) (hx : a.eval x = .pointer (some ⟨b, 1, none⟩)) {c : C} {v : Value} {fr : Nat × Nat}
    (h : w.heap[b]? = some (.cells (ccs c v).toArray 26 fr)) (hl : c.x.length = 32) (hk : wpList Try.prog ops Q rest (a.put op.dst (.agg (u8s c.x).toArray)) w) : wpList Try.prog ops Q (op :: rest) a w :=
  BigFrame.wpList_want hw fun _ hK => wp_load_mid 23 x ho b 1 hx (u8s c.x) _ (ccs_range h hl) Try.underlying23 rfl (sizeH.trans (by rw [u8s_len, hl])) (hK _ _ hk)
/-- A commit is stored over a commit. -/
theorem wpList_store_c {ops : Array Oper} {rest : List Oper} {op : Oper} {a : Act} {w : World} {Q : Exit → Act → World → Prop} (hgd : op.guard = none) (x y : Operand) (ho : op.op = .store 26 x y) (b : Nat) (hx : a.eval x = .pointer (some ⟨b, 0, none⟩)) {c : C} {v : Value} (hy : a.eval y = .agg (ccs c v).toArray)
    {cur : Array Value} (h : w.heap[b]? = some (.cells cur 26 (0, 0))) (hs : cur.size = 34) (hl : c.x.length = 32) (hv : v.oneCell' = true)
    (hk : ∀ w', w'.heap[b]? = some (.cells (ccs c v).toArray 26 (0, 0)) → Keep (fun x => x = b) w w' → wpList Try.prog ops Q rest (a.put op.dst undef) w') : wpList Try.prog ops Q (op :: rest) a w := by
  have hL : (ccs c v).toArray.size = 34 := by simpa using ccs_len hl v
  refine wpList_store_mid hgd 26 x y ho b 0 (ccs c v).toArray hx hy (by rw [hL]; exact there_kb h hs) (sizeC.trans (by rw [hL])) (ccs_one hv) (hk _ ?_ (keep_cells _ 0 (Keep.refl _ _) (fun _ => rfl)))
  have := setCells_kb (ccs c v) h (by rw [hs, ccs_len hl])
  exact this
theorem ccs_set {c : C} (hx : c.x.length = 32) (u v : Value) : (ccs c u).toArray.setIfInBounds 33 v = (ccs c v).toArray := by
  have h : (ccs c u).set 33 v = ccs c v := by
    unfold ccs
    rw [List.set_cons_succ, List.set_append_right _ _ (by rw [u8s_len, hx]; omega), u8s_len, hx]
    rfl
  simpa using congrArg List.toArray h
/-- Two results, of which the first one is a commit. -/
theorem results_c {fn : Func} {p q : Tmp} (h : fn.results = #[.cell p 26, .tmp q]) (tmps : Array Value) (w : World) (g : Nat) {c : C} {v u : Value} (hl : c.x.length = 32) {fr : Nat × Nat}
    (hp : tmps.getD p undef = .pointer (some ⟨g, 0, none⟩)) (hg : w.heap[g]? = some (.cells (ccs c v).toArray 26 fr)) (hu : tmps.getD q undef = u) :
    (results fn tmps).run Try.prog w = .ok (.tuple #[.agg (ccs c v).toArray, u]) w := by
  have hp' : tmps[p]?.getD undef = .pointer (some ⟨g, 0, none⟩) := by simpa using hp
  have hu' : tmps[q]?.getD undef = u := by simpa using hu
  have hi : (Try.prog.info? 26).map (·.size) = some (ccs c v).toArray.size := sizeC.trans (by simpa using (ccs_len hl v).symm)
  simp [results, h, hp', hu', asAddr, run_loadVar_row w g _ 26 _ fr _ hg Try.underlying26 rfl hi]
theorem results_c1 {fn : Func} {p : Tmp} (h : fn.results = #[.cell p 26]) (tmps : Array Value) (w : World) (g : Nat) {c : C} {v : Value} (hl : c.x.length = 32) {fr : Nat × Nat}
    (hp : tmps.getD p undef = .pointer (some ⟨g, 0, none⟩)) (hg : w.heap[g]? = some (.cells (ccs c v).toArray 26 fr)) :
    (results fn tmps).run Try.prog w = .ok (.agg (ccs c v).toArray) w :=
  results_cell_row h tmps w g 26 _ fr _ hp hg Try.underlying26 rfl (sizeC.trans (by simpa using (ccs_len hl v).symm))
/-- No commit. -/
def cZ : C := ⟨0, List.replicate 32 0, []⟩
abbrev vZ : Value := .slice none 0 0
theorem cZ_x : cZ.x.length = 32 := rfl
theorem zeroC : #[.int .i64 0, .int .u8 0, .int .u8 0, .int .u8 0, .int .u8 0, .int .u8 0, .int .u8 0, .int .u8 0, .int .u8 0, .int .u8 0, .int .u8 0, .int .u8 0, .int .u8 0, .int .u8 0, .int .u8 0, .int .u8 0, .int .u8 0, .int .u8 0, .int .u8 0, .int .u8 0, .int .u8 0, .int .u8 0, .int .u8 0, .int .u8 0, .int .u8 0, .int .u8 0, .int .u8 0, .int .u8 0, .int .u8 0, .int .u8 0, .int .u8 0, .int .u8 0, .int .u8 0, .slice none 0 0] = (ccs cZ vZ).toArray := rfl
theorem VRow.nil (w : World) : VRow w vZ [] := ⟨none, 0, rfl, fun h => by simp at h⟩

theorem long_any' {w : World} {c : C} {v : Value} (hx : c.x.length = 32) (hv : VRow w v c.vs) :
    Calls Try.prog 9 #[.agg (ccs c v).toArray] w fun e w' => e = .returned (.bool (decide (70 < c.vs.length))) ∧ Below w.heap.size w w' := by
  have q33 := ccs_33 hx v
  have D0 : (w.alloc (.cells (ccs c v).toArray 26)).heap[w.heap.size]? = some _ := kb_new rfl _
  have c33 := (kb_cell D0 33).trans (by simpa using q33)
  obtain ⟨A, cap, hvv⟩ := hv.form
  subst hvv
  obtain ⟨r, hr⟩ : ∃ r, decide (70 < c.vs.length) = r := ⟨_, rfl⟩
  have HR := Lib.hid hr
  obtain ⟨n, hn⟩ : ∃ n, c.vs.length = n := ⟨_, rfl⟩
  have hd : decide ((70 : Int) < (n : Int)) = r := by rw [← hr, hn]; rw [Bool.eq_iff_iff]; simp; omega
  rw [hr]
  rw [hn] at D0 c33 q33 ⊢
  clear hn hv hx hr
  go_enter Try.func9, Try.ntmps9
  go_wp2_with fail
  go_ret
  exact ⟨ret_bool (by simp [hd]), bl_alloc (Below.refl _ _) _⟩

def sameC (c d : C) : Bool := decide (c.h = d.h) && ((c.x == d.x) && decide (c.vs = d.vs))
theorem sameC_refl (c : C) : sameC c c = true := by simp [sameC]
theorem sameC_eq {c d : C} (h : sameC c d = true) : c = d := by
  cases c; cases d
  simp [sameC] at h
  simp [h]

set_option maxRecDepth 100000 in
set_option maxHeartbeats 2000000 in
theorem SameCommit_any {w : World} {c d : C} {u v : Value} (hc : c.x.length = 32) (hd : d.x.length = 32) (hu : VRow w u c.vs) (hv : VRow w v d.vs) (hl : c.vs.length ≤ 1000000) (hm : d.vs.length ≤ 1000000) :
    Calls Try.prog 16 #[.agg (ccs c u).toArray, .agg (ccs d v).toArray] w fun e w' => e = .returned (.bool (sameC c d)) ∧ Below w.heap.size w w' := by
  have q0 := ccs_0 c u
  have q33 := ccs_33 hc u
  have r0 := ccs_0 d v
  have r33 := ccs_33 hd v
  have D0 := kb_alloc (kb_new (w := w) rfl (.cells (ccs c u).toArray 26)) (.cells (ccs d v).toArray 26)
  have D1 : ((w.alloc (.cells (ccs c u).toArray 26)).alloc (.cells (ccs d v).toArray 26)).heap[w.heap.size + 1]? = some _ := kb_new (by simp) _
  have b1 : Below w.heap.size w ((w.alloc (.cells (ccs c u).toArray 26)).alloc (.cells (ccs d v).toArray 26)) := bl_alloc (bl_alloc (Below.refl _ _) _) _
  have c0 := (kb_cell D0 0).trans (by simpa using q0)
  have c33 := (kb_cell D0 33).trans (by simpa using q33)
  have e0 := (kb_cell D1 0).trans (by simpa using r0)
  have e33 := (kb_cell D1 33).trans (by simpa using r33)
  have hq := eql_hash c.x d.x hc hd
  have HH := Lib.hid (And.intro hc hd)
  have HB := Lib.hid b1
  have HU := Lib.hid (hu.below b1)
  have HV := Lib.hid (hv.below b1)
  have HD := Lib.hid (And.intro D0 D1)
  clear hu hv b1 hc hd D0 D1
  by_cases h1 : c.h = d.h
  · have hd1 : (c.h == d.h) = true := by simpa using h1
    by_cases h2 : c.x = d.x
    · have hd2 : (c.x == d.x) = true := by simpa using h2
      have e : sameC c d = decide (c.vs = d.vs) := by simp [sameC, h1, h2]
      rw [e]
      rw [hd2] at hq
      obtain ⟨s, hs⟩ : ∃ s, decide (c.vs = d.vs) = s := ⟨_, rfl⟩
      rw [hs]
      have HS := Lib.hid hs
      clear h1 h2 hd2 e hs
      go_enter Try.func16, Try.ntmps16
      go_wp2_with (first
        | (with_reducible refine wpList_load_hw _ rfl (by kernel_rfl) _ rfl HD.out.1 HH.out.1 ?_)
        | (with_reducible refine wpList_load_hw _ rfl (by kernel_rfl) _ rfl HD.out.2 HH.out.2 ?_))
      refine (SameVotes_any HU.out HV.out hl hm).mono ?_
      rintro e w2 ⟨rfl, b2⟩
      have HB2 := Lib.hid (bl_then HB.out b2)
      clear b2
      rw [HS.out]
      go_wp2_with fail
      go_ret
      exact ⟨by first | rfl | exact ret_bool (by simp), HB2.out⟩
    · have hd2 : (c.x == d.x) = false := by simpa using h2
      have e : sameC c d = false := by simp [sameC, h2]
      rw [e]
      rw [hd2] at hq
      clear h1 h2 hd2 e
      go_enter Try.func16, Try.ntmps16
      go_wp2_with (first
        | (with_reducible refine wpList_load_hw _ rfl (by kernel_rfl) _ rfl HD.out.1 HH.out.1 ?_)
        | (with_reducible refine wpList_load_hw _ rfl (by kernel_rfl) _ rfl HD.out.2 HH.out.2 ?_))
      go_ret
      exact ⟨by first | rfl | exact ret_bool (by simp), HB.out⟩
  · have hd1 : (c.h == d.h) = false := by simpa using h1
    have e : sameC c d = false := by simp [sameC, h1]
    rw [e]
    clear h1 e
    go_enter Try.func16, Try.ntmps16
    go_wp2_with fail
    go_ret
    exact ⟨by first | rfl | exact ret_bool (by simp), HB.out⟩
end Go.Proofs.Ytooghjnddifpdaa
