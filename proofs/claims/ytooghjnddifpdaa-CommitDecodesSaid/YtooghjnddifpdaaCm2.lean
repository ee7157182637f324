/- commit.Check and the document's. -/
import Derived.Test.YtooghjnddifpdaaCm1
import Derived.Test.YtooghjnddifpdaaMid
import Derived.IntWalk
namespace Go.Proofs.Ytooghjnddifpdaa
open Go.RowKit Go.Proofs.Ytooghjnddifpdaa.Cm BigFrame
set_option linter.unusedSimpArgs false
set_option linter.unusedVariables false

theorem sizeC : (Try.prog.info? 26).map (·.size) = some 34 := by kernel_rfl
theorem ccs_lenA {c : C} {v : Value} (hx : c.x.length = 32) : some (ccs c v).length = some 34 := by rw [ccs_len hx]
/-- A commit is loaded. -/
theorem wpList_load_c {ops : Array Oper} {rest : List Oper} {op : Oper} {a : Act} {w : World} {Q : Exit → Act → World → Prop} (hgd : op.guard = none) (x : Operand) (ho : op.op = .load 26 x) (b : Nat) (hx : a.eval x = .pointer (some ⟨b, 0, none⟩)) {c : C} {v : Value} {fr : Nat × Nat}
    (h : w.heap[b]? = some (.cells (ccs c v).toArray 26 fr)) (hl : c.x.length = 32) (hk : wpList Try.prog ops Q rest (a.put op.dst (.agg (ccs c v).toArray)) w) : wpList Try.prog ops Q (op :: rest) a w :=
  wpList_load_mid hgd 26 x ho b 0 hx (ccs c v) _ (range_of_kb h) Try.underlying26 rfl (sizeC.trans (ccs_lenA hl).symm) hk
theorem ccs_one {c : C} {v : Value} (hv : v.oneCell' = true) : (ccs c v).toArray.all (·.oneCell') = true := all_oneCell_toArray (fun u hu => by
  unfold ccs at hu
  rcases List.mem_cons.1 hu with rfl | hu
  · rfl
  · rcases List.mem_append.1 hu with hu | hu
    · exact u8s_one _ _ hu
    · simp at hu; subst hu; exact hv)
theorem VRow.one {w : World} {v : Value} {l : List Vt} (h : VRow w v l) : v.oneCell' = true := by obtain ⟨A, cap, rfl, _⟩ := h; rfl
/-- A vote's cells at a place, in Int's form. -/
theorem VRow.at {w : World} {v : Value} {l : List Vt} (h : VRow w v l) {i : Nat} (hi : i < l.length) : ∃ b off cap, v = .slice (some ⟨b, off, none⟩) l.length cap ∧ b < w.heap.size ∧ w.cell? ⟨b, off + i * 2, none⟩ = some (.int .i64 (vAt l i).p) ∧ w.cell? ⟨b, off + i * 2 + 1, none⟩ = some (.int .u64 (vAt l i).g) := by
  obtain ⟨A, cap, rfl, h⟩ := h
  obtain ⟨b, off, rfl, hb, hc⟩ := h (by omega)
  exact ⟨b, off, cap, rfl, hb, hc i _ (vAt_some hi)⟩
theorem drop_at {l : List Vt} {i : Nat} (hi : i < l.length) : l.drop i = vAt l i :: l.drop (i + 1) := by
  rw [List.drop_eq_getElem_cons hi]
  have := vAt_some hi
  rw [List.getElem?_eq_getElem hi] at this
  injection this with this
  rw [this]

/-- What is wrong behind so many votes. -/
def ChkAt (l : List Vt) (last : Int) (i : Nat) : Prop := chkV (-1) l = chkV last (l.drop i)
theorem ChkAt.zero (l : List Vt) : ChkAt l (-1) 0 := by unfold ChkAt; simp
theorem ChkAt.end {l : List Vt} {last : Int} (h : ChkAt l last l.length) : chkV (-1) l = 0 := by unfold ChkAt at h; rw [h]; simp [chkV]
theorem ChkAt.bad {l : List Vt} {last e : Int} {i : Nat} (h : ChkAt l last i) (hi : i < l.length) (he : (riseS last (vAt l i)).1 = e) (h0 : e ≠ 0) : ((chkV (-1) l : Nat) : Int) = e := by
  unfold ChkAt at h
  rw [h, drop_at hi, chkV_cons, if_neg (by rw [he]; exact h0), he]
theorem ChkAt.next {l : List Vt} {last : Int} {i : Nat} (h : ChkAt l last i) (hi : i < l.length) (he : (riseS last (vAt l i)).1 = 0) : ChkAt l (riseS last (vAt l i)).2 (i + 1) := by
  unfold ChkAt at h ⊢
  have := chkV_cons last (vAt l i) (l.drop (i + 1))
  rw [if_pos he, ← drop_at hi] at this
  omega
theorem chk_1 {c : C} (h : c.h < 1 ∨ 1073741824 < c.h) : chk c = 3 := by unfold chk; rw [if_pos h]
theorem chk_2 {c : C} (h : ¬ (c.h < 1 ∨ 1073741824 < c.h)) (h2 : 64 < c.vs.length) : chk c = 4 := by unfold chk; rw [if_neg h, if_pos h2]
theorem chk_3 {c : C} (h : ¬ (c.h < 1 ∨ 1073741824 < c.h)) (h2 : ¬ 64 < c.vs.length) : chk c = chkV (-1) c.vs := by unfold chk; rw [if_neg h, if_neg h2]
theorem eRise : ∀ (args : Array Value) (W : World), (callFunc 74 args).run Try.prog W = .ok (.enter 74 args) W := fun _ _ => by kernel_rfl

/-- What is answered. -/
def ChkOut (c : C) (w : World) (e : Ending) (w' : World) : Prop := e = .returned (.int .i64 (chk c : Int)) ∧ Below w.heap.size w w'
theorem ChkOut.mk' {c : C} {w w' : World} {e : Ending} {n : Int} (he : e = .returned (.int .i64 n)) (hn : ((chk c : Nat) : Int) = n) (hb : Below w.heap.size w w') : ChkOut c w e w' := ⟨by rw [he, hn], hb⟩

set_option maxRecDepth 100000 in
set_option maxHeartbeats 2000000 in
theorem Check_any' {w : World} {c : C} {v : Value} (hx : c.x.length = 32) (hv : VRow w v c.vs) (hl : c.vs.length ≤ 1000000) :
    Calls Try.prog 22 #[.agg (ccs c v).toArray] w (ChkOut c w) := by
  have q0 := ccs_0 c v
  have q33 := ccs_33 hx v
  have D0 : (w.alloc (.cells (ccs c v).toArray 26)).heap[w.heap.size]? = some _ := kb_new rfl _
  have b0 : Below w.heap.size w (w.alloc (.cells (ccs c v).toArray 26)) := bl_alloc (Below.refl _ _) _
  have hV0 := hv.below b0
  have c0 := (kb_cell D0 0).trans (by simpa using q0)
  have c33 := (kb_cell D0 33).trans (by simpa using q33)
  have HV := Lib.hid hV0
  have HB := Lib.hid b0
  have HX := Lib.hid hx
  have HV0 := Lib.hid hv
  obtain ⟨A, cap, hvv⟩ := hv.form
  subst hvv
  clear hv hV0 b0 hx
  obtain ⟨n, hn⟩ : ∃ n, c.vs.length = n := ⟨_, rfl⟩
  have HN := Lib.hid hn
  rw [hn] at hl D0 c0 c33 HV HV0 HB q0 q33 ⊢
  clear hn
  by_cases h1 : c.h < 1
  · have e := chk_1 (c := c) (.inl h1)
    have HE := Lib.hid e
    clear e
    go_enter Try.func22, Try.ntmps22
    go_wp2_with fail
    go_ret
    exact ChkOut.mk' rfl (by rw [HE.out]; rfl) HB.out
  by_cases h2 : 1073741824 < c.h
  · have e := chk_1 (c := c) (.inr h2)
    have HE := Lib.hid e
    clear e
    go_enter Try.func22, Try.ntmps22
    go_wp2_with fail
    go_ret
    exact ChkOut.mk' rfl (by rw [HE.out]; rfl) HB.out
  by_cases h3 : 64 < n
  · have e := chk_2 (c := c) (by omega) (by rw [HN.out]; exact h3)
    have HE := Lib.hid e
    clear e
    go_enter Try.func22, Try.ntmps22
    go_wp2_with fail
    go_ret
    exact ChkOut.mk' rfl (by rw [HE.out]; rfl) HB.out
  have e := chk_3 (c := c) (by omega) (by rw [HN.out]; exact h3)
  have HE := Lib.hid e
  clear e
  go_enter Try.func22, Try.ntmps22
  go_wp2_with fail
  refine (rises_any _).mono ?_
  rintro e w1 ⟨rfl, rfl⟩
  go_wp2_with fail
  obtain ⟨wb, hwb⟩ : ∃ wb : World, wb = (w.alloc (.cells (ccs c (.slice A n cap)).toArray 26)).alloc (.cells #[.int .i64 (-1)] 3) := ⟨_, rfl⟩
  have hsz : wb.heap.size = w.heap.size + 2 := by rw [hwb]; simp
  have HW := Lib.hid (show Below w.heap.size w wb by rw [hwb]; exact bl_alloc HB.out _)
  have HK := Lib.hid (show wb.heap[w.heap.size + 1]? = some (.cells #[.int .i64 (-1)] 3 (0, 0)) by rw [hwb]; exact kb_new (by simp) _)
  have HZ := Lib.hid hsz
  rw [← hwb]
  clear hwb D0 c0 c33 HV HB q0 q33 hsz
  go_loopw [5, 6, 25, 26, 27, 28, 29, 30, 31, 32, 33, 34, 35] (fun _ _ s25 _ _ _ _ _ _ _ _ _ _ wr => ∃ (k : Nat) (last : Int), k ≤ n ∧ s25 = .int .i64 k ∧ ChkAt c.vs last k ∧ wr.heap[w.heap.size + 1]? = some (.cells #[.int .i64 last] 3 (0, 0)) ∧ Below w.heap.size w wr ∧ w.heap.size + 2 ≤ wr.heap.size) (fun _ _ s25 _ _ _ _ _ _ _ _ _ _ _ => n - (intOf s25).toNat)
  case atStart => exact ⟨0, -1, by omega, rfl, ChkAt.zero _, HK.out, HW.out, by rw [HZ.out]; omega⟩
  case round =>
    obtain ⟨k, last, hk, rfl, hC, hB, hbel, hZ⟩ := hrel
    by_cases hlt : k < n
    · have hkl : k < c.vs.length := by rw [HN.out]; exact hlt
      obtain ⟨b, off, cap', hA, hbl, d0', d1'⟩ := HV0.out.at hkl
      have d0 := (hbel.cell (p := ⟨b, off + k * 2, none⟩) hbl).trans d0'
      have d1 := (hbel.cell (p := ⟨b, off + k * 2 + 1, none⟩) hbl).trans d1'
      obtain ⟨rfl, rfl⟩ : A = some ⟨b, off, none⟩ ∧ cap = cap' := by injection hA with h1 h2 h3; exact ⟨h1, h3⟩
      have HC := Lib.hid hC
      have HKL := Lib.hid hkl
      have HBl := Lib.hid hB
      have HBe := Lib.hid hbel
      clear hA hC hkl hB hbel d0' d1'
      go_wp2_with fail
      refine (rise_any (last := last) (vAt c.vs k) (kb_alloc HBl.out _)).mono ?_
      rintro e w2 ⟨rfl, h2, k2⟩
      have hR0 := fun e0 => HC.out.bad HKL.out (e := (riseS last (vAt c.vs k)).1) rfl e0
      have hR1 := fun e0 => HC.out.next HKL.out (last := last) e0
      have b2 : Below w.heap.size w w2 := (Keep.trans (S := fun b => b = w.heap.size + 1) (Keep.of_below (bl_alloc HBe.out _)) k2 (fun _ _ h => h)).below (Nat.le_refl _) (fun b h => by omega)
      obtain ⟨a, l, hr⟩ : ∃ a l, riseS last (vAt c.vs k) = (a, l) := ⟨_, _, rfl⟩
      rw [hr] at h2 hR0 hR1 ⊢
      have H0 := Lib.hid hR0
      have H1 := Lib.hid hR1
      have H2 := Lib.hid h2
      have HB2 := Lib.hid b2
      have z2 : w.heap.size + 2 ≤ w2.heap.size := by have := k2.size; simp at this; omega
      clear hR0 hR1 h2 b2 hr
      by_cases ha : a = 0
      · subst ha
        go_wp2
        go_roundw
        case rel => exact ⟨k + 1, l, by omega, by go_num, H1.out trivial, H2.out, HB2.out, z2⟩
        case measure => simp [intOf]; omega
      · go_wp2
        go_ret
        exact ChkOut.mk' rfl (by rw [HE.out]; exact H0.out ha) HB2.out
    · obtain rfl : k = n := by omega
      have h0 := hC
      rw [← HN.out] at h0
      have H0 := Lib.hid h0.end
      have HBe := Lib.hid hbel
      clear h0 hC hB hbel
      go_wp2
      go_ret
      exact ChkOut.mk' rfl (by rw [HE.out, H0.out]; rfl) HBe.out
end Go.Proofs.Ytooghjnddifpdaa
