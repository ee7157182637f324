/- Rows of votes, a commit's cells; what is wrong with a vote behind a place. · commit.Check and the document's. · The document's Check. · commit.Of and the document's. · Votes and commits are compared. · Whole commits loaded, stored, answered; long, SameCommit. · Votes appended; CopyCommit, OverCommit. · OverCommit, slices.Clone of votes. · slices.Insert of one vote: at the end; with room; without room. -/
import Derived.Test.YtooghjnddifpdaaCmP
import Derived.Test.YtooghjnddifpdaaBytesEq
import Derived.Test.YtooghjnddifpdaaMid
import Derived.IntWalk
import Derived.Deep.Cut
import Derived.Lib.AppendZerosOnto
import Derived.Lib.Overlaps
import Derived.Deep.RegionLaw
import Derived.Laws.Externs
import Derived.Laws.IdiomCopy
section
namespace Go.Proofs.Ytooghjnddifpdaa
open Go.RowKit Go.Proofs.Ytooghjnddifpdaa.Cm
set_option linter.unusedSimpArgs false
set_option linter.unusedVariables false

/-- The cells of votes, of a commit. -/
def vcs (l : List Vt) : List Value := l.flatMap fun v => [.int .i64 v.p, .int .u64 v.g]
def ccs (c : C) (v : Value) : List Value := .int .i64 c.h :: (u8s c.x ++ [v])
theorem vcs_len (l : List Vt) : (vcs l).length = l.length * 2 := by
  induction l with
  | nil => rfl
  | cons r L ih => show ([_, _] ++ vcs L).length = _; rw [List.length_append, ih]; simp; omega
theorem vcs_append (a b : List Vt) : vcs (a ++ b) = vcs a ++ vcs b := by simp [vcs]
theorem vcs_at (l : List Vt) (i : Nat) (m : Vt) (h : l[i]? = some m) : (vcs l)[i * 2]? = some (.int .i64 m.p) ∧ (vcs l)[i * 2 + 1]? = some (.int .u64 m.g) := by
  induction l generalizing i with
  | nil => simp at h
  | cons x L ih =>
    cases i with
    | zero => simp at h; subst h; exact ⟨rfl, rfl⟩
    | succ i =>
      simp at h
      obtain ⟨h1, h2⟩ := ih i h
      show ([_, _] ++ vcs L)[_]? = _ ∧ ([_, _] ++ vcs L)[_]? = _
      rw [List.getElem?_append_right (by simp; omega), List.getElem?_append_right (by simp; omega)]
      simp only [List.length_cons, List.length_nil]
      rw [show (i + 1) * 2 - (0 + 1 + 1) = i * 2 by omega, show (i + 1) * 2 + 1 - (0 + 1 + 1) = i * 2 + 1 by omega]
      exact ⟨h1, h2⟩
theorem vcs_one (l : List Vt) : ∀ u ∈ vcs l, u.oneCell' = true := by
  intro u hu
  obtain ⟨v, _, hv⟩ := List.mem_flatMap.1 hu
  simp at hv
  rcases hv with rfl | rfl <;> rfl
/-- A slice that reads as a list of votes. -/
def VRow (w : World) (v : Value) (l : List Vt) : Prop :=
  ∃ A cap, v = .slice A l.length cap ∧ (0 < l.length → ∃ b off, A = some ⟨b, off, none⟩ ∧ b < w.heap.size ∧ ∀ i m, l[i]? = some m → w.cell? ⟨b, off + i * 2, none⟩ = some (.int .i64 m.p) ∧ w.cell? ⟨b, off + i * 2 + 1, none⟩ = some (.int .u64 m.g))
theorem VRow.keep {w w' : World} {v : Value} {l : List Vt} {S : Nat → Prop} (h : VRow w v l) (hk : Keep S w w') (hn : ∀ b, v.ownBlock = some b → ¬ S b) : VRow w' v l := by
  obtain ⟨A, cap, e, h⟩ := h
  refine ⟨A, cap, e, fun h0 => ?_⟩
  obtain ⟨b, off, e', hlt, hc⟩ := h h0
  have hb : w'.heap[b]? = w.heap[b]? := hk.block b hlt (hn b (by rw [e, e']; rfl))
  exact ⟨b, off, e', Nat.lt_of_lt_of_le hlt hk.size, fun i m hm => ⟨(World.cell?_of_block hb).trans (hc i m hm).1, (World.cell?_of_block hb).trans (hc i m hm).2⟩⟩
theorem VRow.below {w w' : World} {v : Value} {l : List Vt} (h : VRow w v l) (hb : Below w.heap.size w w') : VRow w' v l := h.keep (S := fun _ => False) (Keep.of_below hb) (fun _ _ h => h)
theorem VRow.form {w : World} {v : Value} {l : List Vt} (h : VRow w v l) : ∃ A cap, v = .slice A l.length cap := by obtain ⟨A, cap, e, _⟩ := h; exact ⟨A, cap, e⟩
theorem VRow.of_own {w : World} {B n : Nat} {v : Value} {l : List Vt} (h : w.ownsRow B 29 2 v n (vcs l)) : VRow w v l := by
  have hl : n = l.length := by have := h.1; rw [vcs_len] at this; omega
  rcases h.2 with ⟨rfl, h0⟩ | ⟨g, cap, cur, rfl, _, hh, _, _, _, ht⟩
  · have : l.length = 0 := by omega
    exact ⟨none, 0, by rw [this], fun h => by omega⟩
  · refine ⟨_, cap, by rw [hl], fun _ => ⟨g, 0, rfl, kb_lt hh, fun i m hm => ?_⟩⟩
    obtain ⟨h1, h2⟩ := vcs_at l i m hm
    have at_ : ∀ j u, (vcs l)[j]? = some u → w.cell? ⟨g, j, none⟩ = some u := by
      intro j u hu
      rw [kb_cell hh, ← Array.getElem?_toList]
      rw [← ht, List.getElem?_take] at hu
      split at hu
      · exact hu
      · cases hu
    rw [Nat.zero_add]
    exact ⟨at_ _ _ h1, at_ _ _ h2⟩
/-- The vote at a place. -/
def vAt (l : List Vt) (i : Nat) : Vt := l.getD i ⟨0, 0⟩
theorem vAt_some {l : List Vt} {i : Nat} (h : i < l.length) : l[i]? = some (vAt l i) := by
  unfold vAt
  rw [List.getD, List.getElem?_eq_getElem h]; rfl

section
variable {c : C} (hx : c.x.length = 32) (v : Value)
include hx
theorem ccs_len : (ccs c v).length = 34 := by simp [ccs, u8s_len, hx]
theorem ccs_33 : (ccs c v)[33]? = some v := by
  show (u8s c.x ++ _)[32]? = _
  rw [List.getElem?_append_right (by rw [u8s_len, hx]; omega), u8s_len, hx]
  rfl
theorem ccs_h (j : Nat) (u : Value) (h : (u8s c.x)[j]? = some u) : (ccs c v)[1 + j]? = some u := by
  have hj : j < 32 := by have := (List.getElem?_eq_some_iff.1 h).1; rw [u8s_len, hx] at this; exact this
  rw [show 1 + j = j + 1 by omega]
  show (u8s c.x ++ _)[j]? = _
  rw [List.getElem?_append_left (by rw [u8s_len, hx]; exact hj)]
  exact h
end
theorem ccs_0 (c : C) (v : Value) : (ccs c v)[0]? = some (.int .i64 c.h) := rfl

/-- What the closure of rises answers, and the place behind it. -/
def riseS (last : Int) (v : Vt) : Int × Int := if v.p < 0 ∨ 64 ≤ v.p then (3, last) else if v.p ≤ last then (9, last) else (0, v.p)
theorem chkV_cons (last : Int) (v : Vt) (L : List Vt) : ((chkV last (v :: L) : Nat) : Int) = if (riseS last v).1 = 0 then ((chkV (riseS last v).2 L : Nat) : Int) else (riseS last v).1 := by
  rw [show chkV last (v :: L) = if v.p < 0 ∨ 64 ≤ v.p then 3 else if v.p ≤ last then 9 else chkV v.p L from rfl]
  unfold riseS
  split
  · rfl
  · split <;> simp
theorem rises_any (w : World) :
    Calls Try.prog 42 #[] w fun e w' => e = .returned (.func (.func 74) #[] #[.pointer (some ⟨w.heap.size, 0, none⟩)]) ∧ w.alloc (.cells #[.int .i64 (-1)] 3) = w' := by
  go_enter Try.func42, Try.ntmps42
  go_wp2_with fail
  go_ret
  exact ⟨rfl, rfl⟩
theorem rise_any {w : World} {b : Nat} {last : Int} (v : Vt) (hb : w.heap[b]? = some (.cells #[.int .i64 last] 3 (0, 0))) :
    Calls Try.prog 74 (#[.agg #[.int .i64 v.p, .int .u64 v.g]] ++ #[.pointer (some ⟨b, 0, none⟩)]) w fun e w' => e = .returned (.int .i64 (riseS last v).1) ∧ w'.heap[b]? = some (.cells #[.int .i64 (riseS last v).2] 3 (0, 0)) ∧ Keep (fun x => x = b) w w' := by
  have hlt := kb_lt hb
  have c0 := kb_cell hb 0
  have z0 := kb_frozen hb 0
  simp at c0
  have HB := Lib.hid hb
  clear hb
  have fin : ∀ (a l : Int), riseS last v = (a, l) → ∀ (q : Value) (W : World), q = .int .i64 a → W.heap[b]? = some (.cells #[.int .i64 l] 3 (0, 0)) → Keep (fun x => x = b) w W → Ending.returned q = .returned (.int .i64 (riseS last v).1) ∧ W.heap[b]? = some (.cells #[.int .i64 (riseS last v).2] 3 (0, 0)) ∧ Keep (fun x => x = b) w W := by
    intro a l h q W hq h1 h2
    rw [h, hq]; exact ⟨rfl, h1, h2⟩
  have kA : Keep (fun x => x = b) w (w.alloc (.cells #[.int .i64 v.p, .int .u64 v.g] 29)) := (Keep.refl _ _).alloc _
  have kB := HB.out
  by_cases h1 : v.p < 0
  · have hr : riseS last v = (3, last) := by simp [riseS, h1]
    go_enter Try.func74, Try.ntmps74
    go_wp2_with fail
    go_ret
    first | exact ⟨rfl, kb_alloc kB _, kA⟩ | exact fin _ _ hr _ _ rfl (kb_alloc kB _) kA
  by_cases h2 : 64 ≤ v.p
  · have hr : riseS last v = (3, last) := by simp [riseS, h2]
    have h3 : ¬ v.p < 64 := by omega
    go_enter Try.func74, Try.ntmps74
    go_wp2_with fail
    go_ret
    first | exact ⟨rfl, kb_alloc kB _, kA⟩ | exact fin _ _ hr _ _ rfl (kb_alloc kB _) kA
  have h3 : v.p < 64 := by omega
  by_cases h4 : v.p ≤ last
  · have hr : riseS last v = (9, last) := by simp [riseS, h1, h2, h4]
    go_enter Try.func74, Try.ntmps74
    go_wp2_with fail
    go_ret
    first | exact ⟨rfl, kb_alloc kB _, kA⟩ | exact fin _ _ hr _ _ rfl (kb_alloc kB _) kA
  · have hr : riseS last v = (0, v.p) := by simp [riseS, h1, h2, h4]
    go_enter Try.func74, Try.ntmps74
    go_wp2_with fail
    go_ret
    have hS := kb_set (i := 0) kB (.int .i64 v.p)
    simp only [List.setIfInBounds_toArray, List.set_cons_zero] at hS
    have kC := Keep.set (S := fun x => x = b) (p := ⟨b, 0, none⟩) (Keep.refl _ w) (fun _ => rfl) (.int .i64 v.p)
    exact ⟨rfl, kb_alloc hS _, kC.alloc _⟩
end Go.Proofs.Ytooghjnddifpdaa
end
section
namespace Go.Proofs.Ytooghjnddifpdaa
open Go.RowKit Go.Proofs.Ytooghjnddifpdaa.Cm BigFrame
set_option linter.unusedSimpArgs false
set_option linter.unusedVariables false

theorem sizeC : (Try.prog.info? 26).map (·.size) = some 34 := by kernel_rfl
theorem ccs_lenA {c : C} {v : Value} (hx : c.x.length = 32) : some (ccs c v).length = some 34 := by rw [ccs_len hx]
/-- A commit is loaded. -/
theorem wpList_load_c {ops : Array Oper} {rest : List Oper} {op : Oper} {a : Act} {w : World} {Q : Exit → Act → World → Prop} (hgd : op.guard = none) (x : Operand) (ho : op.op = .load 26 x) (b : Nat) (hx : a.eval x = .pointer (some ⟨b, 0, none⟩)) {c : C} {v : Value} {fr : Nat × Nat}
    (h : w.heap[b]? = some (.cells (ccs c v).toArray 26 fr)) (hl : c.x.length = 32) (hk : wpList Try.prog ops Q rest (a.put op.dst (.agg (ccs c v).toArray)) w) : wpList Try.prog ops Q (op :: rest) a w :=
  wpList_load_mid hgd 26 x ho b 0 hx (ccs c v) _ (range_of_kb h) Try.underlying26 rfl (sizeC.trans (ccs_lenA hl).symm) hk
theorem ccs_one {c : C} {v : Value} (hv : v.oneCell' = true) : (ccs c v).toArray.all (·.oneCell') = true := all_oneCell_toArray (fun u hu => by
  unfold ccs at hu
  rcases List.mem_cons.1 hu with rfl | hu
  · rfl
  · rcases List.mem_append.1 hu with hu | hu
    · exact u8s_one _ _ hu
    · simp at hu; subst hu; exact hv)
theorem VRow.one {w : World} {v : Value} {l : List Vt} (h : VRow w v l) : v.oneCell' = true := by obtain ⟨A, cap, rfl, _⟩ := h; rfl
/-- A vote's cells at a place, in Int's form. -/
theorem VRow.at {w : World} {v : Value} {l : List Vt} (h : VRow w v l) {i : Nat} (hi : i < l.length) : ∃ b off cap, v = .slice (some ⟨b, off, none⟩) l.length cap ∧ b < w.heap.size ∧ w.cell? ⟨b, off + i * 2, none⟩ = some (.int .i64 (vAt l i).p) ∧ w.cell? ⟨b, off + i * 2 + 1, none⟩ = some (.int .u64 (vAt l i).g) := by
  obtain ⟨A, cap, rfl, h⟩ := h
  obtain ⟨b, off, rfl, hb, hc⟩ := h (by omega)
  exact ⟨b, off, cap, rfl, hb, hc i _ (vAt_some hi)⟩
theorem drop_at {l : List Vt} {i : Nat} (hi : i < l.length) : l.drop i = vAt l i :: l.drop (i + 1) := by
  rw [List.drop_eq_getElem_cons hi]
  have := vAt_some hi
  rw [List.getElem?_eq_getElem hi] at this
  injection this with this
  rw [this]

/-- What is wrong behind so many votes. -/
def ChkAt (l : List Vt) (last : Int) (i : Nat) : Prop := chkV (-1) l = chkV last (l.drop i)
theorem ChkAt.zero (l : List Vt) : ChkAt l (-1) 0 := by unfold ChkAt; simp
theorem ChkAt.end {l : List Vt} {last : Int} (h : ChkAt l last l.length) : chkV (-1) l = 0 := by unfold ChkAt at h; rw [h]; simp [chkV]
theorem ChkAt.bad {l : List Vt} {last e : Int} {i : Nat} (h : ChkAt l last i) (hi : i < l.length) (he : (riseS last (vAt l i)).1 = e) (h0 : e ≠ 0) : ((chkV (-1) l : Nat) : Int) = e := by
  unfold ChkAt at h
  rw [h, drop_at hi, chkV_cons, if_neg (by rw [he]; exact h0), he]
theorem ChkAt.next {l : List Vt} {last : Int} {i : Nat} (h : ChkAt l last i) (hi : i < l.length) (he : (riseS last (vAt l i)).1 = 0) : ChkAt l (riseS last (vAt l i)).2 (i + 1) := by
  unfold ChkAt at h ⊢
  have := chkV_cons last (vAt l i) (l.drop (i + 1))
  rw [if_pos he, ← drop_at hi] at this
  omega
theorem chk_1 {c : C} (h : c.h < 1 ∨ 1073741824 < c.h) : chk c = 3 := by unfold chk; rw [if_pos h]
theorem chk_2 {c : C} (h : ¬ (c.h < 1 ∨ 1073741824 < c.h)) (h2 : 64 < c.vs.length) : chk c = 4 := by unfold chk; rw [if_neg h, if_pos h2]
theorem chk_3 {c : C} (h : ¬ (c.h < 1 ∨ 1073741824 < c.h)) (h2 : ¬ 64 < c.vs.length) : chk c = chkV (-1) c.vs := by unfold chk; rw [if_neg h, if_neg h2]
theorem eRise : ∀ (args : Array Value) (W : World), (callFunc 74 args).run Try.prog W = .ok (.enter 74 args) W := fun _ _ => by kernel_rfl

/-- What is answered. -/
def ChkOut (c : C) (w : World) (e : Ending) (w' : World) : Prop := e = .returned (.int .i64 (chk c : Int)) ∧ Below w.heap.size w w'
theorem ChkOut.mk' {c : C} {w w' : World} {e : Ending} {n : Int} (he : e = .returned (.int .i64 n)) (hn : ((chk c : Nat) : Int) = n) (hb : Below w.heap.size w w') : ChkOut c w e w' := ⟨by rw [he, hn], hb⟩

set_option maxRecDepth 100000 in
set_option maxHeartbeats 2000000 in
theorem Check_any' {w : World} {c : C} {v : Value} (hx : c.x.length = 32) (hv : VRow w v c.vs) (hl : c.vs.length ≤ 1000000) :
    Calls Try.prog 22 #[.agg (ccs c v).toArray] w (ChkOut c w) := by
  have q0 := ccs_0 c v
  have q33 := ccs_33 hx v
  have D0 : (w.alloc (.cells (ccs c v).toArray 26)).heap[w.heap.size]? = some _ := kb_new rfl _
  have b0 : Below w.heap.size w (w.alloc (.cells (ccs c v).toArray 26)) := bl_alloc (Below.refl _ _) _
  have hV0 := hv.below b0
  have c0 := (kb_cell D0 0).trans (by simpa using q0)
  have c33 := (kb_cell D0 33).trans (by simpa using q33)
  have HV := Lib.hid hV0
  have HB := Lib.hid b0
  have HX := Lib.hid hx
  have HV0 := Lib.hid hv
  obtain ⟨A, cap, hvv⟩ := hv.form
  subst hvv
  clear hv hV0 b0 hx
  obtain ⟨n, hn⟩ : ∃ n, c.vs.length = n := ⟨_, rfl⟩
  have HN := Lib.hid hn
  rw [hn] at hl D0 c0 c33 HV HV0 HB q0 q33 ⊢
  clear hn
  by_cases h1 : c.h < 1
  · have e := chk_1 (c := c) (.inl h1)
    have HE := Lib.hid e
    clear e
    go_enter Try.func22, Try.ntmps22
    go_wp2_with fail
    go_ret
    exact ChkOut.mk' rfl (by rw [HE.out]; rfl) HB.out
  by_cases h2 : 1073741824 < c.h
  · have e := chk_1 (c := c) (.inr h2)
    have HE := Lib.hid e
    clear e
    go_enter Try.func22, Try.ntmps22
    go_wp2_with fail
    go_ret
    exact ChkOut.mk' rfl (by rw [HE.out]; rfl) HB.out
  by_cases h3 : 64 < n
  · have e := chk_2 (c := c) (by omega) (by rw [HN.out]; exact h3)
    have HE := Lib.hid e
    clear e
    go_enter Try.func22, Try.ntmps22
    go_wp2_with fail
    go_ret
    exact ChkOut.mk' rfl (by rw [HE.out]; rfl) HB.out
  have e := chk_3 (c := c) (by omega) (by rw [HN.out]; exact h3)
  have HE := Lib.hid e
  clear e
  go_enter Try.func22, Try.ntmps22
  go_wp2_with fail
  refine (rises_any _).mono ?_
  rintro e w1 ⟨rfl, rfl⟩
  go_wp2_with fail
  obtain ⟨wb, hwb⟩ : ∃ wb : World, wb = (w.alloc (.cells (ccs c (.slice A n cap)).toArray 26)).alloc (.cells #[.int .i64 (-1)] 3) := ⟨_, rfl⟩
  have hsz : wb.heap.size = w.heap.size + 2 := by rw [hwb]; simp
  have HW := Lib.hid (show Below w.heap.size w wb by rw [hwb]; exact bl_alloc HB.out _)
  have HK := Lib.hid (show wb.heap[w.heap.size + 1]? = some (.cells #[.int .i64 (-1)] 3 (0, 0)) by rw [hwb]; exact kb_new (by simp) _)
  have HZ := Lib.hid hsz
  rw [← hwb]
  clear hwb D0 c0 c33 HV HB q0 q33 hsz
  go_loopw [5, 6, 25, 26, 27, 28, 29, 30, 31, 32, 33, 34, 35] (fun _ _ s25 _ _ _ _ _ _ _ _ _ _ wr => ∃ (k : Nat) (last : Int), k ≤ n ∧ s25 = .int .i64 k ∧ ChkAt c.vs last k ∧ wr.heap[w.heap.size + 1]? = some (.cells #[.int .i64 last] 3 (0, 0)) ∧ Below w.heap.size w wr ∧ w.heap.size + 2 ≤ wr.heap.size) (fun _ _ s25 _ _ _ _ _ _ _ _ _ _ _ => n - (intOf s25).toNat)
  case atStart => exact ⟨0, -1, by omega, rfl, ChkAt.zero _, HK.out, HW.out, by rw [HZ.out]; omega⟩
  case round =>
    obtain ⟨k, last, hk, rfl, hC, hB, hbel, hZ⟩ := hrel
    by_cases hlt : k < n
    · have hkl : k < c.vs.length := by rw [HN.out]; exact hlt
      obtain ⟨b, off, cap', hA, hbl, d0', d1'⟩ := HV0.out.at hkl
      have d0 := (hbel.cell (p := ⟨b, off + k * 2, none⟩) hbl).trans d0'
      have d1 := (hbel.cell (p := ⟨b, off + k * 2 + 1, none⟩) hbl).trans d1'
      obtain ⟨rfl, rfl⟩ : A = some ⟨b, off, none⟩ ∧ cap = cap' := by injection hA with h1 h2 h3; exact ⟨h1, h3⟩
      have HC := Lib.hid hC
      have HKL := Lib.hid hkl
      have HBl := Lib.hid hB
      have HBe := Lib.hid hbel
      clear hA hC hkl hB hbel d0' d1'
      go_wp2_with fail
      refine (rise_any (last := last) (vAt c.vs k) (kb_alloc HBl.out _)).mono ?_
      rintro e w2 ⟨rfl, h2, k2⟩
      have hR0 := fun e0 => HC.out.bad HKL.out (e := (riseS last (vAt c.vs k)).1) rfl e0
      have hR1 := fun e0 => HC.out.next HKL.out (last := last) e0
      have b2 : Below w.heap.size w w2 := (Keep.trans (S := fun b => b = w.heap.size + 1) (Keep.of_below (bl_alloc HBe.out _)) k2 (fun _ _ h => h)).below (Nat.le_refl _) (fun b h => by omega)
      obtain ⟨a, l, hr⟩ : ∃ a l, riseS last (vAt c.vs k) = (a, l) := ⟨_, _, rfl⟩
      rw [hr] at h2 hR0 hR1 ⊢
      have H0 := Lib.hid hR0
      have H1 := Lib.hid hR1
      have H2 := Lib.hid h2
      have HB2 := Lib.hid b2
      have z2 : w.heap.size + 2 ≤ w2.heap.size := by have := k2.size; simp at this; omega
      clear hR0 hR1 h2 b2 hr
      by_cases ha : a = 0
      · subst ha
        go_wp2
        go_roundw
        case rel => exact ⟨k + 1, l, by omega, by go_num, H1.out trivial, H2.out, HB2.out, z2⟩
        case measure => simp [intOf]; omega
      · go_wp2
        go_ret
        exact ChkOut.mk' rfl (by rw [HE.out]; exact H0.out ha) HB2.out
    · obtain rfl : k = n := by omega
      have h0 := hC
      rw [← HN.out] at h0
      have H0 := Lib.hid h0.end
      have HBe := Lib.hid hbel
      clear h0 hC hB hbel
      go_wp2
      go_ret
      exact ChkOut.mk' rfl (by rw [HE.out, H0.out]; rfl) HBe.out
end Go.Proofs.Ytooghjnddifpdaa
end
section
namespace Go.Proofs.Ytooghjnddifpdaa
open Go.RowKit Go.Proofs.Ytooghjnddifpdaa.Cm BigFrame
set_option linter.unusedSimpArgs false
set_option linter.unusedVariables false

/-- The place ahead of a vote's. -/
def lastP (l : List Vt) : Nat → Int
  | 0 => -1
  | k + 1 => (vAt l k).p
theorem rise_3 {last : Int} {v : Vt} (h : v.p < 0 ∨ 64 ≤ v.p) : (riseS last v).1 = 3 := by simp [riseS, h]
theorem rise_9 {last : Int} {v : Vt} (h : ¬ (v.p < 0 ∨ 64 ≤ v.p)) (h2 : v.p ≤ last) : (riseS last v).1 = 9 := by simp [riseS, h, h2]
theorem rise_0 {last : Int} {v : Vt} (h : ¬ (v.p < 0 ∨ 64 ≤ v.p)) (h2 : ¬ v.p ≤ last) : riseS last v = (0, v.p) := by simp [riseS, h, h2]
theorem ChkAt.go {l : List Vt} {i : Nat} (h : ChkAt l (lastP l i) i) (hi : i < l.length) (h1 : ¬ ((vAt l i).p < 0 ∨ 64 ≤ (vAt l i).p)) (h2 : ¬ (vAt l i).p ≤ lastP l i) : ChkAt l (lastP l (i + 1)) (i + 1) := by
  have e := rise_0 h1 h2
  have k := h.next hi (by rw [e])
  rw [e] at k
  exact k

set_option maxRecDepth 100000 in
set_option maxHeartbeats 2000000 in
theorem rCheck_any' {w : World} {c : C} {v : Value} (hx : c.x.length = 32) (hv : VRow w v c.vs) (hl : c.vs.length ≤ 1000000) :
    Calls Try.prog 37 #[.agg (ccs c v).toArray] w (ChkOut c w) := by
  have q0 := ccs_0 c v
  have q33 := ccs_33 hx v
  have D0 : (w.alloc (.cells (ccs c v).toArray 26)).heap[w.heap.size]? = some _ := kb_new rfl _
  have b0 : Below w.heap.size w (w.alloc (.cells (ccs c v).toArray 26)) := bl_alloc (Below.refl _ _) _
  have c0 := (kb_cell D0 0).trans (by simpa using q0)
  have c33 := (kb_cell D0 33).trans (by simpa using q33)
  have HB := Lib.hid b0
  have HV0 := Lib.hid hv
  obtain ⟨A, cap, hvv⟩ := hv.form
  subst hvv
  clear hv b0 hx
  obtain ⟨n, hn⟩ : ∃ n, c.vs.length = n := ⟨_, rfl⟩
  have HN := Lib.hid hn
  rw [hn] at hl D0 c0 c33 HV0 HB q0 q33 ⊢
  clear hn
  by_cases h1 : c.h < 1
  · have e := chk_1 (c := c) (.inl h1)
    have HE := Lib.hid e
    clear e
    go_enter Try.func37, Try.ntmps37
    go_wp2_with fail
    go_ret
    exact ChkOut.mk' rfl (by rw [HE.out]; rfl) HB.out
  by_cases h2 : 1073741824 < c.h
  · have e := chk_1 (c := c) (.inr h2)
    have HE := Lib.hid e
    clear e
    go_enter Try.func37, Try.ntmps37
    go_wp2_with fail
    go_ret
    exact ChkOut.mk' rfl (by rw [HE.out]; rfl) HB.out
  by_cases h3 : 64 < n
  · have e := chk_2 (c := c) (by omega) (by rw [HN.out]; exact h3)
    have HE := Lib.hid e
    clear e
    go_enter Try.func37, Try.ntmps37
    go_wp2_with fail
    go_ret
    exact ChkOut.mk' rfl (by rw [HE.out]; rfl) HB.out
  have e := chk_3 (c := c) (by omega) (by rw [HN.out]; exact h3)
  have HE := Lib.hid e
  clear e
  go_enter Try.func37, Try.ntmps37
  go_wp2_with fail
  obtain ⟨wb, hwb⟩ : ∃ wb : World, wb = w.alloc (.cells (ccs c (.slice A n cap)).toArray 26) := ⟨_, rfl⟩
  have HW := Lib.hid (show Below w.heap.size w wb by rw [hwb]; exact HB.out)
  have HK := Lib.hid (show wb.cell? ⟨w.heap.size, 33, none⟩ = some (.slice A n cap) by rw [hwb]; exact c33)
  rw [← hwb]
  clear hwb D0 c0 c33 HB q0 q33
  go_loopw [3, 18, 19, 20, 21, 22, 23, 24, 25, 26, 27, 28, 29, 30, 31, 32, 33, 34, 35, 36, 37, 38, 39, 40, 41, 42, 43, 44, 45, 46, 47, 48, 49, 50, 51, 52, 53, 54, 55, 56, 57, 58, 59, 60] (fun s3 _ _ _ _ _ _ _ _ _ _ _ _ _ _ _ _ _ _ _ _ _ _ _ _ _ _ _ _ _ _ _ _ _ _ _ _ _ _ _ _ _ _ _ wr => ∃ (k : Nat), k ≤ n ∧ s3 = .int .i64 k ∧ ChkAt c.vs (lastP c.vs k) k ∧ wr.cell? ⟨w.heap.size, 33, none⟩ = some (.slice A n cap) ∧ Below w.heap.size w wr) (fun s3 _ _ _ _ _ _ _ _ _ _ _ _ _ _ _ _ _ _ _ _ _ _ _ _ _ _ _ _ _ _ _ _ _ _ _ _ _ _ _ _ _ _ _ _ => n - (intOf s3).toNat)
  case atStart => exact ⟨0, by omega, rfl, ChkAt.zero _, HK.out, HW.out⟩
  case round =>
    obtain ⟨k, hk, rfl, hC, h33, hbel⟩ := hrel
    have HC := Lib.hid hC
    have HBe := Lib.hid hbel
    have H33 := Lib.hid h33
    by_cases hlt : k < n
    · have hkl : k < c.vs.length := by rw [HN.out]; exact hlt
      obtain ⟨b, off, cap', hA, hbl, d0', d1'⟩ := HV0.out.at hkl
      have d0 := (hbel.cell (p := ⟨b, off + k * 2, none⟩) hbl).trans d0'
      obtain ⟨rfl, rfl⟩ : A = some ⟨b, off, none⟩ ∧ cap = cap' := by injection hA with h1 h2 h3; exact ⟨h1, h3⟩
      have HKL := Lib.hid hkl
      clear hA hC hkl d0' d1'
      by_cases p1 : (vAt c.vs k).p < 0
      · have H0 := Lib.hid (HC.out.bad HKL.out (rise_3 (.inl p1)) (by decide))
        clear hbel
        go_wp2_with fail
        go_ret
        exact ChkOut.mk' rfl (by rw [HE.out]; exact H0.out) HBe.out
      by_cases p2 : 64 ≤ (vAt c.vs k).p
      · have H0 := Lib.hid (HC.out.bad HKL.out (rise_3 (.inr p2)) (by decide))
        clear hbel
        go_wp2_with fail
        go_ret
        exact ChkOut.mk' rfl (by rw [HE.out]; exact H0.out) HBe.out
      have hp : ¬ ((vAt c.vs k).p < 0 ∨ 64 ≤ (vAt c.vs k).p) := by omega
      cases k with
      | zero =>
        have hq : decide ((0 : Int) < ((0 : Nat) : Int)) = false := by decide
        have H1 := Lib.hid (HC.out.go HKL.out hp (by show ¬ _ ≤ (-1 : Int); omega))
        rw [Nat.zero_mul, Nat.add_zero] at d0
        clear hbel hp
        go_wp2_with fail
        go_quiet (fail)
        go_wp2_with fail
        go_roundw
        case rel => exact ⟨1, by omega, by go_num, H1.out, H33.out, bl_drewN HBe.out _⟩
        case measure => simp [intOf]; omega
      | succ k =>
        obtain ⟨b', off', cap2, hA, _, e0', _⟩ := HV0.out.at (i := k) (by have := HKL.out; omega)
        obtain ⟨rfl, rfl⟩ : b = b' ∧ off = off' := by injection hA with h1 h2 h3; injection h1 with h1; injection h1 with h1 h4; exact ⟨h1, h4⟩
        have e0 := (hbel.cell (p := ⟨b, off + k * 2, none⟩) hbl).trans e0'
        clear hA e0'
        have hs : (((k + 1 : Nat) : Int) - 1) = (k : Int) := by omega
        by_cases p3 : (vAt c.vs (k + 1)).p ≤ (vAt c.vs k).p
        · have H0 := Lib.hid (HC.out.bad HKL.out (rise_9 hp p3) (by decide))
          clear hbel hp
          go_wp2_with fail
          go_quiet (fail)
          go_wp2_with fail
          go_ret
          exact ChkOut.mk' rfl (by rw [HE.out]; exact H0.out) (bl_drewN HBe.out _)
        · have H1 := Lib.hid (HC.out.go HKL.out hp p3)
          clear hbel hp
          go_wp2_with fail
          go_quiet (fail)
          go_wp2_with fail
          go_roundw
          case rel => exact ⟨k + 2, by omega, by go_num, H1.out, H33.out, bl_drewN HBe.out _⟩
          case measure => simp [intOf]; omega
    · obtain rfl : k = n := by omega
      have h0 := hC
      rw [← HN.out] at h0
      have H0 := Lib.hid h0.end
      clear h0 hC hbel
      go_wp2
      go_ret
      exact ChkOut.mk' rfl (by rw [HE.out, H0.out]; rfl) HBe.out
end Go.Proofs.Ytooghjnddifpdaa
end
section
namespace Go.Proofs.Ytooghjnddifpdaa
open Go.RowKit Go.Proofs.Ytooghjnddifpdaa.Cm BigFrame
set_option linter.unusedSimpArgs false
set_option linter.unusedVariables false

theorem vAt_cons_0 (v : Vt) (l : List Vt) : vAt (v :: l) 0 = v := rfl
theorem vAt_cons_s (v : Vt) (l : List Vt) (i : Nat) : vAt (v :: l) (i + 1) = vAt l i := rfl
theorem find_first : ∀ {l : List Vt} {p : Int} {i : Nat}, i < l.length → (vAt l i).p = p → (∀ j, j < i → (vAt l j).p ≠ p) → findV l p = some (vAt l i).g
  | [], _, _, h, _, _ => by simp at h
  | v :: l, p, 0, _, h, _ => by
    rw [vAt_cons_0] at h ⊢
    unfold findV; rw [if_pos h]
  | v :: l, p, i + 1, h, h1, h2 => by
    rw [vAt_cons_s] at h1 ⊢
    unfold findV
    have h20 := h2 0 (by omega)
    rw [vAt_cons_0] at h20
    rw [if_neg h20]
    exact find_first (by simpa using h) h1 (fun j hj => h2 (j + 1) (by omega))
theorem find_no : ∀ {l : List Vt} {p : Int}, (∀ j, j < l.length → (vAt l j).p ≠ p) → findV l p = none
  | [], _, _ => rfl
  | v :: l, p, h => by
    unfold findV
    have h20 := h 0 (by simp)
    rw [vAt_cons_0] at h20
    rw [if_neg h20]
    exact find_no fun j hj => h (j + 1) (by simp; omega)
/-- The first place of a vote. -/
def IdxIs (l : List Vt) (p r : Int) : Prop := (r = -1 ∧ ∀ j, j < l.length → (vAt l j).p ≠ p) ∨ ∃ i : Nat, r = (i : Int) ∧ i < l.length ∧ (vAt l i).p = p ∧ ∀ j, j < i → (vAt l j).p ≠ p
def IdxOut (l : List Vt) (p : Int) (w : World) (e : Ending) (w' : World) : Prop := ∃ r : Int, e = .returned (.int .i64 r) ∧ IdxIs l p r ∧ Below w.heap.size w w'
/-- A place's signature. -/
def sigR (l : List Vt) (p : Int) : Nat × Bool := match findV l p with
  | none => (0, false)
  | some g => (g, true)
def SigOut (l : List Vt) (p : Int) (w : World) (e : Ending) (w' : World) : Prop := e = .returned (.tuple #[.int .u64 ((sigR l p).1 : Int), .bool (sigR l p).2]) ∧ Below w.heap.size w w'
theorem SigOut.yes {l : List Vt} {p : Int} {i : Nat} {w w' : World} {e : Ending} (h1 : i < l.length) (h2 : (vAt l i).p = p) (h3 : ∀ j, j < i → (vAt l j).p ≠ p) (he : e = .returned (.tuple #[.int .u64 ((vAt l i).g : Int), .bool true])) (hb : Below w.heap.size w w') : SigOut l p w e w' := by
  have := find_first h1 h2 h3
  refine ⟨?_, hb⟩
  rw [he]; simp only [sigR, this]
theorem SigOut.no {l : List Vt} {p : Int} {w w' : World} {e : Ending} (h : ∀ j, j < l.length → (vAt l j).p ≠ p) (he : e = .returned (.tuple #[.int .u64 0, .bool false])) (hb : Below w.heap.size w w') : SigOut l p w e w' := by
  have := find_no h
  refine ⟨?_, hb⟩
  rw [he]; simp only [sigR, this]; rfl

theorem Of1_any {w : World} {q : Nat} {p : Int} (v : Vt) (hq : w.cell? ⟨q, 0, none⟩ = some (.int .i64 p)) :
    Calls Try.prog 51 (#[.agg #[.int .i64 v.p, .int .u64 v.g]] ++ #[.pointer (some ⟨q, 0, none⟩)]) w fun e w' => e = .returned (.bool (decide (v.p = p))) ∧ Below w.heap.size w w' := by
  have hq' : (w.alloc (.cells #[.int .i64 v.p, .int .u64 v.g] 29)).cell? ⟨q, 0, none⟩ = some (.int .i64 p) := (cell_alloc_some _ _ _ _ (by rw [hq]; rfl)).trans hq
  have e1 : (v.p == p) = decide (v.p = p) := by rw [Bool.eq_iff_iff]; simp
  have HE := Lib.hid e1
  clear hq e1
  go_enter Try.func51, Try.ntmps51
  go_wp2_with fail
  go_ret
  exact ⟨ret_bool HE.out, bl_alloc (Below.refl _ _) _⟩

set_option maxRecDepth 100000 in
set_option maxHeartbeats 2000000 in
theorem IndexFunc_any {w : World} {q : Nat} {p : Int} {v : Value} {l : List Vt} (hv : VRow w v l) (hq : w.cell? ⟨q, 0, none⟩ = some (.int .i64 p)) (hl : l.length ≤ 1000000) :
    Calls Try.prog 50 #[v, .func (.func 51) #[] #[.pointer (some ⟨q, 0, none⟩)]] w (IdxOut l p w) := by
  have HV0 := Lib.hid hv
  have HQ := Lib.hid hq
  have hqs : q < w.heap.size := World.block_lt_of_cell? w ⟨q, 0, none⟩ hq
  obtain ⟨A, cap, rfl⟩ := hv.form
  clear hv hq
  obtain ⟨n, hn⟩ : ∃ n, l.length = n := ⟨_, rfl⟩
  have HN := Lib.hid hn
  rw [hn] at hl HV0 ⊢
  clear hn
  go_enter Try.func50, Try.ntmps50
  go_wp2_with fail
  go_loopw [5, 8, 9, 10, 11, 12, 13, 14, 15, 16, 17, 18] (fun _ s8 _ _ _ _ _ _ _ _ _ _ wr => ∃ (k : Nat), k ≤ n ∧ s8 = .int .i64 k ∧ Hid (∀ j, j < k → (vAt l j).p ≠ p) ∧ Below w.heap.size w wr) (fun _ s8 _ _ _ _ _ _ _ _ _ _ _ => n - (intOf s8).toNat)
  case atStart => exact ⟨0, by omega, rfl, fun j hj => by omega, Below.refl _ _⟩
  case round =>
    obtain ⟨k, hk, rfl, hF, hbel⟩ := hrel
    have HBe := Lib.hid hbel
    by_cases hlt : k < n
    · obtain ⟨b, off, cap', hA, hbl, d0', d1'⟩ := HV0.out.at (i := k) (by rw [HN.out]; exact hlt)
      have d0 := (hbel.cell (p := ⟨b, off + k * 2, none⟩) hbl).trans d0'
      have d1 := (hbel.cell (p := ⟨b, off + k * 2 + 1, none⟩) hbl).trans d1'
      obtain ⟨rfl, rfl⟩ : A = some ⟨b, off, none⟩ ∧ cap = cap' := by injection hA with h1 h2 h3; exact ⟨h1, h3⟩
      clear hA d0' d1' hbel
      go_wp2_with fail
      refine (Of1_any (p := p) (vAt l k) ((HBe.out.cell (p := ⟨q, 0, none⟩) hqs).trans HQ.out)).mono ?_
      rintro e w2 ⟨rfl, b2⟩
      have HB2 := Lib.hid (bl_then HBe.out b2)
      clear b2
      by_cases hp : (vAt l k).p = p
      · have HP := Lib.hid hp
        have hd : decide ((vAt l k).p = p) = true := by simpa using hp
        clear hp
        go_wp2_with fail
        go_ret
        exact ⟨_, rfl, .inr ⟨k, rfl, by rw [HN.out]; exact hlt, HP.out, hF.out⟩, HB2.out⟩
      · have HP := Lib.hid hp
        have hd : decide ((vAt l k).p = p) = false := by simpa using hp
        clear hp
        go_wp2_with fail
        go_roundw
        case rel => exact ⟨k + 1, by omega, by go_num, fun j hj => by
          by_cases e : j = k
          · subst e; exact HP.out
          · exact hF.out j (by omega), HB2.out⟩
        case measure => simp [intOf]; omega
    · obtain rfl : k = n := by omega
      clear hbel
      go_wp2
      go_ret
      exact ⟨_, rfl, .inl ⟨rfl, by rw [HN.out]; exact hF.out⟩, HBe.out⟩

set_option maxRecDepth 100000 in
set_option maxHeartbeats 2000000 in
theorem Of_any' {w : World} {c : C} {v : Value} (p : Int) (hx : c.x.length = 32) (hv : VRow w v c.vs) (hl : c.vs.length ≤ 1000000) :
    Calls Try.prog 18 #[.agg (ccs c v).toArray, .int .i64 p] w (SigOut c.vs p w) := by
  have q33 := ccs_33 hx v
  have D0 : (w.alloc (.cells (ccs c v).toArray 26)).heap[w.heap.size]? = some _ := kb_new rfl _
  have b0 : Below w.heap.size w (w.alloc (.cells (ccs c v).toArray 26)) := bl_alloc (Below.refl _ _) _
  have D1 := kb_alloc D0 (.cells #[.int .i64 p] 3)
  have c33 := (kb_cell D1 33).trans (by simpa using q33)
  have b1 := bl_alloc b0 (.cells #[.int .i64 p] 3)
  have HQ := Lib.hid (show ((w.alloc (.cells (ccs c v).toArray 26)).alloc (.cells #[.int .i64 p] 3)).cell? ⟨w.heap.size + 1, 0, none⟩ = some (.int .i64 p) from kb_cell (kb_new (by simp) _) 0)
  have HB := Lib.hid b1
  have HV0 := Lib.hid hv
  obtain ⟨A, cap, hvv⟩ := hv.form
  subst hvv
  clear hv b0 hx b1
  obtain ⟨n, hn⟩ : ∃ n, c.vs.length = n := ⟨_, rfl⟩
  have HN := Lib.hid hn
  rw [hn] at hl D0 D1 c33 HV0 HB HQ q33 ⊢
  clear hn
  go_enter Try.func18, Try.ntmps18
  go_wp2_with fail
  refine (IndexFunc_any (p := p) (HV0.out.below HB.out) HQ.out (by rw [HN.out]; exact hl)).mono ?_
  rintro e w2 ⟨r, rfl, hr, b2⟩
  have D2 := kb_below b2 D1
  have c33' := (kb_cell D2 33).trans (by simpa using q33)
  have HB2 := Lib.hid (bl_then HB.out b2)
  clear D0 D1 c33 D2 b2
  rcases hr with ⟨rfl, hno⟩ | ⟨i, rfl, hi, hp, hbf⟩
  · have HNo := Lib.hid hno
    clear hno
    go_wp2_with fail
    go_ret2
    exact SigOut.no HNo.out rfl HB2.out
  · obtain ⟨b, off, cap', hA, hbl, d0', d1'⟩ := HV0.out.at hi
    have d1 := (HB2.out.cell (p := ⟨b, off + i * 2 + 1, none⟩) hbl).trans d1'
    obtain ⟨rfl, rfl⟩ : A = some ⟨b, off, none⟩ ∧ cap = cap' := by injection hA with h1 h2 h3; exact ⟨h1, h3⟩
    have HH := Lib.hid (And.intro hi (And.intro hp hbf))
    have hin : i < n := by rw [← HN.out]; exact hi
    clear hA d0' d1' hi hp hbf
    go_wp2_with fail
    go_ret2
    exact SigOut.yes HH.out.1 HH.out.2.1 HH.out.2.2 rfl HB2.out

set_option maxRecDepth 100000 in
set_option maxHeartbeats 2000000 in
theorem rOf_any' {w : World} {c : C} {v : Value} (p : Int) (hx : c.x.length = 32) (hv : VRow w v c.vs) (hl : c.vs.length ≤ 1000000) :
    Calls Try.prog 32 #[.agg (ccs c v).toArray, .int .i64 p] w (SigOut c.vs p w) := by
  have q33 := ccs_33 hx v
  have D0 : (w.alloc (.cells (ccs c v).toArray 26)).heap[w.heap.size]? = some _ := kb_new rfl _
  have b0 : Below w.heap.size w (w.alloc (.cells (ccs c v).toArray 26)) := bl_alloc (Below.refl _ _) _
  have c33 := (kb_cell D0 33).trans (by simpa using q33)
  have HB := Lib.hid b0
  have HV0 := Lib.hid hv
  obtain ⟨A, cap, hvv⟩ := hv.form
  subst hvv
  clear hv b0 hx
  obtain ⟨n, hn⟩ : ∃ n, c.vs.length = n := ⟨_, rfl⟩
  have HN := Lib.hid hn
  rw [hn] at hl D0 c33 HV0 HB q33 ⊢
  clear hn
  go_enter Try.func32, Try.ntmps32
  go_wp2_with fail
  obtain ⟨wb, hwb⟩ : ∃ wb : World, wb = w.alloc (.cells (ccs c (.slice A n cap)).toArray 26) := ⟨_, rfl⟩
  have HW := Lib.hid (show Below w.heap.size w wb by rw [hwb]; exact HB.out)
  have HK := Lib.hid (show wb.cell? ⟨w.heap.size, 33, none⟩ = some (.slice A n cap) by rw [hwb]; exact c33)
  rw [← hwb]
  clear hwb D0 c33 HB q33
  go_loopw [6, 7, 8, 9, 10, 11, 12, 13, 14, 15, 16, 17, 18, 19, 20, 21, 22, 23, 24, 25, 26, 27] (fun s6 _ _ _ _ _ _ _ _ _ _ _ _ _ _ _ _ _ _ _ _ _ wr => ∃ (k : Nat), k ≤ n ∧ s6 = .int .i64 k ∧ Hid (∀ j, j < k → (vAt c.vs j).p ≠ p) ∧ wb = wr) (fun s6 _ _ _ _ _ _ _ _ _ _ _ _ _ _ _ _ _ _ _ _ _ _ => n - (intOf s6).toNat)
  case atStart => exact ⟨0, by omega, rfl, fun j hj => by omega, rfl⟩
  case round =>
    obtain ⟨k, hk, rfl, hF, rfl⟩ := hrel
    have h33 := HK.out
    by_cases hlt : k < n
    · obtain ⟨b, off, cap', hA, hbl, d0', d1'⟩ := HV0.out.at (i := k) (by rw [HN.out]; exact hlt)
      have d0 := (HW.out.cell (p := ⟨b, off + k * 2, none⟩) hbl).trans d0'
      have d1 := (HW.out.cell (p := ⟨b, off + k * 2 + 1, none⟩) hbl).trans d1'
      obtain ⟨rfl, rfl⟩ : A = some ⟨b, off, none⟩ ∧ cap = cap' := by injection hA with h1 h2 h3; exact ⟨h1, h3⟩
      clear hA d0' d1'
      by_cases hp : (vAt c.vs k).p = p
      · have HP := Lib.hid hp
        have hd : ((vAt c.vs k).p == p) = true := by simpa using hp
        clear hp
        go_wp2_with fail
        go_ret2
        exact SigOut.yes (by rw [HN.out]; exact hlt) HP.out hF.out rfl HW.out
      · have HP := Lib.hid hp
        have hd : ((vAt c.vs k).p == p) = false := by simpa using hp
        clear hp
        go_wp2_with fail
        go_roundw
        case rel => exact ⟨k + 1, by omega, by go_num, fun j hj => by
          by_cases e : j = k
          · subst e; exact HP.out
          · exact hF.out j (by omega), trivial⟩
        case measure => simp [intOf]; omega
    · obtain rfl : k = n := by omega
      go_wp2
      go_ret2
      exact SigOut.no (by rw [HN.out]; exact hF.out) rfl HW.out
end Go.Proofs.Ytooghjnddifpdaa
end
section
namespace Go.Proofs.Ytooghjnddifpdaa
open Go.RowKit Go.Proofs.Ytooghjnddifpdaa.Cm BigFrame
set_option linter.unusedSimpArgs false
set_option linter.unusedVariables false

/-- A vote as a value. -/
abbrev vtV (v : Vt) : Value := .agg #[.int .i64 v.p, .int .u64 v.g]
set_option maxRecDepth 100000 in
theorem vt_run (a b : Vt) (W : World) : (Op.equalIn 10000 29 (vtV a) (vtV b)).run Try.prog W = .ok (decide (a = b)) W := by
  rw [show (10000 : Nat) = 9998 + 1 + 1 from rfl, run_equalIn_agg W 9999 _ _ _ (by kernel_rfl) (by kernel_rfl)]
  have hf : Try.prog.fieldsOf 29 = (match Try.prog.underlying 29 with | some (.struct fs) => fs | _ => #[]) := rfl
  rw [hf, Try.underlying29]
  have ui := Try.underlying3
  have uu := Try.underlying27
  have e : decide (a = b) = (a.p == b.p && (a.g : Int) == (b.g : Int)) := by
    rw [Bool.eq_iff_iff]
    cases a; cases b
    simp
    intro _; omega
  rw [e]
  cases h : (a.p == b.p) <;> simp [Op.eqFields, go_sem, ui, uu, h]
  by_cases k : (a.g : Int) = (b.g : Int)
  · rw [if_pos k, beq_iff_eq.2 k]
  · rw [if_neg k, beq_eq_false_iff_ne.2 k]
theorem eql_vt (a b : Vt) (W : World) : (binOp .eql 29 (vtV a) (vtV b)).run Try.prog W = .ok (.bool (decide (a = b))) W := by
  rw [run_eql_struct, vt_run]; rfl
theorem neq_vt (a b : Vt) (W : World) : (binOp .neq 29 (vtV a) (vtV b)).run Try.prog W = .ok (.bool (!decide (a = b))) W := by
  rw [run_neq_struct, vt_run]; rfl
theorem ext_at {l m : List Vt} (hl : l.length = m.length) (h : ∀ j, j < l.length → vAt l j = vAt m j) : l = m := by
  apply List.ext_getElem? 
  intro i
  by_cases hi : i < l.length
  · rw [vAt_some hi, vAt_some (by omega), h i hi]
  · rw [List.getElem?_eq_none (by omega), List.getElem?_eq_none (by omega)]
/-- Are so many votes alike? -/
def SameTo (l m : List Vt) (k : Nat) (s : Bool) : Prop := if s = true then l.length = m.length ∧ ∀ j, j < k → vAt l j = vAt m j else l ≠ m
theorem SameTo.end {l m : List Vt} (h : SameTo l m l.length true) : decide (l = m) = true := by
  unfold SameTo at h
  rw [if_pos rfl] at h
  simpa using ext_at h.1 h.2
theorem SameTo.no {l m : List Vt} {k : Nat} (h : SameTo l m k false) : decide (l = m) = false := by
  unfold SameTo at h
  rw [if_neg (by simp)] at h
  simpa using h
theorem SameTo.next {l m : List Vt} {k : Nat} (h : SameTo l m k true) (hk : k < l.length) : SameTo l m (k + 1) (decide (vAt l k = vAt m k)) := by
  unfold SameTo at h ⊢
  rw [if_pos rfl] at h
  by_cases e : vAt l k = vAt m k
  · rw [if_pos (by simpa using e)]
    refine ⟨h.1, fun j hj => ?_⟩
    by_cases e' : j = k
    · subst e'; exact e
    · exact h.2 j (by omega)
  · rw [if_neg (by simpa using e)]
    rintro rfl
    exact e rfl
theorem SameTo.zero (l m : List Vt) : SameTo l m 0 (decide (l.length = m.length)) := by
  unfold SameTo
  by_cases e : l.length = m.length
  · rw [if_pos (by simpa using e)]; exact ⟨e, fun j hj => by omega⟩
  · rw [if_neg (by simpa using e)]; rintro rfl; exact e rfl

set_option maxRecDepth 100000 in
set_option maxHeartbeats 2000000 in
theorem SameVotes_any {w : World} {u v : Value} {l m : List Vt} (hu : VRow w u l) (hv : VRow w v m) (hl : l.length ≤ 1000000) (hm : m.length ≤ 1000000) :
    Calls Try.prog 49 #[u, v] w fun e w' => e = .returned (.bool (decide (l = m))) ∧ Below w.heap.size w w' := by
  have HU := Lib.hid hu
  have HV := Lib.hid hv
  obtain ⟨A, cap, rfl⟩ := hu.form
  obtain ⟨A', cap', rfl⟩ := hv.form
  clear hu hv
  obtain ⟨r, hr⟩ : ∃ r, decide (l = m) = r := ⟨_, rfl⟩
  have HR := Lib.hid hr
  have hz := SameTo.zero l m
  obtain ⟨n, hn⟩ : ∃ n, l.length = n := ⟨_, rfl⟩
  obtain ⟨n', hn'⟩ : ∃ n', m.length = n' := ⟨_, rfl⟩
  have HN := Lib.hid hn
  have HN' := Lib.hid hn'
  have hee : ((n : Int) == (n' : Int)) = decide (n = n') := by rw [Bool.eq_iff_iff]; simp; omega
  rw [hn, hn'] at hz
  rw [hn] at hl HU ⊢
  rw [hn'] at hm HV ⊢
  rw [hr]
  have HZ := Lib.hid hz
  clear hn hn' hr hz
  generalize decide (n = n') = s0 at *
  go_enter Try.func49, Try.ntmps49
  go_wp2_with fail
  clear hee
  go_loopw [5, 6, 12, 13, 14, 15, 16, 17, 18, 19, 20, 21, 22, 23, 24, 25, 26, 27, 28, 29] (fun s5 s6 _ _ _ _ _ _ _ _ _ _ _ _ _ _ _ _ _ _ wr => ∃ (k : Nat) (s : Bool), k ≤ n ∧ s6 = .int .i64 k ∧ s5 = .bool s ∧ SameTo l m k s ∧ Below w.heap.size w wr) (fun _ s6 _ _ _ _ _ _ _ _ _ _ _ _ _ _ _ _ _ _ _ => n - (intOf s6).toNat)
  case atStart => exact ⟨0, s0, by omega, rfl, rfl, HZ.out, Below.refl _ _⟩
  case round =>
    obtain ⟨k, s, hk, rfl, rfl, hS, hbel⟩ := hrel
    have HS := Lib.hid hS
    have HBe := Lib.hid hbel
    cases s with
    | false =>
      have HE := Lib.hid hS.no
      clear hS hbel
      go_wp2_with fail
      go_ret
      exact ⟨ret_bool (by rw [← HR.out, HE.out]), HBe.out⟩
    | true =>
      by_cases hlt : k < n
      · have hle : n = n' := by have := HS.out; unfold SameTo at this; rw [if_pos rfl, HN.out, HN'.out] at this; exact this.1
        have hlt' : k < n' := by omega
        obtain ⟨b, off, c1, hA, hbl, d0', d1'⟩ := HU.out.at (i := k) (by rw [HN.out]; exact hlt)
        obtain ⟨b', off', c2, hA', hbl', e0', e1'⟩ := HV.out.at (i := k) (by rw [HN'.out]; omega)
        have d0 := (hbel.cell (p := ⟨b, off + k * 2, none⟩) hbl).trans d0'
        have d1 := (hbel.cell (p := ⟨b, off + k * 2 + 1, none⟩) hbl).trans d1'
        have e0 := (hbel.cell (p := ⟨b', off' + k * 2, none⟩) hbl').trans e0'
        have e1 := (hbel.cell (p := ⟨b', off' + k * 2 + 1, none⟩) hbl').trans e1'
        obtain ⟨rfl, rfl⟩ : A = some ⟨b, off, none⟩ ∧ cap = c1 := by injection hA with h1 h2 h3; exact ⟨h1, h3⟩
        obtain ⟨rfl, rfl⟩ : A' = some ⟨b', off', none⟩ ∧ cap' = c2 := by injection hA' with h1 h2 h3; exact ⟨h1, h3⟩
        have HX := Lib.hid (HS.out.next (by rw [HN.out]; exact hlt))
        have hq := eql_vt (vAt l k) (vAt m k)
        clear hA d0' d1' hA' e0' e1' hbel hS hle
        generalize decide (vAt l k = vAt m k) = s1 at *
        go_wp2_with fail
        go_quiet (fail)
        go_wp2_with fail
        go_roundw
        case rel => exact ⟨k + 1, s1, by omega, by go_num, rfl, HX.out, bl_drewN HBe.out _⟩
        case measure => simp [intOf]; omega
      · obtain rfl : k = n := by omega
        have HE := Lib.hid (SameTo.end (l := l) (m := m) (by rw [HN.out]; exact hS))
        clear hS hbel
        go_wp2_with fail
        go_ret
        exact ⟨ret_bool (by rw [← HR.out, HE.out]), HBe.out⟩

theorem eql_hash (a b : List UInt8) (ha : a.length = 32) (hb : b.length = 32) (W : World) : (binOp .eql 23 (.agg (u8s a).toArray) (.agg (u8s b).toArray)).run Try.prog W = .ok (.bool (a == b)) W :=
  run_eql_bytes Try.underlying23 a b ha hb W
theorem neq_hash (a b : List UInt8) (ha : a.length = 32) (hb : b.length = 32) (W : World) : (binOp .neq 23 (.agg (u8s a).toArray) (.agg (u8s b).toArray)).run Try.prog W = .ok (.bool (!(a == b))) W :=
  run_neq_bytes Try.underlying23 a b ha hb W
end Go.Proofs.Ytooghjnddifpdaa
end
section
namespace Go.Proofs.Ytooghjnddifpdaa
open Go.RowKit Go.Proofs.Ytooghjnddifpdaa.Cm BigFrame
set_option linter.unusedSimpArgs false
set_option linter.unusedVariables false

/-- A commit is loaded, under a guard too. -/
theorem wpList_load_cw {ops : Array Oper} {rest : List Oper} {op : Oper} {a : Act} {w : World} {Q : Exit → Act → World → Prop} (x : Operand) (ho : op.op = .load 26 x) (hw : Region.wanted op (yielded ops a.tmps) = true) (b : Nat) (hx : a.eval x = .pointer (some ⟨b, 0, none⟩)) {c : C} {v : Value} {fr : Nat × Nat}
    (h : w.heap[b]? = some (.cells (ccs c v).toArray 26 fr)) (hl : c.x.length = 32) (hk : wpList Try.prog ops Q rest (a.put op.dst (.agg (ccs c v).toArray)) w) : wpList Try.prog ops Q (op :: rest) a w :=
  BigFrame.wpList_want hw fun _ hK => wp_load_mid 26 x ho b 0 hx (ccs c v) _ (range_of_kb h) Try.underlying26 rfl (sizeC.trans (ccs_lenA hl).symm) (hK _ _ hk)
theorem sizeH : (Try.prog.info? 23).map (·.size) = some 32 := by kernel_rfl
theorem ccs_range {w : World} {b : Nat} {c : C} {v : Value} {fr : Nat × Nat} (h : w.heap[b]? = some (.cells (ccs c v).toArray 26 fr)) (hl : c.x.length = 32) : w.rangeAt b 1 (u8s c.x) := fun j u hu => by
  rw [kb_cell h]
  have := ccs_h hl v j u hu
  simpa using this
/-- A commit's hash is loaded. -/
theorem wpList_load_hw {ops : Array Oper} {rest : List Oper} {op : Oper} {a : Act} {w : World} {Q : Exit → Act → World → Prop} (x : Operand) (ho : op.op = .load 23 x) (hw : Region.wanted op (yielded ops a.tmps) = true) (b : Nat) (hx : a.eval x = .pointer (some ⟨b, 1, none⟩)) {c : C} {v : Value} {fr : Nat × Nat}
    (h : w.heap[b]? = some (.cells (ccs c v).toArray 26 fr)) (hl : c.x.length = 32) (hk : wpList Try.prog ops Q rest (a.put op.dst (.agg (u8s c.x).toArray)) w) : wpList Try.prog ops Q (op :: rest) a w :=
  BigFrame.wpList_want hw fun _ hK => wp_load_mid 23 x ho b 1 hx (u8s c.x) _ (ccs_range h hl) Try.underlying23 rfl (sizeH.trans (by rw [u8s_len, hl])) (hK _ _ hk)
/-- A commit is stored over a commit. -/
theorem wpList_store_c {ops : Array Oper} {rest : List Oper} {op : Oper} {a : Act} {w : World} {Q : Exit → Act → World → Prop} (hgd : op.guard = none) (x y : Operand) (ho : op.op = .store 26 x y) (b : Nat) (hx : a.eval x = .pointer (some ⟨b, 0, none⟩)) {c : C} {v : Value} (hy : a.eval y = .agg (ccs c v).toArray)
    {cur : Array Value} (h : w.heap[b]? = some (.cells cur 26 (0, 0))) (hs : cur.size = 34) (hl : c.x.length = 32) (hv : v.oneCell' = true)
    (hk : ∀ w', w'.heap[b]? = some (.cells (ccs c v).toArray 26 (0, 0)) → Keep (fun x => x = b) w w' → wpList Try.prog ops Q rest (a.put op.dst undef) w') : wpList Try.prog ops Q (op :: rest) a w := by
  have hL : (ccs c v).toArray.size = 34 := by simpa using ccs_len hl v
  refine wpList_store_mid hgd 26 x y ho b 0 (ccs c v).toArray hx hy (by rw [hL]; exact there_kb h hs) (sizeC.trans (by rw [hL])) (ccs_one hv) (hk _ ?_ (keep_cells _ 0 (Keep.refl _ _) (fun _ => rfl)))
  have := setCells_kb (ccs c v) h (by rw [hs, ccs_len hl])
  exact this
theorem ccs_set {c : C} (hx : c.x.length = 32) (u v : Value) : (ccs c u).toArray.setIfInBounds 33 v = (ccs c v).toArray := by
  have h : (ccs c u).set 33 v = ccs c v := by
    unfold ccs
    rw [List.set_cons_succ, List.set_append_right _ _ (by rw [u8s_len, hx]; omega), u8s_len, hx]
    rfl
  simpa using congrArg List.toArray h
/-- Two results, of which the first one is a commit. -/
theorem results_c {fn : Func} {p q : Tmp} (h : fn.results = #[.cell p 26, .tmp q]) (tmps : Array Value) (w : World) (g : Nat) {c : C} {v u : Value} (hl : c.x.length = 32) {fr : Nat × Nat}
    (hp : tmps.getD p undef = .pointer (some ⟨g, 0, none⟩)) (hg : w.heap[g]? = some (.cells (ccs c v).toArray 26 fr)) (hu : tmps.getD q undef = u) :
    (results fn tmps).run Try.prog w = .ok (.tuple #[.agg (ccs c v).toArray, u]) w := by
  have hp' : tmps[p]?.getD undef = .pointer (some ⟨g, 0, none⟩) := by simpa using hp
  have hu' : tmps[q]?.getD undef = u := by simpa using hu
  have hi : (Try.prog.info? 26).map (·.size) = some (ccs c v).toArray.size := sizeC.trans (by simpa using (ccs_len hl v).symm)
  simp [results, h, hp', hu', asAddr, run_loadVar_row w g _ 26 _ fr _ hg Try.underlying26 rfl hi]
theorem results_c1 {fn : Func} {p : Tmp} (h : fn.results = #[.cell p 26]) (tmps : Array Value) (w : World) (g : Nat) {c : C} {v : Value} (hl : c.x.length = 32) {fr : Nat × Nat}
    (hp : tmps.getD p undef = .pointer (some ⟨g, 0, none⟩)) (hg : w.heap[g]? = some (.cells (ccs c v).toArray 26 fr)) :
    (results fn tmps).run Try.prog w = .ok (.agg (ccs c v).toArray) w :=
  results_cell_row h tmps w g 26 _ fr _ hp hg Try.underlying26 rfl (sizeC.trans (by simpa using (ccs_len hl v).symm))
/-- No commit. -/
def cZ : C := ⟨0, List.replicate 32 0, []⟩
abbrev vZ : Value := .slice none 0 0
theorem cZ_x : cZ.x.length = 32 := rfl
theorem zeroC : #[.int .i64 0, .int .u8 0, .int .u8 0, .int .u8 0, .int .u8 0, .int .u8 0, .int .u8 0, .int .u8 0, .int .u8 0, .int .u8 0, .int .u8 0, .int .u8 0, .int .u8 0, .int .u8 0, .int .u8 0, .int .u8 0, .int .u8 0, .int .u8 0, .int .u8 0, .int .u8 0, .int .u8 0, .int .u8 0, .int .u8 0, .int .u8 0, .int .u8 0, .int .u8 0, .int .u8 0, .int .u8 0, .int .u8 0, .int .u8 0, .int .u8 0, .int .u8 0, .int .u8 0, .slice none 0 0] = (ccs cZ vZ).toArray := rfl
theorem VRow.nil (w : World) : VRow w vZ [] := ⟨none, 0, rfl, fun h => by simp at h⟩

theorem long_any' {w : World} {c : C} {v : Value} (hx : c.x.length = 32) (hv : VRow w v c.vs) :
    Calls Try.prog 9 #[.agg (ccs c v).toArray] w fun e w' => e = .returned (.bool (decide (70 < c.vs.length))) ∧ Below w.heap.size w w' := by
  have q33 := ccs_33 hx v
  have D0 : (w.alloc (.cells (ccs c v).toArray 26)).heap[w.heap.size]? = some _ := kb_new rfl _
  have c33 := (kb_cell D0 33).trans (by simpa using q33)
  obtain ⟨A, cap, hvv⟩ := hv.form
  subst hvv
  obtain ⟨r, hr⟩ : ∃ r, decide (70 < c.vs.length) = r := ⟨_, rfl⟩
  have HR := Lib.hid hr
  obtain ⟨n, hn⟩ : ∃ n, c.vs.length = n := ⟨_, rfl⟩
  have hd : decide ((70 : Int) < (n : Int)) = r := by rw [← hr, hn]; rw [Bool.eq_iff_iff]; simp; omega
  rw [hr]
  rw [hn] at D0 c33 q33 ⊢
  clear hn hv hx hr
  go_enter Try.func9, Try.ntmps9
  go_wp2_with fail
  go_ret
  exact ⟨ret_bool (by simp [hd]), bl_alloc (Below.refl _ _) _⟩

def sameC (c d : C) : Bool := decide (c.h = d.h) && ((c.x == d.x) && decide (c.vs = d.vs))
theorem sameC_refl (c : C) : sameC c c = true := by simp [sameC]
theorem sameC_eq {c d : C} (h : sameC c d = true) : c = d := by
  cases c; cases d
  simp [sameC] at h
  simp [h]

set_option maxRecDepth 100000 in
set_option maxHeartbeats 2000000 in
theorem SameCommit_any {w : World} {c d : C} {u v : Value} (hc : c.x.length = 32) (hd : d.x.length = 32) (hu : VRow w u c.vs) (hv : VRow w v d.vs) (hl : c.vs.length ≤ 1000000) (hm : d.vs.length ≤ 1000000) :
    Calls Try.prog 16 #[.agg (ccs c u).toArray, .agg (ccs d v).toArray] w fun e w' => e = .returned (.bool (sameC c d)) ∧ Below w.heap.size w w' := by
  have q0 := ccs_0 c u
  have q33 := ccs_33 hc u
  have r0 := ccs_0 d v
  have r33 := ccs_33 hd v
  have D0 := kb_alloc (kb_new (w := w) rfl (.cells (ccs c u).toArray 26)) (.cells (ccs d v).toArray 26)
  have D1 : ((w.alloc (.cells (ccs c u).toArray 26)).alloc (.cells (ccs d v).toArray 26)).heap[w.heap.size + 1]? = some _ := kb_new (by simp) _
  have b1 : Below w.heap.size w ((w.alloc (.cells (ccs c u).toArray 26)).alloc (.cells (ccs d v).toArray 26)) := bl_alloc (bl_alloc (Below.refl _ _) _) _
  have c0 := (kb_cell D0 0).trans (by simpa using q0)
  have c33 := (kb_cell D0 33).trans (by simpa using q33)
  have e0 := (kb_cell D1 0).trans (by simpa using r0)
  have e33 := (kb_cell D1 33).trans (by simpa using r33)
  have hq := eql_hash c.x d.x hc hd
  have HH := Lib.hid (And.intro hc hd)
  have HB := Lib.hid b1
  have HU := Lib.hid (hu.below b1)
  have HV := Lib.hid (hv.below b1)
  have HD := Lib.hid (And.intro D0 D1)
  clear hu hv b1 hc hd D0 D1
  by_cases h1 : c.h = d.h
  · have hd1 : (c.h == d.h) = true := by simpa using h1
    by_cases h2 : c.x = d.x
    · have hd2 : (c.x == d.x) = true := by simpa using h2
      have e : sameC c d = decide (c.vs = d.vs) := by simp [sameC, h1, h2]
      rw [e]
      rw [hd2] at hq
      obtain ⟨s, hs⟩ : ∃ s, decide (c.vs = d.vs) = s := ⟨_, rfl⟩
      rw [hs]
      have HS := Lib.hid hs
      clear h1 h2 hd2 e hs
      go_enter Try.func16, Try.ntmps16
      go_wp2_with (first
        | (with_reducible refine wpList_load_hw _ rfl (by kernel_rfl) _ rfl HD.out.1 HH.out.1 ?_)
        | (with_reducible refine wpList_load_hw _ rfl (by kernel_rfl) _ rfl HD.out.2 HH.out.2 ?_))
      refine (SameVotes_any HU.out HV.out hl hm).mono ?_
      rintro e w2 ⟨rfl, b2⟩
      have HB2 := Lib.hid (bl_then HB.out b2)
      clear b2
      rw [HS.out]
      go_wp2_with fail
      go_ret
      exact ⟨by first | rfl | exact ret_bool (by simp), HB2.out⟩
    · have hd2 : (c.x == d.x) = false := by simpa using h2
      have e : sameC c d = false := by simp [sameC, h2]
      rw [e]
      rw [hd2] at hq
      clear h1 h2 hd2 e
      go_enter Try.func16, Try.ntmps16
      go_wp2_with (first
        | (with_reducible refine wpList_load_hw _ rfl (by kernel_rfl) _ rfl HD.out.1 HH.out.1 ?_)
        | (with_reducible refine wpList_load_hw _ rfl (by kernel_rfl) _ rfl HD.out.2 HH.out.2 ?_))
      go_ret
      exact ⟨by first | rfl | exact ret_bool (by simp), HB.out⟩
  · have hd1 : (c.h == d.h) = false := by simpa using h1
    have e : sameC c d = false := by simp [sameC, h1]
    rw [e]
    clear h1 e
    go_enter Try.func16, Try.ntmps16
    go_wp2_with fail
    go_ret
    exact ⟨by first | rfl | exact ret_bool (by simp), HB.out⟩
end Go.Proofs.Ytooghjnddifpdaa
end
section
namespace Go.Proofs.Ytooghjnddifpdaa
open Go.RowKit Go.Proofs.Ytooghjnddifpdaa.Cm BigFrame
set_option linter.unusedSimpArgs false
set_option linter.unusedVariables false
attribute [local go_sem] cell_alloc_some frozen_alloc_some

/-- A world gets a name. -/
theorem wp_world {P : Program} {code : Code} {Q : Exit → Act → World → Prop} {a : Act} {w : World} (h : ∀ w', w' = w → Code.wp P code Q a w') : Code.wp P code Q a w := h w rfl
theorem infoV : (Try.prog.info? 29).map (fun i => (i.zero, i.size, i.bytes)) = some (some (.agg #[.int .i64 0, .int .u64 0]), 2, 16) := by kernel_rfl
theorem vcs_get {l : List Vt} {j : Nat} {u : Value} (h : (vcs l)[j]? = some u) : ∃ m, l[j / 2]? = some m ∧ u = if j % 2 = 0 then .int .i64 m.p else .int .u64 m.g := by
  have hj := (List.getElem?_eq_some_iff.1 h).1
  rw [vcs_len] at hj
  obtain ⟨m, hm⟩ : ∃ m, l[j / 2]? = some m := ⟨_, List.getElem?_eq_getElem (by omega)⟩
  obtain ⟨h1, h2⟩ := vcs_at l _ m hm
  refine ⟨m, hm, ?_⟩
  by_cases e : j % 2 = 0
  · rw [if_pos e]
    rw [show j = j / 2 * 2 by omega, h1] at h
    injection h with h; exact h.symm
  · rw [if_neg e]
    rw [show j = j / 2 * 2 + 1 by omega, h2] at h
    injection h with h; exact h.symm
theorem VRow.cells {w : World} {v : Value} {l : List Vt} (h : VRow w v l) (h0 : 0 < l.length) : ∃ b off cap, v = .slice (some ⟨b, off, none⟩) l.length cap ∧ b < w.heap.size ∧ ∀ j u, (vcs l)[j]? = some u → w.cell? ⟨b, off + j, none⟩ = some u := by
  obtain ⟨A, cap, rfl, h⟩ := h
  obtain ⟨b, off, rfl, hb, hc⟩ := h h0
  refine ⟨b, off, cap, rfl, hb, fun j u hu => ?_⟩
  obtain ⟨m, hm, rfl⟩ := vcs_get hu
  obtain ⟨h1, h2⟩ := hc _ m hm
  by_cases e : j % 2 = 0
  · rw [if_pos e, ← h1]
    rw [show off + j / 2 * 2 = off + j by omega]
  · rw [if_neg e, ← h2]
    rw [show off + j / 2 * 2 + 1 = off + j by omega]
/-- Votes are appended onto a row of the call's own. -/
theorem run_append_v (w : World) (base ty : Nat) (v : Value) (n : Nat) (xs : List Value) (hown : w.ownsRow base 29 2 v n xs) (u : Value) (l : List Vt) (hu : VRow w u l)
    (h63 : n + l.length ≤ 1000000000) (hbase : base ≤ w.heap.size) :
    ∃ v' w', (Builtin.append_ #[24, 24] ty #[v, u]).run Try.prog w = .ok v' w' ∧ w'.ownsRow base 29 2 v' (n + l.length) (xs ++ vcs l) ∧ w.grownBy w' v.ownBlock ∧
      (v'.ownBlock = v.ownBlock ∨ v'.ownBlock = some w.heap.size) := by
  obtain ⟨i0, hi, hz0, hz1, hz2⟩ := info_parts infoV
  rcases Nat.eq_zero_or_pos l.length with h0 | h0
  · obtain rfl : l = [] := List.eq_nil_of_length_eq_zero h0
    obtain ⟨A, c, rfl, _⟩ := hu
    cases A with
    | none =>
      refine ⟨v, w, ?_, by simpa [vcs] using hown, ⟨rfl, rfl, rfl, Nat.le_refl _, fun _ _ _ => rfl⟩, .inl rfl⟩
      rcases hown.2 with ⟨rfl, rfl⟩ | ⟨g, cap, cur, rfl, _, _, hnc, _⟩
      · simp [Builtin.append_, run_underlying Try.underlying24, sizeOf, typeInfo, hi, Builtin.lenOf, Builtin.firstCells]
      · simp [Builtin.append_, run_underlying Try.underlying24, sizeOf, typeInfo, hi, Builtin.lenOf, Builtin.firstCells, hnc, storeCells]
    | some ad =>
      obtain ⟨v', w', hr, h2, h3, _, h5⟩ := run_append_own_at (P := Try.prog) w base 24 ty 29 i0 (.agg #[.int .i64 0, .int .u64 0]) 2 16 Try.underlying24 hi hz0 hz1 hz2 rfl (by omega) v n xs hown ad 0 c [] (by simp) (fun j u hu => by simp at hu) (by simp) (by unfold maxLen; simp at h63; omega) (by simp at h63; omega) hbase
      exact ⟨v', w', hr, h2, h3, h5⟩
  · obtain ⟨b, off, cap, rfl, hb, hc⟩ := hu.cells h0
    obtain ⟨v', w', hr, h2, h3, _, h5⟩ := run_append_own_at (P := Try.prog) w base 24 ty 29 i0 (.agg #[.int .i64 0, .int .u64 0]) 2 16 Try.underlying24 hi hz0 hz1 hz2 rfl (by omega) v n xs hown ⟨b, off, none⟩ l.length cap (vcs l) (by rw [vcs_len]) (fun j u hu => by rw [addr_add]; exact hc j u hu) (vcs_one l) (by unfold maxLen; omega) (by omega) hbase
    exact ⟨v', w', hr, h2, h3, h5⟩
theorem wp_append_v (w : World) {o : Oper} {a : Act} {K : Act → World → Prop} {Q : Exit → Act → World → Prop} (s x : Operand)
    (ho : o.op = .call { callee := .builtin .append, args := #[s, x], argTypes := #[24, 24] })
    (base : Nat) (v : Value) (n : Nat) (xs : List Value) (hs : a.eval s = v) (hown : w.ownsRow base 29 2 v n xs)
    (u : Value) (l : List Vt) (hx : a.eval x = u) (hu : VRow w u l) (h63 : n + l.length ≤ 1000000000) (hbase : base ≤ w.heap.size)
    (h : ∀ v' w', w'.ownsRow base 29 2 v' (n + l.length) (xs ++ vcs l) → w.grownBy w' v.ownBlock → (v'.ownBlock = v.ownBlock ∨ v'.ownBlock = some w.heap.size) → K (a.put o.dst v') w') :
    o.wp Try.prog a w K Q := by
  obtain ⟨v', w', hr, h2, h3, h5⟩ := run_append_v w base o.type v n xs hown u l hu h63 hbase
  unfold Oper.wp execOp
  simp only [ho, resolve, invoke, builtin, Sem.run_bind, Sem.run_pure, Result.andThen_ok, List.map_toArray, List.map_cons, List.map_nil, hs, hx, hr]
  exact h v' w' h2 h3 h5
theorem wpList_append_v (w : World) {ops : Array Oper} {rest : List Oper} {o : Oper} {a : Act} {Q : Exit → Act → World → Prop} (hgd : o.guard = none) (s x : Operand)
    (ho : o.op = .call { callee := .builtin .append, args := #[s, x], argTypes := #[24, 24] })
    (base : Nat) (v : Value) (n : Nat) (xs : List Value) (hs : a.eval s = v) (hown : w.ownsRow base 29 2 v n xs)
    (u : Value) (l : List Vt) (hx : a.eval x = u) (hu : VRow w u l) (h63 : n + l.length ≤ 1000000000) (hbase : base ≤ w.heap.size)
    (h : ∀ v' w', w'.ownsRow base 29 2 v' (n + l.length) (xs ++ vcs l) → w.grownBy w' v.ownBlock → (v'.ownBlock = v.ownBlock ∨ v'.ownBlock = some w.heap.size) → wpList Try.prog ops Q rest (a.put o.dst v') w') :
    wpList Try.prog ops Q (o :: rest) a w :=
  wpList_plain hgd fun K hK => wp_append_v w s x ho base v n xs hs hown u l hx hu h63 hbase fun v' w' h2 h3 h5 => hK _ _ (h v' w' h2 h3 h5)
theorem owns_lit0v {w : World} {base b : Nat} {e : TypeId} {cap : Nat} (h : w.heap[b]? = some (.cells #[] e (0, 0))) (hb : base ≤ b) (hc : cap = 0) : w.ownsRow base e 2 (.slice (some ⟨b, 0, none⟩) 0 cap) 0 [] :=
  ⟨rfl, .inr ⟨b, cap, #[], rfl, hb, h, Nat.zero_le _, by subst hc; decide, by subst hc; rfl, rfl⟩⟩
/-- Votes made anew. -/
def NewVotes (w w' : World) (v : Value) (l : List Vt) : Prop := w'.ownsRow w.heap.size 29 2 v l.length (vcs l) ∧ Below w.heap.size w w'
theorem NewVotes.row {w w' : World} {v : Value} {l : List Vt} (h : NewVotes w w' v l) : VRow w' v l := VRow.of_own h.1
theorem own1 {w : World} {base e size n : Nat} {v : Value} {xs : List Value} (h : w.ownsRow base e size v n xs) : v.oneCell' = true := by
  obtain ⟨A, c, rfl⟩ := owns_slice0 h; rfl

set_option maxRecDepth 100000 in
set_option maxHeartbeats 2000000 in
theorem CopyCommit_any {w : World} {c : C} {v : Value} (hx : c.x.length = 32) (hv : VRow w v c.vs) (hl : c.vs.length ≤ 1000000) :
    Calls Try.prog 11 #[.agg (ccs c v).toArray] w fun e w' => ∃ v', e = .returned (.agg (ccs c v').toArray) ∧ NewVotes w w' v' c.vs := by
  have q33 := ccs_33 hx v
  have D0 : (w.alloc (.cells (ccs c v).toArray 26)).heap[w.heap.size]? = some _ := kb_new rfl _
  have b0 : Below w.heap.size w (w.alloc (.cells (ccs c v).toArray 26)) := bl_alloc (Below.refl _ _) _
  have HV := Lib.hid (fun W (h : Below w.heap.size w W) => hv.below h)
  have HX := Lib.hid hx
  have hone := hv.one
  have HD := Lib.hid (And.intro D0 b0)
  clear hv b0 hx D0
  go_enter Try.func11, Try.ntmps11
  go_upto_region 1 with fail
  refine wp_world fun wz hwz => ?_
  have hsz : wz.heap.size = w.heap.size + 2 := by rw [hwz]; simp
  have E0 : wz.heap[w.heap.size]? = some (.cells (ccs c v).toArray 26 (0, 0)) := by rw [hwz]; exact kb_alloc HD.out.1 _
  have E1 : wz.heap[w.heap.size + 1]? = some (.cells (ccs cZ vZ).toArray 26 (0, 0)) := by rw [hwz]; exact kb_new (by simp) _
  have bz : Below w.heap.size w wz := by rw [hwz]; exact bl_alloc HD.out.2 _
  have HE := Lib.hid (And.intro E0 (And.intro E1 bz))
  have e33 := (kb_cell E0 33).trans (by simpa using q33)
  clear E0 E1 hwz
  have ho := owns_lit0v (w := wz.alloc (.cells #[] 29)) (base := w.heap.size + 2) (b := w.heap.size + 2) (cap := 0) (kb_new hsz.symm _) (by omega) rfl
  have hV := HV.out _ (bl_alloc bz (.cells #[] 29))
  go_wp2_with (at_builtin; refine wpList_append_v _ rfl _ _ rfl (w.heap.size + 2) _ _ _ rfl ho _ _ rfl hV ?c1 ?c2 ?_)
  case c1 => omega
  case c2 => simp; omega
  intro v' w1 hown' hgrow _
  obtain ⟨A', cap', rfl⟩ := owns_slice0 hown'
  have b1 : Below wz.heap.size wz w1 := (bl_alloc (Below.refl _ _) _).grown hgrow (by simp) (fun j hj => by simp [Value.ownBlock] at hj; omega)
  have E0 := kb_below b1 HE.out.1
  have z0 := kb_frozen E0 33
  have e33' := (kb_cell E0 33).trans (by simpa using q33)
  have hF := kb_set (i := 33) E0 (.slice A' c.vs.length cap')
  rw [ccs_set HX.out] at hF
  have E1 := kb_far (kb_below b1 HE.out.2.1) (p := ⟨w.heap.size, 33, none⟩) (by simp) (.slice A' c.vs.length cap')
  have hs1 := b1.size
  have HO := Lib.hid hown'
  have HF := Lib.hid (And.intro hF E1)
  have HB1 := Lib.hid b1
  have h1 := own1 hown'
  clear hown' hgrow ho hV E0 hF E1 e33 b1
  go_wp2_with (first
    | (with_reducible refine wpList_load_cw _ rfl (by kernel_rfl) _ rfl HF.out.1 HX.out ?_)
    | (with_reducible refine wpList_store_c rfl _ _ rfl _ rfl rfl HF.out.2 rfl HX.out h1 ?_))
  intro w2 g2 k2
  have HG := Lib.hid (And.intro g2 k2)
  clear g2 k2
  go_wp2_with fail
  refine bodyPost_ret (results_c1 rfl _ _ (w.heap.size + 1) HX.out rfl HG.out.1) rfl ?_
  have n1 : w1.ownsRow (w.heap.size + 2) 29 2 (.slice A' c.vs.length cap') c.vs.length (vcs c.vs) := by simpa using HO.out
  have hgl : ∀ g, (Value.slice A' c.vs.length cap').ownBlock = some g → w.heap.size + 2 ≤ g := fun g hg => (n1.lt g hg).1
  have n2 := own_set (p := w.heap.size) (i := 33) (u := .slice A' c.vs.length cap') n1 (fun e => by have := hgl _ e; omega)
  have n3 := HG.out.2.row n2 (fun b hb e => by have := hgl b hb; omega)
  have bw : Below w.heap.size w (w1.setCell ⟨w.heap.size, 33, none⟩ (.slice A' c.vs.length cap')) := bl_set (Nat.le_refl _) (bl_then bz HB1.out) _
  exact ⟨_, rfl, owns_mono n3 (by omega), ((Keep.of_below (S := fun _ => False) bw).trans HG.out.2 (fun b h e => by omega)).below (Nat.le_refl _) (fun b e => e.elim)⟩
end Go.Proofs.Ytooghjnddifpdaa
end
section
namespace Go.Proofs.Ytooghjnddifpdaa
open Go.RowKit Go.Proofs.Ytooghjnddifpdaa.Cm BigFrame
set_option linter.unusedSimpArgs false
set_option linter.unusedVariables false
attribute [local go_sem] cell_alloc_some frozen_alloc_some

set_option maxRecDepth 100000 in
set_option maxHeartbeats 2000000 in
theorem OverCommit_any {w : World} {B : Nat} {c : C} {v : Value} (hx : c.x.length = 32) (hv : w.ownsRow B 29 2 v c.vs.length (vcs c.vs)) (hl : c.vs.length ≤ 1000000) :
    Calls Try.prog 17 #[.agg (ccs c v).toArray] w fun e w' => (∃ u, e = .returned u) ∧ Keep (fun b => v.ownBlock = some b) w w' := by
  have q33 := ccs_33 hx v
  have D0 : (w.alloc (.cells (ccs c v).toArray 26)).heap[w.heap.size]? = some _ := kb_new rfl _
  have c33 := (kb_cell D0 33).trans (by simpa using q33)
  have b0 : Below w.heap.size w (w.alloc (.cells (ccs c v).toArray 26)) := bl_alloc (Below.refl _ _) _
  obtain ⟨n, hn⟩ : ∃ n, c.vs.length = n := ⟨_, rfl⟩
  rw [hn] at hv hl
  rcases hv.2 with ⟨rfl, h0⟩ | ⟨g, cap, cur, rfl, _, hh, hnc, _, hsz, _⟩
  · subst h0
    clear hv D0
    go_enter Try.func17, Try.ntmps17
    go_wp2_with fail
    go_loopw [2, 3, 4, 5, 6, 7, 8, 9, 10, 11, 12, 13, 14] (fun s2 _ _ _ _ _ _ _ _ _ _ _ _ wr => s2 = .int .i64 0 ∧ w.alloc (.cells (ccs c (.slice none 0 0)).toArray 26) = wr) (fun _ _ _ _ _ _ _ _ _ _ _ _ _ _ => 0)
    case atStart => exact ⟨rfl, rfl⟩
    case round =>
      obtain ⟨rfl, rfl⟩ := hrel
      go_wp2_with fail
      go_end0
      exact ⟨⟨_, rfl⟩, Keep.of_below b0⟩
  · have hg : g < w.heap.size := kb_lt hh
    have E0 := kb_alloc hh (.cells (ccs c (.slice (some ⟨g, 0, none⟩) n cap)).toArray 26)
    have HE := Lib.hid E0
    have HB := Lib.hid b0
    have HC := Lib.hid c33
    clear hv hh b0 D0
    go_enter Try.func17, Try.ntmps17
    go_wp2_with fail
    go_loopw [2, 3, 4, 5, 6, 7, 8, 9, 10, 11, 12, 13, 14] (fun s2 _ _ _ _ _ _ _ _ _ _ _ _ wr => ∃ (k : Nat) (cr : Array Value), k ≤ n ∧ s2 = .int .i64 k ∧ wr.heap[g]? = some (.cells cr 29 (0, 0)) ∧ cr.size = cap * 2 ∧ wr.cell? ⟨w.heap.size, 33, none⟩ = some (.slice (some ⟨g, 0, none⟩) n cap) ∧ Keep (fun b => b = g) w wr) (fun s2 _ _ _ _ _ _ _ _ _ _ _ _ _ => n - (intOf s2).toNat)
    case atStart => exact ⟨0, cur, by omega, rfl, E0, hsz, HC.out, Keep.of_below HB.out⟩
    case round =>
      obtain ⟨k, cr, hk, rfl, hr, hcs, h33, hK⟩ := hrel
      have HK := Lib.hid hK
      by_cases hlt : k < n
      · have i0 : k * 2 < cr.size := by omega
        have i1 : k * 2 + 1 < cr.size := by omega
        have d0 := (kb_cell hr (k * 2)).trans (Array.getElem?_eq_getElem i0)
        have d1 := (kb_cell hr (k * 2 + 1)).trans (Array.getElem?_eq_getElem i1)
        have z0 := kb_frozen hr (k * 2)
        have z1 := kb_frozen hr (k * 2 + 1)
        have hne : w.heap.size ≠ g := by omega
        have f1 := kb_set (i := k * 2) hr (.int .i64 (-7))
        have f2 := kb_set (i := k * 2 + 1) f1 (.int .u64 0)
        have k2 := (hK.set (p := ⟨g, k * 2, none⟩) (fun _ => rfl) (.int .i64 (-7))).set (p := ⟨g, k * 2 + 1, none⟩) (fun _ => rfl) (.int .u64 0)
        have h33' : ((wr.setCell ⟨g, k * 2, none⟩ (.int .i64 (-7))).setCell ⟨g, k * 2 + 1, none⟩ (.int .u64 0)).cell? ⟨w.heap.size, 33, none⟩ = some (.slice (some ⟨g, 0, none⟩) n cap) := by
          rw [World.cell?_setCell_other _ _ _ _ (by simp [hne.symm]), World.cell?_setCell_other _ _ _ _ (by simp [hne.symm])]; exact h33
        have HF := Lib.hid (And.intro f2 (And.intro k2 h33'))
        generalize cr[k * 2] = x0 at *
        generalize cr[k * 2 + 1] = x1 at *
        clear hr hK E0 f1 f2 k2 h33'
        go_wp2_with fail
        go_roundw
        case rel => exact ⟨k + 1, _, by omega, by go_num, HF.out.1, by simpa using hcs, HF.out.2.2, HF.out.2.1⟩
        case measure => simp [intOf]; omega
      · obtain rfl : k = n := by omega
        clear hr hK E0
        go_wp2_with fail
        go_end0
        exact ⟨⟨_, rfl⟩, HK.out.mono (fun b _ e => by simp [Value.ownBlock, e])⟩
theorem run_eql_votes_nil (A : Option Addr) (n c : Nat) (W : World) : (binOp .eql 24 (.slice A n c) (.slice none 0 0)).run Try.prog W = .ok (.bool A.isNone) W :=
  Lib.run_eql_slice_nil W _ _ A n c 0 0 Try.underlying24

set_option maxRecDepth 100000 in
set_option maxHeartbeats 1000000 in
theorem CloneV_any {w : World} {v : Value} {l : List Vt} (h : VRow w v l) (hl : l.length ≤ 1000000) :
    Calls Try.prog 46 #[v] w fun e w' => ∃ v', e = .returned v' ∧ NewVotes w w' v' l := by
  obtain ⟨A, c, rfl, h2⟩ := id h
  cases A with
  | none =>
    have h0 : l = [] := by
      rcases Nat.eq_zero_or_pos l.length with h0 | h0
      · exact List.eq_nil_of_length_eq_zero h0
      · obtain ⟨b, off, h, _⟩ := h2 h0; cases h
    subst h0
    have hq := fun W => run_eql_votes_nil none 0 c W
    clear h h2 hl
    go_enter Try.func46, Try.ntmps46
    go_wp2
    go_ret
    exact ⟨_, rfl, World.ownsRow_nil _ _ _ _, Below.refl _ _⟩
  | some a =>
    have HR := h.below (bl_alloc (Below.refl _ _) (.cells #[] 29))
    have hn := owns_lit0v (w := w.alloc (.cells #[] 29)) (base := w.heap.size) (cap := 0) (kb_new rfl _) (Nat.le_refl _) rfl
    have hq := fun W => run_eql_votes_nil (some a) l.length c W
    clear h h2
    go_enter Try.func46, Try.ntmps46
    go_wp2_with (at_builtin; refine wpList_append_v _ rfl _ _ rfl w.heap.size _ _ _ rfl hn _ _ rfl HR ?c3 ?c4 ?_)
    case c3 => omega
    case c4 => simp
    intro v' w1 hown' hgrow _
    have b1 : Below w.heap.size w w1 := (bl_alloc (Below.refl _ _) _).grown hgrow (by simp) (fun j hj => by simp [Value.ownBlock] at hj; omega)
    obtain ⟨A', cap', hv'⟩ := owns_slice0 hown'
    subst hv'
    have HO := Lib.hid (And.intro hown' b1)
    clear hgrow hown' b1 HR hn
    go_wp2
    go_ret
    exact ⟨_, rfl, by simpa using HO.out.1, HO.out.2⟩
end Go.Proofs.Ytooghjnddifpdaa
end
section
namespace Go.Proofs.Ytooghjnddifpdaa
open Go.RowKit Go.Proofs.Ytooghjnddifpdaa.Cm BigFrame
set_option linter.unusedSimpArgs false
set_option linter.unusedVariables false
attribute [local go_sem] cell_alloc_some frozen_alloc_some

theorem kb_shape {w : World} {b : Nat} {cs : Array Value} {t : TypeId} {fr : Nat × Nat} (h : w.heap[b]? = some (.cells cs t fr)) : w.shape? b = some (t, cs.size) := by simp [World.shape?, h]
theorem sizeV : (Try.prog.info? 29).map (·.size) = some 2 := by kernel_rfl
/-- copy of votes: all is read before anything is written. -/
theorem run_copy_v (w : World) (ty b o dLen dCap : Nat) (a : Addr) (sLen sCap : Nat) (cs : List Value) (hn : cs.length = Nat.min sLen dLen * 2)
    (hsrc : ∀ j v, cs[j]? = some v → w.cell? (a.add j) = some v) (hc : ∀ j, j < cs.length → (w.cell? ⟨b, o + j, none⟩).isSome = true) (hf : ∀ j, j < cs.length → w.frozen? ⟨b, o + j, none⟩ = false) (h1 : ∀ v ∈ cs, v.oneCell' = true) :
    (Builtin.copy_ #[24, 24] ty #[.slice (some ⟨b, o, none⟩) dLen dCap, .slice (some a) sLen sCap]).run Try.prog w = .ok (goInt (Nat.min sLen dLen)) (w.setCells b o cs) := by
  have hl := run_loadCells_list (P := Try.prog) w a cs hsrc
  have hst := run_storeCells_cells (P := Try.prog) b o cs 0 w (by simpa using hc) (by simpa using hf) h1
  have hs := sizeV
  cases hq : Try.prog.info? 29 with
  | none => simp [hq] at hs
  | some i =>
    have hi : i.size = 2 := by simpa [hq] using hs
    rw [hn] at hl
    simp [Builtin.copy_, run_underlying Try.underlying24, Builtin.lenOf, Builtin.firstCells, sizeOf, typeInfo, hq, hi, hl, hst]
theorem wpList_copy_v (w : World) {ops : Array Oper} {rest : List Oper} {o : Oper} {a : Act} {Q : Exit → Act → World → Prop} (hgd : o.guard = none) (d s : Operand)
    (ho : o.op = .call { callee := .builtin .copy, args := #[d, s], argTypes := #[24, 24] }) (v u : Value) (hd : a.eval d = v) (hs : a.eval s = u) {v' : Value} {w' : World}
    (hr : ∀ ty, (Builtin.copy_ #[24, 24] ty #[v, u]).run Try.prog w = .ok v' w') (h : wpList Try.prog ops Q rest (a.put o.dst v') w') : wpList Try.prog ops Q (o :: rest) a w :=
  wpList_plain hgd fun _ hK => by
    unfold Oper.wp execOp
    simp only [ho, resolve, invoke, builtin, Sem.run_bind, Sem.run_pure, Result.andThen_ok, List.map_toArray, List.map_cons, List.map_nil, hd, hs, hr]
    exact hK _ _ h
theorem step_copy_v {ops : Array Oper} {o : Oper} {a : Act} {w : World} {K : Act → World → Prop} {Q : Exit → Act → World → Prop} {E : Prop}
    (hg : o.guard = none) (d x : Operand) (hop : o.op = Op.call { callee := Callee.builtin Builtin.copy, args := #[d, x], argTypes := #[24, 24] })
    (v u : Value) (hd : a.eval d = v) (hx : a.eval x = u) {v' : Value} {w' : World} (hr : ∀ ty, (Builtin.copy_ #[24, 24] ty #[v, u]).run Try.prog w = .ok v' w') (hK : K (a.put o.dst v') w') :
    if Region.wanted o (yielded ops a.tmps) = true then Oper.wp Try.prog o a w K Q else E := by
  have hw : Region.wanted o (yielded ops a.tmps) = true := by simp [Region.wanted, hg]
  rw [if_pos hw]
  unfold Oper.wp
  simp [execOp, hop, resolve, invoke, builtin, hd, hx, hr, Result.andThen]
  exact hK

/-- What Insert answers. -/
def InsOut (B : Nat) (s : Value) (l : List Vt) (w : World) (e : Ending) (w' : World) : Prop := ∃ s', e = .returned s' ∧ w'.ownsRow B 29 2 s' l.length (vcs l) ∧ Keep (fun b => s.ownBlock = some b) w w' ∧ ∀ b, s'.ownBlock = some b → s.ownBlock = some b ∨ w.heap.size ≤ b
theorem InsOut.mk' {B n : Nat} {s s' : Value} {l m : List Vt} {w w' : World} {e : Ending} (he : e = .returned s') (ho : w'.ownsRow B 29 2 s' n (vcs m)) (hm : m = l) (hn : n = l.length) (hk : Keep (fun b => s.ownBlock = some b) w w') (hb : ∀ b, s'.ownBlock = some b → s.ownBlock = some b ∨ w.heap.size ≤ b) : InsOut B s l w e w' := by
  subst hm; subst hn; exact ⟨s', he, ho, hk, hb⟩

set_option maxRecDepth 100000 in
set_option maxHeartbeats 2000000 in
theorem Insert_end {w : World} {B : Nat} {s lit : Value} {l : List Vt} {x : Vt} (ho : w.ownsRow B 29 2 s l.length (vcs l)) (hx : VRow w lit [x]) (hB : B ≤ w.heap.size) (hl : l.length ≤ 1000000) :
    Calls Try.prog 45 #[s, .int .i64 l.length, lit] w (InsOut B s (l ++ [x]) w) := by
  obtain ⟨A, cap, rfl⟩ := owns_slice0 ho
  obtain ⟨A', cap', rfl⟩ := hx.form
  have HO := Lib.hid ho
  have HX := Lib.hid hx
  clear ho hx
  obtain ⟨n, hn⟩ : ∃ n, l.length = n := ⟨_, rfl⟩
  have HN := Lib.hid hn
  rw [hn] at hl HO ⊢
  clear hn
  rw [show ([x] : List Vt).length = 1 from rfl] at HX ⊢
  have hlt : ¬ (n : Int) < (n : Int) := by omega
  have hcapn : n ≤ cap := by
    rcases HO.out.2 with ⟨e, h0⟩ | ⟨g, c, cur, e, _, _, hnc, _⟩
    · injection e with e1 e2 e3; omega
    · injection e with e1 e2 e3; omega
  by_cases hcn : cap = n
  · obtain rfl : n = cap := hcn.symm
    go_enter Try.func45, Try.ntmps45
    go_wp2_with (at_builtin; refine wpList_append_v _ rfl _ _ rfl B _ _ _ rfl HO.out _ [x] rfl HX.out ?c3 hB ?_)
    case c3 => first | omega | (simp; omega)
    intro v' w1 hown' hgrow hb
    obtain ⟨A2, c2, rfl⟩ := owns_slice0 hown'
    have hk := (Keep.refl (fun b => (Value.slice A n n).ownBlock = some b) w).grown hgrow (fun b _ e => e)
    have HH := Lib.hid (And.intro hown' (And.intro hk hb))
    clear hown' hgrow hb hk
    go_wp2
    go_ret
    exact InsOut.mk' (s' := .slice A2 (n + 1) c2) (m := l ++ [x]) rfl (by rw [vcs_append]; exact HH.out.1) rfl (by simp [HN.out]) HH.out.2.1 (fun b hb => HH.out.2.2.elim (fun e => .inl (e ▸ hb)) (fun e => .inr (by rw [e] at hb; injection hb with hb; omega)))
  · go_enter Try.func45, Try.ntmps45
    go_wp2_with (at_builtin; refine wpList_append_v _ rfl _ _ rfl B _ _ _ rfl HO.out _ [x] rfl HX.out ?c3 hB ?_)
    case c3 => first | omega | (simp; omega)
    intro v' w1 hown' hgrow hb
    obtain ⟨A2, c2, rfl⟩ := owns_slice0 hown'
    have hk := (Keep.refl (fun b => (Value.slice A n cap).ownBlock = some b) w).grown hgrow (fun b _ e => e)
    have HH := Lib.hid (And.intro hown' (And.intro hk hb))
    clear hown' hgrow hb hk
    go_wp2
    go_ret
    exact InsOut.mk' (s' := .slice A2 (n + 1) c2) (m := l ++ [x]) rfl (by rw [vcs_append]; exact HH.out.1) rfl (by simp [HN.out]) HH.out.2.1 (fun b hb => HH.out.2.2.elim (fun e => .inl (e ▸ hb)) (fun e => .inr (by rw [e] at hb; injection hb with hb; omega)))

theorem vcs_cons (x : Vt) (l : List Vt) : vcs (x :: l) = [.int .i64 x.p, .int .u64 x.g] ++ vcs l := rfl
theorem vcs_take (l : List Vt) (i : Nat) : vcs (l.take i) = (vcs l).take (i * 2) := by
  induction l generalizing i with
  | nil => simp [vcs]
  | cons x L ih =>
    cases i with
    | zero => simp [vcs]
    | succ i =>
      rw [List.take_succ_cons, vcs_cons, vcs_cons, ih, show (i + 1) * 2 = i * 2 + 1 + 1 by omega]
      rfl
theorem vcs_drop (l : List Vt) (i : Nat) : vcs (l.drop i) = (vcs l).drop (i * 2) := by
  induction l generalizing i with
  | nil => simp [vcs]
  | cons x L ih =>
    cases i with
    | zero => simp
    | succ i =>
      rw [List.drop_succ_cons, vcs_cons, ih, show (i + 1) * 2 = i * 2 + 1 + 1 by omega]
      rfl
theorem vcs_laid (l : List Vt) (i : Nat) (x : Vt) : vcs (l.take i ++ x :: l.drop i) = (vcs l).take (i * 2) ++ ([.int .i64 x.p, .int .u64 x.g] ++ (vcs l).drop (i * 2)) := by
  rw [vcs_append, vcs_cons, vcs_take, vcs_drop]
/-- A row in which all behind a place has gone on by one. -/
theorem shift_row {cur : Array Value} {l : List Vt} {x : Vt} {n cap i : Nat} (hsz : cur.size = cap * 2) (htk : cur.toList.take (n * 2) = vcs l) (hn : l.length = n) (hi : i ≤ n) (hroom : n + 1 ≤ cap) :
    (updC (updC cur ((i + 1) * 2) ((vcs l).drop (i * 2))) (i * 2) [.int .i64 x.p, .int .u64 x.g]).toList.take ((n + 1) * 2) = vcs (l.take i ++ x :: l.drop i) := by
  have hL : (vcs l).length = n * 2 := by rw [vcs_len, hn]
  rw [vcs_laid]
  apply List.ext_getElem?
  intro j
  by_cases hj : j < (n + 1) * 2
  · rw [List.getElem?_take_of_lt hj, Array.getElem?_toList, updC_get _ _ _ (by rw [updC_size, hsz]; simp; omega)]
    by_cases h1 : i * 2 ≤ j ∧ j < i * 2 + 2
    · rw [if_pos (by simpa using h1), List.getElem?_append_right (by simp; omega), List.getElem?_append_left (by simp; omega)]
      rw [List.length_take, hL, show min (i * 2) (n * 2) = i * 2 by omega]
    · rw [if_neg (by simpa using h1), updC_get _ _ _ (by rw [hsz, List.length_drop, hL]; omega)]
      by_cases h2 : j < i * 2
      · rw [if_neg (by omega), List.getElem?_append_left (by rw [List.length_take, hL]; omega), List.getElem?_take_of_lt h2, ← htk, List.getElem?_take_of_lt (by omega), Array.getElem?_toList]
      · rw [if_pos (by rw [List.length_drop, hL]; omega), List.getElem?_append_right (by rw [List.length_take, hL]; omega), List.getElem?_append_right (by simp; omega)]
        congr 1
        simp [List.length_take, hL]
        omega
  · rw [List.getElem?_take_eq_none (by omega), List.getElem?_eq_none (by simp [hL]; omega)]
theorem sizeVr : ∀ w : World, (Go.sizeOf 29).run Try.prog w = .ok 2 w := fun w => by kernel_rfl
theorem isSome_cells (b : Nat) (vs : List Value) (o : Nat) (w : World) (h : ∀ j, j < vs.length → (w.cell? ⟨b, o + j, none⟩).isSome = true) (k : Nat) (hk : (w.cell? ⟨b, k, none⟩).isSome = true) : ((w.setCells b o vs).cell? ⟨b, k, none⟩).isSome = true := by
  by_cases hin : o ≤ k ∧ k < o + vs.length
  · have := World.cell?_setCells_in b vs o w h (k - o) (by omega)
    rw [show o + (k - o) = k by omega] at this
    rw [this]; rfl
  · rw [World.cell?_setCells_out b vs o w ⟨b, k, none⟩ (fun _ _ => by show k < o ∨ o + vs.length ≤ k; omega)]
    exact hk

set_option maxRecDepth 100000 in
set_option maxHeartbeats 4000000 in
theorem Insert_shift {w : World} {B g vb n cap i : Nat} {cur : Array Value} {l : List Vt} {x : Vt} (hB : B ≤ g) (hh : w.heap[g]? = some (.cells cur 29 (0, 0))) (hm : cap ≤ maxLen) (hsz : cur.size = cap * 2) (htk : cur.toList.take (n * 2) = vcs l) (hn : l.length = n)
    (hv : w.heap[vb]? = some (.cells #[.int .i64 x.p, .int .u64 x.g] 29 (0, 0))) (hne : vb ≠ g) (hi : i < n) (hroom : n + 1 ≤ cap) (hl : n ≤ 1000000) :
    Calls Try.prog 45 #[.slice (some ⟨g, 0, none⟩) n cap, .int .i64 i, .slice (some ⟨vb, 0, none⟩) 1 1] w (InsOut B (.slice (some ⟨g, 0, none⟩) n cap) (l.take i ++ x :: l.drop i) w) := by
  have hz2 : ¬ ((i : Int) = (n : Int)) := by omega
  have hov : ∀ lb cb, (callFunc 76 #[.slice (some ⟨vb, 0, none⟩) 1 1, .slice (some ⟨g, (i + 1) * 2, none⟩) lb cb]).run Try.prog w = .ok (.value (.bool false)) w := fun lb cb => by
    rw [run_callFunc_extern Try.func76 (by kernel_rfl) (by kernel_rfl) (by kernel_rfl) (e := Extern.SlicesOverlaps.overlaps #[24, 24] #[4]) (by kernel_rfl),
      Lib.run_overlaps_apart w 24 4 29 Try.underlying24 2 sizeVr ⟨vb, 0, none⟩ ⟨g, (i + 1) * 2, none⟩ 1 1 lb cb hne _ _ _ _ (kb_shape hv) (kb_shape hh) (by omega) (kb_frozen hv 0) (kb_frozen hv _)]
    rfl
  have hw1 : IntKind.i64.wrap ((i : Int) + 1) = (i : Int) + 1 := by rw [IntKind.wrap_i64]; omega
  have hb1 : (0 : Int) ≤ (i : Int) + 1 := by omega
  have htn : ((i : Int) + 1).toNat = i + 1 := by omega
  have hb2 : ¬ (cap = i + 1) := by omega
  have hb3 : (i : Int) ≤ (n : Int) + 1 := by omega
  have hb4 : ¬ (cap = i) := by omega
  have hb5 : ((i : Int) + 1) ≤ (n : Int) + 1 := by omega
  have hL : (vcs l).length = n * 2 := by rw [vcs_len, hn]
  have hmin : Nat.min (n + 1 - i) (n - i) = n - i := by simp only [Nat.min_def]; split <;> omega
  have hcl : ∀ k, k < cap * 2 → (w.cell? ⟨g, k, none⟩).isSome = true := fun k hk => by rw [kb_cell hh, Array.getElem?_eq_getElem (by omega)]; rfl
  have hcp1 : ∀ ty, (Builtin.copy_ #[24, 24] ty #[.slice (some ⟨g, (i + 1) * 2, none⟩) (n - i) (cap - (i + 1)), .slice (some ⟨g, i * 2, none⟩) (n + 1 - i) (cap - i)]).run Try.prog w.drew = .ok (goInt (Nat.min (n + 1 - i) (n - i))) (w.drew.setCells g ((i + 1) * 2) ((vcs l).drop (i * 2))) := fun ty =>
    run_copy_v w.drew ty g ((i + 1) * 2) (n - i) (cap - (i + 1)) ⟨g, i * 2, none⟩ (n + 1 - i) (cap - i) ((vcs l).drop (i * 2)) (by rw [hmin, List.length_drop, hL]; omega)
      (fun j v hj => by
        rw [addr_add]
        rw [List.getElem?_drop] at hj
        show w.cell? _ = _
        rw [kb_cell hh, ← Array.getElem?_toList]
        rw [← htk, List.getElem?_take] at hj
        split at hj
        · exact hj
        · cases hj)
      (fun j hj => hcl _ (by rw [List.length_drop, hL] at hj; omega)) (fun j hj => kb_frozen (kb_drew hh) _) (fun v hv => vcs_one l v (List.mem_of_mem_drop hv))
  obtain ⟨W1, hW1⟩ : ∃ W1, W1 = w.drew.setCells g ((i + 1) * 2) ((vcs l).drop (i * 2)) := ⟨_, rfl⟩
  have K1 : Keep (fun b => b = g) w W1 := by rw [hW1]; exact keep_cells _ _ (Keep.refl _ w).drew (fun _ => rfl)
  have G1 : W1.heap[g]? = some (.cells (updC cur ((i + 1) * 2) ((vcs l).drop (i * 2))) 29 (0, 0)) := by rw [hW1]; exact setCells_at _ _ _ _ (kb_drew hh)
  have V1 := K1.kb hv hne
  rw [← hW1] at hcp1
  have hcp2 : ∀ ty, (Builtin.copy_ #[24, 24] ty #[.slice (some ⟨g, i * 2, none⟩) (n + 1 - i) (cap - i), .slice (some ⟨vb, 0, none⟩) 1 1]).run Try.prog W1 = .ok (goInt (Nat.min 1 (n + 1 - i))) (W1.setCells g (i * 2) [.int .i64 x.p, .int .u64 x.g]) := fun ty =>
    run_copy_v W1 ty g (i * 2) (n + 1 - i) (cap - i) ⟨vb, 0, none⟩ 1 1 [.int .i64 x.p, .int .u64 x.g] (by rw [show Nat.min 1 (n + 1 - i) = 1 by simp only [Nat.min_def]; split <;> omega]; rfl)
      (fun j v hj => by
        rw [addr_add, Nat.zero_add, kb_cell V1]
        simpa using hj)
      (fun j hj => by
        have hj : j < 2 := hj
        rw [kb_cell G1, Array.getElem?_eq_getElem (by rw [updC_size]; omega)]; rfl) (fun j hj => kb_frozen G1 _) (fun v hv => by
        rcases List.mem_cons.1 hv with rfl | hv
        · rfl
        · rw [List.mem_singleton.1 hv]; rfl)
  have G2 := setCells_at [.int .i64 x.p, .int .u64 x.g] W1 _ (i * 2) G1
  have K2 := keep_cells [.int .i64 x.p, .int .u64 x.g] (i * 2) K1 (g := g) (fun _ => rfl)
  have HG := Lib.hid (And.intro G2 K2)
  have HSR := Lib.hid (shift_row (x := x) (i := i) hsz htk hn (by omega) hroom)
  clear G1 V1 hmin G2 K2 K1 hcl hL
  have HH := Lib.hid (And.intro hh hv)
  have HN := Lib.hid hn
  have HS := Lib.hid hsz
  have HT := Lib.hid htk
  clear hh hv hn hsz htk hW1
  go_enter Try.func45, Try.ntmps45
  go_wp2_with (simp only [hov])
  go_region_law (refine step_copy_v rfl _ _ rfl _ _ (by simp [Act.eval, Act.put]) (by simp [Act.eval, Act.put]) hcp1 ?_)
  go_wp2_with (at_builtin; refine wpList_copy_v _ rfl _ _ rfl _ _ rfl rfl hcp2 ?_)
  go_ret
  refine InsOut.mk' (s' := .slice (some ⟨g, 0, none⟩) (n + 1) cap) (m := l.take i ++ x :: l.drop i) rfl ⟨?_, .inr ⟨g, cap, _, rfl, hB, HG.out.1, by omega, hm, by rw [updC_size, updC_size, HS.out], HSR.out⟩⟩ rfl (by simp [HN.out]; omega) (HG.out.2.mono (fun b _ e => by subst e; rfl)) (fun b hb => .inl hb)
  rw [vcs_len]; simp [HN.out]; omega
end Go.Proofs.Ytooghjnddifpdaa
end
