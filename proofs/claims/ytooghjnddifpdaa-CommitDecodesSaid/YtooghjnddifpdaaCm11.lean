/- place, cmp.Compare, slices.BinarySearchFunc over votes. -/
import Derived.Test.YtooghjnddifpdaaCm10
namespace Go.Proofs.Ytooghjnddifpdaa
open Go.RowKit Go.Proofs.Ytooghjnddifpdaa.Cm BigFrame
set_option linter.unusedSimpArgs false
set_option linter.unusedVariables false
attribute [local go_sem] cell_alloc_some frozen_alloc_some

theorem isNaN_any (x : Int) (w : World) : Calls Try.prog 97 #[.int .i64 x] w fun e w' => e = .returned (.bool false) ∧ w = w' := by
  go_enter Try.func97, Try.ntmps97
  go_wp2
  go_ret
  exact ⟨by first | rfl | exact ret_bool (by simp), rfl⟩
def cmpI (a b : Int) : Int := if a < b then -1 else if b < a then 1 else 0
theorem Compare_any (a b : Int) (w : World) : Calls Try.prog 75 #[.int .i64 a, .int .i64 b] w fun e w' => e = .returned (.int .i64 (cmpI a b)) ∧ w = w' := by
  by_cases h1 : a < b
  · have e : cmpI a b = -1 := by simp [cmpI, h1]
    rw [e]
    clear e
    go_enter Try.func75, Try.ntmps75
    go_wp2_with (go_at_call 97; (with_reducible refine (isNaN_any _ _).mono ?_); rintro e w1 ⟨rfl, rfl⟩)
    go_ret
    exact ⟨rfl, rfl⟩
  by_cases h2 : b < a
  · have e : cmpI a b = 1 := by simp [cmpI, h1, h2]
    rw [e]
    clear e
    go_enter Try.func75, Try.ntmps75
    go_wp2_with (go_at_call 97; (with_reducible refine (isNaN_any _ _).mono ?_); rintro e w1 ⟨rfl, rfl⟩)
    go_ret
    exact ⟨rfl, rfl⟩
  · have e : cmpI a b = 0 := by simp [cmpI, h1, h2]
    rw [e]
    clear e
    go_enter Try.func75, Try.ntmps75
    go_wp2_with (go_at_call 97; (with_reducible refine (isNaN_any _ _).mono ?_); rintro e w1 ⟨rfl, rfl⟩)
    go_ret
    exact ⟨rfl, rfl⟩
theorem place_any (v : Vt) (p : Int) (w : World) : Calls Try.prog 44 #[vtV v, .int .i64 p] w fun e w' => e = .returned (.int .i64 (cmpI v.p p)) ∧ Below w.heap.size w w' := by
  go_enter Try.func44, Try.ntmps44
  go_wp2_with (go_at_call 75; (with_reducible refine (Compare_any _ _ _).mono ?_); rintro e w1 ⟨rfl, rfl⟩)
  go_ret
  exact ⟨rfl, bl_alloc (Below.refl _ _) _⟩
theorem cmpI_neg (a b : Int) : decide (cmpI a b < 0) = decide (a < b) := by
  unfold cmpI
  split
  · simp [*]
  · split <;> simp [*]
theorem cmpI_eq (a b : Int) : (cmpI a b == 0) = decide (a = b) := by
  rw [Bool.eq_iff_iff]
  unfold cmpI
  split
  · simp; omega
  · split
    · simp; omega
    · simp; omega

theorem mono_p {l : List Vt} {a : Int} (hr : Rs a l) : ∀ {i j : Nat}, i < j → j < l.length → (vAt l i).p < (vAt l j).p := fun hij hj => hr.at_lt hij (vAt_some (by omega)) (vAt_some hj)
/-- Where a place is, or would be. -/
def BinOut (l : List Vt) (p : Int) (w : World) (e : Ending) (w' : World) : Prop := e = .returned (.tuple #[.int .i64 (cutN l p : Int), .bool (findV l p).isSome]) ∧ Below w.heap.size w w'
theorem BinOut.mk' {l : List Vt} {p a : Int} {w w' : World} {e : Ending} {i : Nat} {s : Bool} (hr : Rs a l) (h1 : i ≤ l.length) (h2 : ∀ j, j < i → (vAt l j).p < p) (h3 : ∀ j, i ≤ j → j < l.length → p ≤ (vAt l j).p) (hs : s = (decide (i < l.length) && decide ((vAt l i).p = p)))
    (he : e = .returned (.tuple #[.int .i64 (i : Int), .bool s])) (hb : Below w.heap.size w w') : BinOut l p w e w' := by
  have hc : cutN l p = i := cut_unique h1 (fun j v hj hv => by
    have h := vAt_some (l := l) (i := j) (by omega)
    rw [h] at hv
    injection hv with hv
    rw [← hv]
    exact h2 j hj) (fun v hv => by
    have hi := (List.getElem?_eq_some_iff.1 hv).1
    have h := vAt_some hi
    rw [h] at hv
    injection hv with hv
    rw [← hv]
    have := h3 i (by omega) hi
    omega)
  refine ⟨?_, hb⟩
  have hf : (findV l p).isSome = s := by
    rw [cut_find hr, hc, hs]
    by_cases hi : i < l.length
    · rw [vAt_some hi]
      by_cases e : (vAt l i).p = p
      · simp [hi, e]
      · simp [hi, e]
    · rw [List.getElem?_eq_none (by omega)]
      simp [hi]
  rw [he, hc, hf]

set_option maxRecDepth 100000 in
set_option maxHeartbeats 2000000 in
theorem BinarySearch_any {w : World} {v : Value} {l : List Vt} {a : Int} (p : Int) (hv : VRow w v l) (hr : Rs a l) (hl : l.length ≤ 1000000) :
    Calls Try.prog 43 #[v, .int .i64 p, .func (.func 44) #[] #[]] w (BinOut l p w) := by
  have HV0 := Lib.hid hv
  have HR := Lib.hid hr
  obtain ⟨A, cap, rfl⟩ := hv.form
  clear hv hr
  obtain ⟨n, hn⟩ : ∃ n, l.length = n := ⟨_, rfl⟩
  have HN := Lib.hid hn
  rw [hn] at hl HV0 ⊢
  clear hn
  go_enter Try.func43, Try.ntmps43
  go_wp2_with fail
  go_loopw [9, 10, 11, 15, 16, 17, 18, 19, 20, 21, 22, 23, 24, 25, 26, 27, 28, 29, 30, 31, 32, 33, 34] (fun s9 s10 _ _ _ _ _ _ _ _ _ _ _ _ _ _ _ _ _ _ _ _ _ wr => ∃ (i j : Nat), i ≤ j ∧ j ≤ n ∧ s9 = .int .i64 i ∧ s10 = .int .i64 j ∧ Hid (∀ k, k < i → (vAt l k).p < p) ∧ Hid (∀ k, j ≤ k → k < n → p ≤ (vAt l k).p) ∧ Below w.heap.size w wr) (fun s9 s10 _ _ _ _ _ _ _ _ _ _ _ _ _ _ _ _ _ _ _ _ _ _ => (intOf s10).toNat - (intOf s9).toNat)
  case atStart => exact ⟨0, n, by omega, by omega, rfl, rfl, fun k hk => by omega, fun k h1 h2 => by omega, Below.refl _ _⟩
  case round =>
    obtain ⟨i, j, hij, hjn, rfl, rfl, h1, h2, hbel⟩ := hrel
    have HBe := Lib.hid hbel
    by_cases hlt : i < j
    · obtain ⟨h, hh⟩ : ∃ h, h = (i + j) / 2 := ⟨_, rfl⟩
      have hhi : i ≤ h ∧ h < j := by omega
      obtain ⟨b, off, cap', hA, hbl, d0', d1'⟩ := HV0.out.at (i := h) (by rw [HN.out]; omega)
      have d0 := (hbel.cell (p := ⟨b, off + h * 2, none⟩) hbl).trans d0'
      have d1 := (hbel.cell (p := ⟨b, off + h * 2 + 1, none⟩) hbl).trans d1'
      obtain ⟨rfl, rfl⟩ : A = some ⟨b, off, none⟩ ∧ cap = cap' := by injection hA with h1 h2 h3; exact ⟨h1, h3⟩
      clear hA d0' d1' hbel
      have hq : ((i : Int) + (j : Int)) / 2 = (h : Int) := by omega
      have H1 := h1
      have H2 := h2
      have HN2 := Lib.hid (show ∀ (i j : Nat), i < j → j < l.length → (vAt l i).p < (vAt l j).p from fun i j => mono_p HR.out)
      have hb := And.intro hhi.1 (And.intro hhi.2 hh)
      have HH := Lib.hid hb
      clear hh hhi hb
      have hjl : (h : Int) < (n : Int) := by have := HH.out.2.1; omega
      have e1 := cmpI_neg (vAt l h).p p
      by_cases hp : (vAt l h).p < p
      · have hd : decide (cmpI (vAt l h).p p < 0) = true := by rw [e1]; simpa using hp
        have HP := Lib.hid hp
        clear hp e1
        go_wp2_with fail
        refine (place_any (vAt l h) p _).mono ?_
        rintro e w2 ⟨rfl, b2⟩
        have HB2 := Lib.hid (bl_then HBe.out b2)
        clear b2
        go_wp2_with fail
        have ha := HH.out
        go_roundw
        case rel => exact ⟨h + 1, j, by omega, hjn, by go_num, rfl, (fun k hk => by
          by_cases e : k = h
          · subst e; exact HP.out
          · have := HN2.out k h (by omega) (by rw [HN.out]; omega); have := HP.out; omega), H2.out, HB2.out⟩
        case measure => simp [intOf]; omega
      · have hd : decide (cmpI (vAt l h).p p < 0) = false := by rw [e1]; simpa using hp
        have HP := Lib.hid hp
        clear hp e1
        go_wp2_with fail
        refine (place_any (vAt l h) p _).mono ?_
        rintro e w2 ⟨rfl, b2⟩
        have HB2 := Lib.hid (bl_then HBe.out b2)
        clear b2
        go_wp2_with fail
        have ha := HH.out
        go_roundw
        case rel => exact ⟨i, h, by omega, by omega, rfl, rfl, H1.out, (fun k hk hkn => by
          by_cases e : k = h
          · subst e; have := HP.out; omega
          · have := HN2.out h k (by omega) (by rw [HN.out]; omega); have := HP.out; omega), HB2.out⟩
        case measure => simp [intOf]; omega
    · obtain rfl : i = j := by omega
      by_cases hin : i < n
      · obtain ⟨b, off, cap', hA, hbl, d0', d1'⟩ := HV0.out.at (i := i) (by rw [HN.out]; omega)
        have d0 := (hbel.cell (p := ⟨b, off + i * 2, none⟩) hbl).trans d0'
        have d1 := (hbel.cell (p := ⟨b, off + i * 2 + 1, none⟩) hbl).trans d1'
        obtain ⟨rfl, rfl⟩ : A = some ⟨b, off, none⟩ ∧ cap = cap' := by injection hA with h1 h2 h3; exact ⟨h1, h3⟩
        have H1 := h1
        have H2 := h2
        have hq := cmpI_eq (vAt l i).p p
        clear hA d0' d1' hbel h1 h2
        go_wp2_with fail
        refine (place_any (vAt l i) p _).mono ?_
        rintro e w2 ⟨rfl, b2⟩
        have HB2 := Lib.hid (bl_then HBe.out b2)
        clear b2
        go_wp2_with fail
        go_ret2
        exact BinOut.mk' (s := decide ((vAt l i).p = p)) HR.out (by rw [HN.out]; omega) H1.out (by rw [HN.out]; exact H2.out) (by simp [HN.out, hin]) rfl HB2.out
      · obtain rfl : i = n := by omega
        have H1 := h1
        have H2 := h2
        clear hbel h1 h2
        go_wp2_with fail
        go_ret2
        exact BinOut.mk' (s := false) HR.out (by rw [HN.out]; omega) H1.out (by rw [HN.out]; exact H2.out) (by simp [HN.out]) rfl HBe.out
end Go.Proofs.Ytooghjnddifpdaa
