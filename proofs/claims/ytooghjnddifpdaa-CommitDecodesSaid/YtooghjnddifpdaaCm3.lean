/- The document's Check. -/
import Derived.Test.YtooghjnddifpdaaCm2
namespace Go.Proofs.Ytooghjnddifpdaa
open Go.RowKit Go.Proofs.Ytooghjnddifpdaa.Cm BigFrame
set_option linter.unusedSimpArgs false
set_option linter.unusedVariables false

/-- The place ahead of a vote's. -/
def lastP (l : List Vt) : Nat → Int
  | 0 => -1
  | k + 1 => (vAt l k).p
theorem rise_3 {last : Int} {v : Vt} (h : v.p < 0 ∨ 64 ≤ v.p) : (riseS last v).1 = 3 := by simp [riseS, h]
theorem rise_9 {last : Int} {v : Vt} (h : ¬ (v.p < 0 ∨ 64 ≤ v.p)) (h2 : v.p ≤ last) : (riseS last v).1 = 9 := by simp [riseS, h, h2]
theorem rise_0 {last : Int} {v : Vt} (h : ¬ (v.p < 0 ∨ 64 ≤ v.p)) (h2 : ¬ v.p ≤ last) : riseS last v = (0, v.p) := by simp [riseS, h, h2]
theorem ChkAt.go {l : List Vt} {i : Nat} (h : ChkAt l (lastP l i) i) (hi : i < l.length) (h1 : ¬ ((vAt l i).p < 0 ∨ 64 ≤ (vAt l i).p)) (h2 : ¬ (vAt l i).p ≤ lastP l i) : ChkAt l (lastP l (i + 1)) (i + 1) := by
  have e := rise_0 h1 h2
  have k := h.next hi (by rw [e])
  rw [e] at k
  exact k

set_option maxRecDepth 100000 in
set_option maxHeartbeats 2000000 in
theorem rCheck_any' {w : World} {c : C} {v : Value} (hx : c.x.length = 32) (hv : VRow w v c.vs) (hl : c.vs.length ≤ 1000000) :
    Calls Try.prog 37 #[.agg (ccs c v).toArray] w (ChkOut c w) := by
  have q0 := ccs_0 c v
  have q33 := ccs_33 hx v
  have D0 : (w.alloc (.cells (ccs c v).toArray 26)).heap[w.heap.size]? = some _ := kb_new rfl _
  have b0 : Below w.heap.size w (w.alloc (.cells (ccs c v).toArray 26)) := bl_alloc (Below.refl _ _) _
  have c0 := (kb_cell D0 0).trans (by simpa using q0)
  have c33 := (kb_cell D0 33).trans (by simpa using q33)
  have HB := Lib.hid b0
  have HV0 := Lib.hid hv
  obtain ⟨A, cap, hvv⟩ := hv.form
  subst hvv
  clear hv b0 hx
  obtain ⟨n, hn⟩ : ∃ n, c.vs.length = n := ⟨_, rfl⟩
  have HN := Lib.hid hn
  rw [hn] at hl D0 c0 c33 HV0 HB q0 q33 ⊢
  clear hn
  by_cases h1 : c.h < 1
  · have e := chk_1 (c := c) (.inl h1)
    have HE := Lib.hid e
    clear e
    go_enter Try.func37, Try.ntmps37
    go_wp2_with fail
    go_ret
    exact ChkOut.mk' rfl (by rw [HE.out]; rfl) HB.out
  by_cases h2 : 1073741824 < c.h
  · have e := chk_1 (c := c) (.inr h2)
    have HE := Lib.hid e
    clear e
    go_enter Try.func37, Try.ntmps37
    go_wp2_with fail
    go_ret
    exact ChkOut.mk' rfl (by rw [HE.out]; rfl) HB.out
  by_cases h3 : 64 < n
  · have e := chk_2 (c := c) (by omega) (by rw [HN.out]; exact h3)
    have HE := Lib.hid e
    clear e
    go_enter Try.func37, Try.ntmps37
    go_wp2_with fail
    go_ret
    exact ChkOut.mk' rfl (by rw [HE.out]; rfl) HB.out
  have e := chk_3 (c := c) (by omega) (by rw [HN.out]; exact h3)
  have HE := Lib.hid e
  clear e
  go_enter Try.func37, Try.ntmps37
  go_wp2_with fail
  obtain ⟨wb, hwb⟩ : ∃ wb : World, wb = w.alloc (.cells (ccs c (.slice A n cap)).toArray 26) := ⟨_, rfl⟩
  have HW := Lib.hid (show Below w.heap.size w wb by rw [hwb]; exact HB.out)
  have HK := Lib.hid (show wb.cell? ⟨w.heap.size, 33, none⟩ = some (.slice A n cap) by rw [hwb]; exact c33)
  rw [← hwb]
  clear hwb D0 c0 c33 HB q0 q33
  go_loopw [3, 18, 19, 20, 21, 22, 23, 24, 25, 26, 27, 28, 29, 30, 31, 32, 33, 34, 35, 36, 37, 38, 39, 40, 41, 42, 43, 44, 45, 46, 47, 48, 49, 50, 51, 52, 53, 54, 55, 56, 57, 58, 59, 60] (fun s3 _ _ _ _ _ _ _ _ _ _ _ _ _ _ _ _ _ _ _ _ _ _ _ _ _ _ _ _ _ _ _ _ _ _ _ _ _ _ _ _ _ _ _ wr => ∃ (k : Nat), k ≤ n ∧ s3 = .int .i64 k ∧ ChkAt c.vs (lastP c.vs k) k ∧ wr.cell? ⟨w.heap.size, 33, none⟩ = some (.slice A n cap) ∧ Below w.heap.size w wr) (fun s3 _ _ _ _ _ _ _ _ _ _ _ _ _ _ _ _ _ _ _ _ _ _ _ _ _ _ _ _ _ _ _ _ _ _ _ _ _ _ _ _ _ _ _ _ => n - (intOf s3).toNat)
  case atStart => exact ⟨0, by omega, rfl, ChkAt.zero _, HK.out, HW.out⟩
  case round =>
    obtain ⟨k, hk, rfl, hC, h33, hbel⟩ := hrel
    have HC := Lib.hid hC
    have HBe := Lib.hid hbel
    have H33 := Lib.hid h33
    by_cases hlt : k < n
    · have hkl : k < c.vs.length := by rw [HN.out]; exact hlt
      obtain ⟨b, off, cap', hA, hbl, d0', d1'⟩ := HV0.out.at hkl
      have d0 := (hbel.cell (p := ⟨b, off + k * 2, none⟩) hbl).trans d0'
      obtain ⟨rfl, rfl⟩ : A = some ⟨b, off, none⟩ ∧ cap = cap' := by injection hA with h1 h2 h3; exact ⟨h1, h3⟩
      have HKL := Lib.hid hkl
      clear hA hC hkl d0' d1'
      by_cases p1 : (vAt c.vs k).p < 0
      · have H0 := Lib.hid (HC.out.bad HKL.out (rise_3 (.inl p1)) (by decide))
        clear hbel
        go_wp2_with fail
        go_ret
        exact ChkOut.mk' rfl (by rw [HE.out]; exact H0.out) HBe.out
      by_cases p2 : 64 ≤ (vAt c.vs k).p
      · have H0 := Lib.hid (HC.out.bad HKL.out (rise_3 (.inr p2)) (by decide))
        clear hbel
        go_wp2_with fail
        go_ret
        exact ChkOut.mk' rfl (by rw [HE.out]; exact H0.out) HBe.out
      have hp : ¬ ((vAt c.vs k).p < 0 ∨ 64 ≤ (vAt c.vs k).p) := by omega
      cases k with
      | zero =>
        have hq : decide ((0 : Int) < ((0 : Nat) : Int)) = false := by decide
        have H1 := Lib.hid (HC.out.go HKL.out hp (by show ¬ _ ≤ (-1 : Int); omega))
        rw [Nat.zero_mul, Nat.add_zero] at d0
        clear hbel hp
        go_wp2_with fail
        go_quiet (fail)
        go_wp2_with fail
        go_roundw
        case rel => exact ⟨1, by omega, by go_num, H1.out, H33.out, bl_drewN HBe.out _⟩
        case measure => simp [intOf]; omega
      | succ k =>
        obtain ⟨b', off', cap2, hA, _, e0', _⟩ := HV0.out.at (i := k) (by have := HKL.out; omega)
        obtain ⟨rfl, rfl⟩ : b = b' ∧ off = off' := by injection hA with h1 h2 h3; injection h1 with h1; injection h1 with h1 h4; exact ⟨h1, h4⟩
        have e0 := (hbel.cell (p := ⟨b, off + k * 2, none⟩) hbl).trans e0'
        clear hA e0'
        have hs : (((k + 1 : Nat) : Int) - 1) = (k : Int) := by omega
        by_cases p3 : (vAt c.vs (k + 1)).p ≤ (vAt c.vs k).p
        · have H0 := Lib.hid (HC.out.bad HKL.out (rise_9 hp p3) (by decide))
          clear hbel hp
          go_wp2_with fail
          go_quiet (fail)
          go_wp2_with fail
          go_ret
          exact ChkOut.mk' rfl (by rw [HE.out]; exact H0.out) (bl_drewN HBe.out _)
        · have H1 := Lib.hid (HC.out.go HKL.out hp p3)
          clear hbel hp
          go_wp2_with fail
          go_quiet (fail)
          go_wp2_with fail
          go_roundw
          case rel => exact ⟨k + 2, by omega, by go_num, H1.out, H33.out, bl_drewN HBe.out _⟩
          case measure => simp [intOf]; omega
    · obtain rfl : k = n := by omega
      have h0 := hC
      rw [← HN.out] at h0
      have H0 := Lib.hid h0.end
      clear h0 hC hbel
      go_wp2
      go_ret
      exact ChkOut.mk' rfl (by rw [HE.out, H0.out]; rfl) HBe.out
end Go.Proofs.Ytooghjnddifpdaa
