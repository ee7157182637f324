/- Votes and commits are compared. -/
import Derived.Test.YtooghjnddifpdaaCm4
namespace Go.Proofs.Ytooghjnddifpdaa
open Go.RowKit Go.Proofs.Ytooghjnddifpdaa.Cm BigFrame
set_option linter.unusedSimpArgs false
set_option linter.unusedVariables false

/-- A vote as a value. -/
abbrev vtV (v : Vt) : Value := .agg #[.int .i64 v.p, .int .u64 v.g]
set_option maxRecDepth 100000 in
theorem vt_run (a b : Vt) (W : World) : (Op.equalIn 10000 29 (vtV a) (vtV b)).run Try.prog W = .ok (decide (a = b)) W := by
  rw [show (10000 : Nat) = 9998 + 1 + 1 from rfl, run_equalIn_agg W 9999 _ _ _ (by kernel_rfl) (by kernel_rfl)]
  have hf : Try.prog.fieldsOf 29 = (match Try.prog.underlying 29 with | some (.struct fs) => fs | _ => #[]) := rfl
  rw [hf, Try.underlying29]
  have ui := Try.underlying3
  have uu := Try.underlying27
  have e : decide (a = b) = (a.p == b.p && (a.g : Int) == (b.g : Int)) := by
    rw [Bool.eq_iff_iff]
    cases a; cases b
    simp
    intro _; omega
  rw [e]
  cases h : (a.p == b.p) <;> simp [Op.eqFields, go_sem, ui, uu, h]
  by_cases k : (a.g : Int) = (b.g : Int)
  · rw [if_pos k, beq_iff_eq.2 k]
  · rw [if_neg k, beq_eq_false_iff_ne.2 k]
theorem eql_vt (a b : Vt) (W : World) : (binOp .eql 29 (vtV a) (vtV b)).run Try.prog W = .ok (.bool (decide (a = b))) W := by
  rw [run_eql_struct, vt_run]; rfl
theorem neq_vt (a b : Vt) (W : World) : (binOp .neq 29 (vtV a) (vtV b)).run Try.prog W = .ok (.bool (!decide (a = b))) W := by
  rw [run_neq_struct, vt_run]; rfl
theorem ext_at {l m : List Vt} (hl : l.length = m.length) (h : ∀ j, j < l.length → vAt l j = vAt m j) : l = m := by
  apply List.ext_getElem? 
  intro i
  by_cases hi : i < l.length
  · rw [vAt_some hi, vAt_some (by omega), h i hi]
  · rw [List.getElem?_eq_none (by omega), List.getElem?_eq_none (by omega)]
/-- Are so many votes alike? -/
def SameTo (l m : List Vt) (k : Nat) (s : Bool) : Prop := if s = true then l.length = m.length ∧ ∀ j, j < k → vAt l j = vAt m j else l ≠ m
theorem SameTo.end {l m : List Vt} (h : SameTo l m l.length true) : decide (l = m) = true := by
  unfold SameTo at h
  rw [if_pos rfl] at h
  simpa using ext_at h.1 h.2
theorem SameTo.no {l m : List Vt} {k : Nat} (h : SameTo l m k false) : decide (l = m) = false := by
  unfold SameTo at h
  rw [if_neg (by simp)] at h
  simpa using h
theorem SameTo.next {l m : List Vt} {k : Nat} (h : SameTo l m k true) (hk : k < l.length) : SameTo l m (k + 1) (decide (vAt l k = vAt m k)) := by
  unfold SameTo at h ⊢
  rw [if_pos rfl] at h
  by_cases e : vAt l k = vAt m k
  · rw [if_pos (by simpa using e)]
    refine ⟨h.1, fun j hj => ?_⟩
    by_cases e' : j = k
    · subst e'; exact e
    · exact h.2 j (by omega)
  · rw [if_neg (by simpa using e)]
    rintro rfl
    exact e rfl
theorem SameTo.zero (l m : List Vt) : SameTo l m 0 (decide (l.length = m.length)) := by
  unfold SameTo
  by_cases e : l.length = m.length
  · rw [if_pos (by simpa using e)]; exact ⟨e, fun j hj => by omega⟩
  · rw [if_neg (by simpa using e)]; rintro rfl; exact e rfl

set_option maxRecDepth 100000 in
set_option maxHeartbeats 2000000 in
theorem SameVotes_any {w : World} {u v : Value} {l m : List Vt} (hu : VRow w u l) (hv : VRow w v m) (hl : l.length ≤ 1000000) (hm : m.length ≤ 1000000) :
    Calls Try.prog 49 #[u, v] w fun e w' => e = .returned (.bool (decide (l = m))) ∧ Below w.heap.size w w' := by
  have HU := Lib.hid hu
  have HV := Lib.hid hv
  obtain ⟨A, cap, rfl⟩ := hu.form
  obtain ⟨A', cap', rfl⟩ := hv.form
  clear hu hv
  obtain ⟨r, hr⟩ : ∃ r, decide (l = m) = r := ⟨_, rfl⟩
  have HR := Lib.hid hr
  have hz := SameTo.zero l m
  obtain ⟨n, hn⟩ : ∃ n, l.length = n := ⟨_, rfl⟩
  obtain ⟨n', hn'⟩ : ∃ n', m.length = n' := ⟨_, rfl⟩
  have HN := Lib.hid hn
  have HN' := Lib.hid hn'
  have hee : ((n : Int) == (n' : Int)) = decide (n = n') := by rw [Bool.eq_iff_iff]; simp; omega
  rw [hn, hn'] at hz
  rw [hn] at hl HU ⊢
  rw [hn'] at hm HV ⊢
  rw [hr]
  have HZ := Lib.hid hz
  clear hn hn' hr hz
  generalize decide (n = n') = s0 at *
  go_enter Try.func49, Try.ntmps49
  go_wp2_with fail
  clear hee
  go_loopw [5, 6, 12, 13, 14, 15, 16, 17, 18, 19, 20, 21, 22, 23, 24, 25, 26, 27, 28, 29] (fun s5 s6 _ _ _ _ _ _ _ _ _ _ _ _ _ _ _ _ _ _ wr => ∃ (k : Nat) (s : Bool), k ≤ n ∧ s6 = .int .i64 k ∧ s5 = .bool s ∧ SameTo l m k s ∧ Below w.heap.size w wr) (fun _ s6 _ _ _ _ _ _ _ _ _ _ _ _ _ _ _ _ _ _ _ => n - (intOf s6).toNat)
  case atStart => exact ⟨0, s0, by omega, rfl, rfl, HZ.out, Below.refl _ _⟩
  case round =>
    obtain ⟨k, s, hk, rfl, rfl, hS, hbel⟩ := hrel
    have HS := Lib.hid hS
    have HBe := Lib.hid hbel
    cases s with
    | false =>
      have HE := Lib.hid hS.no
      clear hS hbel
      go_wp2_with fail
      go_ret
      exact ⟨ret_bool (by rw [← HR.out, HE.out]), HBe.out⟩
    | true =>
      by_cases hlt : k < n
      · have hle : n = n' := by have := HS.out; unfold SameTo at this; rw [if_pos rfl, HN.out, HN'.out] at this; exact this.1
        have hlt' : k < n' := by omega
        obtain ⟨b, off, c1, hA, hbl, d0', d1'⟩ := HU.out.at (i := k) (by rw [HN.out]; exact hlt)
        obtain ⟨b', off', c2, hA', hbl', e0', e1'⟩ := HV.out.at (i := k) (by rw [HN'.out]; omega)
        have d0 := (hbel.cell (p := ⟨b, off + k * 2, none⟩) hbl).trans d0'
        have d1 := (hbel.cell (p := ⟨b, off + k * 2 + 1, none⟩) hbl).trans d1'
        have e0 := (hbel.cell (p := ⟨b', off' + k * 2, none⟩) hbl').trans e0'
        have e1 := (hbel.cell (p := ⟨b', off' + k * 2 + 1, none⟩) hbl').trans e1'
        obtain ⟨rfl, rfl⟩ : A = some ⟨b, off, none⟩ ∧ cap = c1 := by injection hA with h1 h2 h3; exact ⟨h1, h3⟩
        obtain ⟨rfl, rfl⟩ : A' = some ⟨b', off', none⟩ ∧ cap' = c2 := by injection hA' with h1 h2 h3; exact ⟨h1, h3⟩
        have HX := Lib.hid (HS.out.next (by rw [HN.out]; exact hlt))
        have hq := eql_vt (vAt l k) (vAt m k)
        clear hA d0' d1' hA' e0' e1' hbel hS hle
        generalize decide (vAt l k = vAt m k) = s1 at *
        go_wp2_with fail
        go_quiet (fail)
        go_wp2_with fail
        go_roundw
        case rel => exact ⟨k + 1, s1, by omega, by go_num, rfl, HX.out, bl_drewN HBe.out _⟩
        case measure => simp [intOf]; omega
      · obtain rfl : k = n := by omega
        have HE := Lib.hid (SameTo.end (l := l) (m := m) (by rw [HN.out]; exact hS))
        clear hS hbel
        go_wp2_with fail
        go_ret
        exact ⟨ret_bool (by rw [← HR.out, HE.out]), HBe.out⟩

theorem eql_hash (a b : List UInt8) (ha : a.length = 32) (hb : b.length = 32) (W : World) : (binOp .eql 23 (.agg (u8s a).toArray) (.agg (u8s b).toArray)).run Try.prog W = .ok (.bool (a == b)) W :=
  run_eql_bytes Try.underlying23 a b ha hb W
theorem neq_hash (a b : List UInt8) (ha : a.length = 32) (hb : b.length = 32) (W : World) : (binOp .neq 23 (.agg (u8s a).toArray) (.agg (u8s b).toArray)).run Try.prog W = .ok (.bool (!(a == b))) W :=
  run_neq_bytes Try.underlying23 a b ha hb W
end Go.Proofs.Ytooghjnddifpdaa
