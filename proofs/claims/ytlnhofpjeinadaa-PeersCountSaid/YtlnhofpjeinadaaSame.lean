/- landfallkit.SameInts. -/
import Derived.Test.YtlnhofpjeinadaaRow
import Derived.WalkKit
namespace Go.Proofs.Ytlnhofpjeinadaa
open Go.RowKit

def intVs (xs : List Int) : List Value := xs.map (.int .i64)
theorem intVs_len (xs : List Int) : (intVs xs).length = xs.length := by simp [intVs]

set_option maxHeartbeats 1000000 in
theorem SameInts_len (A1 A2 : Option Addr) (n1 n2 c1 c2 : Nat) (w : World) (_ : n1 ≤ 70368744177664) (_ : n2 ≤ 70368744177664) (hne : n1 ≠ n2) :
    Calls Try.prog 8 #[.slice A1 n1 c1, .slice A2 n2 c2] w fun e w' => e = .returned (.bool false) ∧ Below w.heap.size w w' := by
  have hd : ((n1 : Int) == (n2 : Int)) = false := by simp; omega
  have hd' : (n1 == n2) = false := by simpa using hne
  clear hne
  go_enter Try.func8, Try.ntmps8
  go_wp2
  go_loopw [5, 6, 12, 13, 14, 15, 16, 17, 18, 19, 20, 21, 22, 23, 24, 25, 26, 27, 28, 29] (fun s5 s6 _ _ _ _ _ _ _ _ _ _ _ _ _ _ _ _ _ _ wr => s5 = .bool false ∧ s6 = .int .i64 0 ∧ Below w.heap.size w wr) (fun _ _ _ _ _ _ _ _ _ _ _ _ _ _ _ _ _ _ _ _ _ => 0)
  case atStart => exact ⟨rfl, rfl, Below.refl _ _⟩
  case round =>
    obtain ⟨rfl, rfl, hb⟩ := hrel
    go_wp2
    go_ret
    exact ⟨rfl, hb⟩

set_option maxHeartbeats 1000000 in
theorem SameInts_nil (A1 A2 : Option Addr) (c1 c2 : Nat) (w : World) :
    Calls Try.prog 8 #[.slice A1 0 c1, .slice A2 0 c2] w fun e w' => e = .returned (.bool true) ∧ Below w.heap.size w w' := by
  go_enter Try.func8, Try.ntmps8
  go_wp2
  go_loopw [5, 6, 12, 13, 14, 15, 16, 17, 18, 19, 20, 21, 22, 23, 24, 25, 26, 27, 28, 29] (fun s5 s6 _ _ _ _ _ _ _ _ _ _ _ _ _ _ _ _ _ _ wr => s5 = .bool true ∧ s6 = .int .i64 0 ∧ Below w.heap.size w wr) (fun _ _ _ _ _ _ _ _ _ _ _ _ _ _ _ _ _ _ _ _ _ => 0)
  case atStart => exact ⟨rfl, rfl, Below.refl _ _⟩
  case round =>
    obtain ⟨rfl, rfl, hb⟩ := hrel
    go_wp2
    go_ret
    exact ⟨rfl, hb⟩

theorem take_eq_next {xs ys : List Int} {k : Nat} (hx : k < xs.length) (hy : k < ys.length) (h : xs.take k = ys.take k) : (xs.take (k + 1) == ys.take (k + 1)) = (xs[k] == ys[k]) := by
  rw [List.take_add_one, List.take_add_one, List.getElem?_eq_getElem hx, List.getElem?_eq_getElem hy, h]
  by_cases e : xs[k] = ys[k]
  · simp [e]
  · have e1 : (xs[k] == ys[k]) = false := by simpa using e
    rw [e1, beq_eq_false_iff_ne]
    intro h2
    exact e (by simpa using List.append_cancel_left h2)

set_option maxHeartbeats 1000000 in
theorem SameInts_eq (b1 o1 b2 o2 c1 c2 : Nat) (xs ys : List Int) (w : World) (h1 : xs.length ≤ 70368744177664) (hl : ys.length = xs.length) (k1 : b1 < w.heap.size) (k2 : b2 < w.heap.size)
    (hx : ∀ j (hj : j < xs.length), w.cell? ⟨b1, o1 + j, none⟩ = some (.int .i64 xs[j])) (hy : ∀ j (hj : j < ys.length), w.cell? ⟨b2, o2 + j, none⟩ = some (.int .i64 ys[j])) :
    Calls Try.prog 8 #[.slice (some ⟨b1, o1, none⟩) xs.length c1, .slice (some ⟨b2, o2, none⟩) xs.length c2] w fun e w' => e = .returned (.bool (xs == ys)) ∧ Below w.heap.size w w' := by
  have HX := Lib.hid hx
  have HY := Lib.hid hy
  have HL := Lib.hid hl
  clear hx hy hl
  go_enter Try.func8, Try.ntmps8
  go_wp2
  go_loopw [5, 6, 12, 13, 14, 15, 16, 17, 18, 19, 20, 21, 22, 23, 24, 25, 26, 27, 28, 29] (fun s5 s6 _ _ _ _ _ _ _ _ _ _ _ _ _ _ _ _ _ _ wr => ∃ k : Nat, k ≤ xs.length ∧ s5 = .bool (xs.take k == ys.take k) ∧ s6 = .int .i64 k ∧ Below w.heap.size w wr) (fun _ s6 _ _ _ _ _ _ _ _ _ _ _ _ _ _ _ _ _ _ _ => xs.length - (intOf s6).toNat)
  case atStart => exact ⟨0, by omega, by simp, rfl, Below.refl _ _⟩
  case round =>
    obtain ⟨k, hk, rfl, rfl, hb⟩ := hrel
    cases hq : (xs.take k == ys.take k)
    · have hne : (xs == ys) = false := by
        rw [beq_eq_false_iff_ne] at hq ⊢
        intro e; exact hq (by rw [e])
      have HN := Lib.hid hne
      clear hq hne
      go_wp2
      go_ret
      exact ⟨ret_bool HN.out.symm, hb⟩
    · have hq' : xs.take k = ys.take k := by simpa using hq
      clear hq
      by_cases hlt : k < xs.length
      · have hly : k < ys.length := by have := HL.out; omega
        have g1 := (hb.cell (by exact k1)).trans (HX.out k hlt)
        have g2 := (hb.cell (by exact k2)).trans (HY.out k hly)
        have HQ := Lib.hid (take_eq_next hlt hly hq')
        clear hq'
        have hil : ((k : Nat) : Int) < (xs.length : Int) := by omega
        generalize xs[k] = x at *
        generalize ys[k] = y at *
        go_wp2
        go_quiet (fail)
        go_wp2
        go_roundw
        case rel => exact ⟨k + 1, by omega, by rw [HQ.out], by go_num, bl_drewN hb _⟩
        case measure => simp [intOf]; omega
      · obtain rfl : k = xs.length := by omega
        have HE := Lib.hid (show (xs == ys) = true by
          rw [List.take_length, ← HL.out, List.take_length] at hq'
          simpa using hq')
        clear hq'
        go_wp2
        go_ret
        exact ⟨ret_bool HE.out.symm, hb⟩

theorem SameInts_any {w : World} {v1 v2 : Value} {xs ys : List Int} (R1 : RowOf w v1 xs.length (intVs xs)) (R2 : RowOf w v2 ys.length (intVs ys)) (h1 : xs.length ≤ 70368744177664) (h2 : ys.length ≤ 70368744177664) :
    Calls Try.prog 8 #[v1, v2] w fun e w' => e = .returned (.bool (xs == ys)) ∧ Below w.heap.size w w' := by
  obtain ⟨A1, c1, rfl, _, r1⟩ := R1
  obtain ⟨A2, c2, rfl, _, r2⟩ := R2
  by_cases hl : ys.length = xs.length
  · rcases Nat.eq_zero_or_pos xs.length with h0 | h0
    · obtain rfl : xs = [] := List.eq_nil_of_length_eq_zero h0
      obtain rfl : ys = [] := List.eq_nil_of_length_eq_zero (by omega)
      exact SameInts_nil A1 A2 c1 c2 w
    · obtain ⟨b1, o1, rfl, l1, q1⟩ := r1 h0
      obtain ⟨b2, o2, rfl, l2, q2⟩ := r2 (by omega)
      rw [hl]
      exact SameInts_eq b1 o1 b2 o2 c1 c2 xs ys w h1 hl l1 l2 (fun j hj => q1 j _ (by simp [intVs, hj])) (fun j hj => q2 j _ (by simp [intVs, hj]))
  · have e : (xs == ys) = false := by
      rw [beq_eq_false_iff_ne]
      intro e; exact hl (by rw [e])
    rw [e]
    exact SameInts_len A1 A2 _ _ c1 c2 w h1 h2 (fun e => hl e.symm)
end Go.Proofs.Ytlnhofpjeinadaa
