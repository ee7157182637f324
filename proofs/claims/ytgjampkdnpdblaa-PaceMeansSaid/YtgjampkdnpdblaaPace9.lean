/- PaceMeans: the walk at every slice. -/
import Derived.Test.YtgjampkdnpdblaaPace8
namespace Go.Proofs.Ytgjampkdnpdblaa
open Go.RowKit Go.Proofs.Ytgjampkdnpdblaa.Pc BigFrame

set_option maxHeartbeats 400000 in
theorem paces_empty (a0 : Option Addr) (cap : Nat) (w : World) :
    Calls Try.prog 12 #[.slice a0 0 cap] w fun e w' => ∃ v, e = .returned v ∧ w'.ownsRow w.heap.size 23 1 v 0 (pcs []) ∧ Below w.heap.size w w' := by
  go_enter Try.func12, Try.ntmps12
  go_wp2
  go_loopw [3, 4, 5, 6, 7, 8, 9, 10, 11, 12, 13, 14, 15, 16, 17, 18] (fun v i _ _ _ _ _ _ _ _ _ _ _ _ _ _ wr => v = .slice none 0 0 ∧ i = .int .i64 0 ∧ Below w.heap.size w wr)
    (fun _ i _ _ _ _ _ _ _ _ _ _ _ _ _ _ _ => 0)
  case atStart => exact ⟨rfl, rfl, Below.refl _ _⟩
  case round =>
    obtain ⟨rfl, rfl, hnx⟩ := hrel
    go_wp2
    go_ret
    exact ⟨_, rfl, World.ownsRow_nil _ _ _ _, hnx⟩

set_option maxRecDepth 100000 in
set_option maxHeartbeats 1000000 in
theorem PaceMeans_long (a0 : Option Addr) (len cap : Nat) (w : World) (h : 60 < len) :
    Calls Try.prog 4 #[.slice a0 len cap] w fun e w' => e = .returned (.bool true) ∧ Below w.heap.size w w' := by
  go_enter Try.func4, Try.ntmps4
  go_wp2_with (go_at_call 11; (with_reducible refine (awake_any _).mono ?_); rintro e w1 ⟨rfl, hb1⟩; have hz1 := hb1.size)
  go_ret
  exact ⟨rfl, by (repeat (with_reducible (first | exact Below.refl _ _ | assumption | refine bl_alloc ?_ _ | refine bl_drew ?_ | refine bl_drewN ?_ _ | (refine bl_set ?_ ?_ _; (focus (first | (simp; done) | (simp; omega) | omega))) | refine bl_then ?_ (by assumption))))⟩

set_option maxRecDepth 100000 in
set_option maxHeartbeats 1000000 in
theorem PaceMeans_none (a0 : Option Addr) (cap : Nat) (w : World) :
    Calls Try.prog 4 #[.slice a0 0 cap] w fun e w' => e = .returned (.bool true) ∧ Below w.heap.size w w' := by
  have hs : Small [] := ⟨by decide, fun x hx => by cases hx⟩
  go_enter Try.func4, Try.ntmps4
  go_wp2_with fail
  refine (paces_empty _ _ _).mono ?_
  rintro e w1 ⟨v1, rfl, O1, b1⟩
  go_wp2_with fail
  refine (Mean_owns O1 hs).mono ?_
  rintro e w2 ⟨r1, rfl, e1, _, b2⟩
  have E1 := Lib.hid e1
  clear e1
  have b12 := bl_then b1 b2
  go_wp2_with fail
  refine (paces_empty _ _ _).mono ?_
  rintro e w3 ⟨v3, rfl, O3, b3⟩
  have b13 := bl_then b12 b3
  go_wp2_with fail
  refine (rMean_owns O3 hs).mono ?_
  rintro e w4 ⟨r2, rfl, e2, _, b4⟩
  have E2 := Lib.hid e2
  clear e2
  have b14 := bl_then b13 b4
  go_wp2_with fail
  refine (same_t r1 r2 _ (E1.out.trans E2.out.symm)).mono ?_
  rintro e w5 ⟨rfl, rfl⟩
  go_wp2_with fail
  have b24 : Below w1.heap.size w1 w4 := bl_then (bl_then b2 b3) b4
  refine (Least_owns (owns_below O1 b24) hs).mono ?_
  rintro e w5 ⟨rfl, b5⟩
  have b15 := bl_then b14 b5
  go_wp2_with fail
  refine (paces_empty _ _ _).mono ?_
  rintro e w6 ⟨v6, rfl, O6, b6⟩
  have b16 := bl_then b15 b6
  go_wp2_with fail
  refine (rLeast_owns O6 hs).mono ?_
  rintro e w7 ⟨rfl, b7⟩
  have b17 := bl_then b16 b7
  go_wp2_with fail
  go_loopw [4, 5, 26, 27, 28, 29, 30, 31, 32, 33, 34, 35, 36, 37, 38, 39, 40, 41, 42, 43, 44, 45, 46, 47, 48, 49, 50, 51, 52, 53, 54, 55, 56, 57, 58, 59, 60] (fun f i _ _ _ _ _ _ _ _ _ _ _ _ _ _ _ _ _ _ _ _ _ _ _ _ _ _ _ _ _ _ _ _ _ _ _ wr => f = .bool true ∧ i = .int .i64 0 ∧ Below w.heap.size w wr) (fun _ _ _ _ _ _ _ _ _ _ _ _ _ _ _ _ _ _ _ _ _ _ _ _ _ _ _ _ _ _ _ _ _ _ _ _ _ _ => 0)
  case atStart => exact ⟨rfl, rfl, b17⟩
  case round =>
    obtain ⟨rfl, rfl, hnx⟩ := hrel
    go_wp2_with (go_at_call 11; (with_reducible refine (awake_any _).mono ?_); rintro e w1 ⟨rfl, hb1⟩; have hz1 := hb1.size)
    go_ret
    exact ⟨rfl, by (repeat (with_reducible (first | exact Below.refl _ _ | assumption | refine bl_alloc ?_ _ | refine bl_drew ?_ | refine bl_drewN ?_ _ | (refine bl_set ?_ ?_ _; (focus (first | (simp; done) | (simp; omega) | omega))) | refine bl_then ?_ (by assumption))))⟩
end Go.Proofs.Ytgjampkdnpdblaa
