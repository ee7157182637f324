/- The walks of package flight: at. -/
import Derived.Test.YtfbgnimkjflffaaFly
namespace Go.Proofs.Ytfbgnimkjflffaa
open Go.RowKit

set_option maxHeartbeats 400000 in
theorem fat_no (p m : Nat) (n id : Int) (a0 : Option Addr) (len cap : Nat) (w : World) (h : FlAt w p m n (.slice a0 len cap)) (hid : id < 1 ∨ (len : Int) < id) :
    Calls Try.prog 18 #[.pointer (some ⟨p, 0, none⟩), .int .i64 id] w fun e w' => e = .returned (.pointer none) ∧ w = w' := by
  have c := kb_cell h
  rcases hid with h1 | h1
  · go_enter Try.func18, Try.ntmps18
    go_wp2_with (go_at_call 17; (with_reducible refine (fnone_no p m n _ _ h).mono ?_); rintro e w1 ⟨rfl, rfl⟩)
    go_ret
    exact ⟨rfl, rfl⟩
  · go_enter Try.func18, Try.ntmps18
    go_wp2_with (go_at_call 17; (with_reducible refine (fnone_no p m n _ _ h).mono ?_); rintro e w1 ⟨rfl, rfl⟩)
    all_goals (go_ret; exact ⟨rfl, rfl⟩)

set_option maxHeartbeats 400000 in
theorem fat_yes (p m : Nat) (n : Int) (k b len cap : Nat) (w : World) (h : FlAt w p m n (.slice (some ⟨b, 0, none⟩) len cap)) (hk : k < len) (hl : len ≤ 70368744177664) :
    Calls Try.prog 18 #[.pointer (some ⟨p, 0, none⟩), .int .i64 ((k : Int) + 1)] w fun e w' => e = .returned (.pointer (some ⟨b, k * 5, none⟩)) ∧ w = w' := by
  have c := kb_cell h
  go_enter Try.func18, Try.ntmps18
  go_wp2_with (go_at_call 17; (with_reducible refine (fnone_no p m n _ _ h).mono ?_); rintro e w1 ⟨rfl, rfl⟩)
  go_ret
  exact ⟨rfl, rfl⟩

set_option maxHeartbeats 400000 in
theorem fIs_none (p m : Nat) (n id to : Int) (a0 : Option Addr) (len cap : Nat) (w : World) (h : FlAt w p m n (.slice a0 len cap)) (hid : id < 1 ∨ (len : Int) < id) :
    Calls Try.prog 7 #[.pointer (some ⟨p, 0, none⟩), .int .i64 id, .int .i64 to] w fun e w' => e = .returned (.int .i64 0) ∧ w = w' := by
  go_enter Try.func7, Try.ntmps7
  go_wp2_with (go_at_call 18; (with_reducible refine (fat_no p m n _ _ _ _ _ h hid).mono ?_); rintro e w1 ⟨rfl, rfl⟩)
  go_ret
  exact ⟨rfl, rfl⟩

set_option maxHeartbeats 400000 in
theorem fIs_some (p m : Nat) (n to T : Int) (o : Bool) (k b len cap : Nat) (w : World) (h : FlAt w p m n (.slice (some ⟨b, 0, none⟩) len cap)) (hk : k < len) (hl : len ≤ 70368744177664)
    (hto : w.cell? ⟨b, k * 5 + 1, none⟩ = some (.int .i64 T)) (hop : w.cell? ⟨b, k * 5 + 4, none⟩ = some (.bool o)) :
    Calls Try.prog 7 #[.pointer (some ⟨p, 0, none⟩), .int .i64 ((k : Int) + 1), .int .i64 to] w fun e w' => e = .returned (.int .i64 (if T = to then (if o then 1 else 2) else 0)) ∧ w = w' := by
  by_cases ht : T = to
  · rw [if_pos ht]
    subst ht
    cases o
    · go_enter Try.func7, Try.ntmps7
      go_wp2_with (go_at_call 18; (with_reducible refine (fat_yes p m n k b len cap _ h hk hl).mono ?_); rintro e w1 ⟨rfl, rfl⟩)
      go_ret
      exact ⟨rfl, rfl⟩
    · go_enter Try.func7, Try.ntmps7
      go_wp2_with (go_at_call 18; (with_reducible refine (fat_yes p m n k b len cap _ h hk hl).mono ?_); rintro e w1 ⟨rfl, rfl⟩)
      go_ret
      exact ⟨rfl, rfl⟩
  · rw [if_neg ht]
    have hne : (T == to) = false := by simpa using ht
    clear ht
    go_enter Try.func7, Try.ntmps7
    go_wp2_with (go_at_call 18; (with_reducible refine (fat_yes p m n k b len cap _ h hk hl).mono ?_); rintro e w1 ⟨rfl, rfl⟩)
    go_ret
    exact ⟨rfl, rfl⟩
end Go.Proofs.Ytfbgnimkjflffaa
