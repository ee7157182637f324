/- The walks of package flight: New, none, at (in the making). -/
import Derived.Test.YtfbgnimkjflffaaBase
import Derived.WalkKit
namespace Go.Proofs.Ytfbgnimkjflffaa
open Go.RowKit

set_option maxHeartbeats 400000 in
theorem fNew_no (n : Int) (w : World) (h : ¬ (1 ≤ n ∧ n ≤ 16)) :
    Calls Try.prog 10 #[.int .i64 n] w fun e w' => e = .returned (.tuple #[.pointer none, .int .i64 3]) ∧ w = w' := by
  by_cases h1 : n < 1
  · clear h
    go_enter Try.func10, Try.ntmps10
    go_wp2
    go_ret2
    exact ⟨rfl, rfl⟩
  · have h2 : 16 < n := by omega
    clear h
    go_enter Try.func10, Try.ntmps10
    go_wp2
    go_ret2
    exact ⟨rfl, rfl⟩

set_option maxHeartbeats 400000 in
theorem fNew_yes (n : Int) (w : World) (h1 : 1 ≤ n) (h2 : n ≤ 16) :
    Calls Try.prog 10 #[.int .i64 n] w fun e w' => e = .returned (.tuple #[.pointer (some ⟨w.heap.size + 1, 0, none⟩), .int .i64 0]) ∧ w' = (w.alloc (.map #[] 0)).alloc (.cells #[.int .i64 n, .slice none 0 0, .map (some w.heap.size)] 49) := by
  have hmm := @run_makeMap Try.prog
  go_enter Try.func10, Try.ntmps10
  go_wp2
  go_ret2
  exact ⟨rfl, rfl⟩

/-- A flight: the struct's block p, its map's block m, the requests' slice s. -/
def FlAt (w : World) (p m : Nat) (n : Int) (s : Value) : Prop := w.heap[p]? = some (.cells #[.int .i64 n, s, .map (some m)] 49)

theorem map_not_nil (m : Nat) (W : World) : (binOp .eql 47 (.map (some m)) (.map none)).run Try.prog W = .ok (.bool false) W := by
  first | rfl | kernel_rfl | simp [binOp, go_sem]

set_option maxHeartbeats 400000 in
theorem fnone_no (p m : Nat) (n : Int) (s : Value) (w : World) (h : FlAt w p m n s) :
    Calls Try.prog 17 #[.pointer (some ⟨p, 0, none⟩)] w fun e w' => e = .returned (.bool false) ∧ w = w' := by
  have c := kb_cell h
  have hm := fun W => map_not_nil m W
  clear h
  go_enter Try.func17, Try.ntmps17
  go_wp2
  go_ret
  exact ⟨rfl, rfl⟩
end Go.Proofs.Ytfbgnimkjflffaa
