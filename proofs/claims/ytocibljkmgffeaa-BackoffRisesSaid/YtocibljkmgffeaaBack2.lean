/- The walks of package backoff: what is checked. -/
import Derived.Test.YtocibljkmgffeaaBack
namespace Go.Proofs.Ytocibljkmgffeaa
open Go.RowKit Go.Shelf Go.Proofs.Ytocibljkmgffeaa.Bk

def allB (bs : List Bool) : Bool := bs.all id

theorem allB_no (bs : List Bool) (k : Nat) (hk : k < bs.length) (h : bs.getD k false = false) : allB bs = false := by
  unfold allB
  rw [List.all_eq_false]
  refine ⟨bs[k], List.getElem_mem hk, ?_⟩
  simp [List.getD, List.getElem?_eq_getElem hk] at h
  simp [h]

theorem allB_yes (bs : List Bool) (h : ∀ k, k < bs.length → bs.getD k false = true) : allB bs = true := by
  unfold allB
  rw [List.all_eq_true]
  intro x hx
  obtain ⟨k, hk, rfl⟩ := List.getElem_of_mem hx
  have := h k hk
  simpa [List.getD, List.getElem?_eq_getElem hk] using this

set_option maxHeartbeats 400000 in
theorem all_any (b off cap : Nat) (bs : List Bool) (w : World) (hl : bs.length ≤ 1000)
   (hc : ∀ k, k < bs.length → w.cell? ⟨b, off + k, none⟩ = some (.bool (bs.getD k false))) :
    Calls Try.prog 52 #[.slice (some ⟨b, off, none⟩) bs.length cap] w fun e w' => e = .returned (.bool (allB bs)) ∧ w = w' := by
  go_enter Try.func52, Try.ntmps52
  go_wp2
  go_loop [4, 7, 8, 9, 10, 11, 12, 13] (fun _ i _ _ _ _ _ _ => ∃ k : Nat, k ≤ bs.length ∧ i = .int .i64 k ∧ Hid (∀ j, j < k → bs.getD j false = true)) (fun _ i _ _ _ _ _ _ => bs.length - (intOf i).toNat)
  case atStart => exact ⟨0, Nat.zero_le _, rfl, fun j hj => by omega⟩
  case round =>
    obtain ⟨k, hk, rfl, hall⟩ := hrel
    by_cases hlt : k < bs.length
    · have hcell := hc k hlt
      cases hv : bs.getD k false
      · have hno := allB_no bs k hlt hv
        clear hc
        rw [hv] at hcell
        clear hv
        go_wp2
        go_ret
        exact ⟨rfl, rfl⟩
      · have hv' : Hid (bs.getD k false = true) := hv
        rw [hv] at hcell
        clear hv hc
        go_wp2
        go_round
        case rel => exact ⟨k + 1, by omega, by go_num, fun j hj => by
            by_cases h : j < k
            · exact hall.out j h
            · obtain rfl : j = k := by omega
              exact hv'.out⟩
        case measure => simp [intOf]; omega
    · obtain rfl : k = bs.length := by omega
      have hy := allB_yes bs hall.out
      clear hc
      go_wp2
      go_ret
      exact ⟨rfl, rfl⟩


def chkW (a b : Int) : Int := if 1 ≤ a ∧ a ≤ b ∧ b ≤ 1048576 then 0 else 3
theorem chkW_ok {a b : Int} (h : chkW a b = 0) : 1 ≤ a ∧ a ≤ b ∧ b ≤ 1048576 := by
  unfold chkW at h
  by_cases g : 1 ≤ a ∧ a ≤ b ∧ b ≤ 1048576
  · exact g
  · rw [if_neg g] at h; omega

set_option maxHeartbeats 400000 in
theorem rbCheck_any (a b : Int) (w : World) :
    Calls Try.prog 18 #[.int .i64 a, .int .i64 b] w fun e w' => e = .returned (.int .i64 (chkW a b)) ∧ w = w' := by
  go_enter Try.func18, Try.ntmps18
  go_wp2
  all_goals (go_ret; refine ⟨?_, rfl⟩; unfold chkW)
  all_goals first | (rw [if_pos (by omega)]; rfl) | (rw [if_neg (by omega)]; rfl)

theorem cells_bools {w : World} {b : Nat} {bs : List Bool} {t : TypeId} (h : w.heap[b]? = some (.cells (bs.map Value.bool).toArray t)) (k : Nat) (hk : k < bs.length) : w.cell? ⟨b, 0 + k, none⟩ = some (.bool (bs.getD k false)) := by
  rw [Nat.zero_add, kb_cell h k]
  simp [hk, List.getD]

set_option maxHeartbeats 400000 in
theorem bCheck_any (a b : Int) (w : World) :
    Calls Try.prog 17 #[.int .i64 a, .int .i64 b] w fun e w' => e = .returned (.int .i64 (chkW a b)) ∧ Below w.heap.size w w' := by
  have hall : allB [decide (1 ≤ a), decide (a ≤ b), decide (b ≤ 1048576)] = decide (chkW a b = 0) := by
    unfold allB chkW
    by_cases g : 1 ≤ a ∧ a ≤ b ∧ b ≤ 1048576
    · simp [g]
    · rw [if_neg g]; simp; omega
  have HA := Lib.hid hall
  clear hall
  go_enter Try.func17, Try.ntmps17
  go_wp2_with fail
  refine (all_any _ _ _ [decide (1 ≤ a), decide (a ≤ b), decide (b ≤ 1048576)] _ (by simp) (fun k hk => cells_bools (kb_new rfl _) k hk)).mono ?_
  rintro e w1 ⟨rfl, rfl⟩
  rw [HA.out]
  by_cases g : chkW a b = 0
  · have G := Lib.hid g
    have hd : decide (chkW a b = 0) = true := by simp [g]
    clear g
    go_wp2
    go_ret
    rw [G.out]
    exact ⟨rfl, by (repeat (with_reducible (first | exact Below.refl _ _ | assumption | refine bl_alloc ?_ _ | refine bl_drew ?_ | refine bl_drewN ?_ _ | (refine bl_set ?_ ?_ _; (focus (first | (simp; done) | (simp; omega) | omega))) | refine bl_then ?_ (by assumption))))⟩
  · have hd : decide (chkW a b = 0) = false := by simp [g]
    have G := Lib.hid (show chkW a b = 3 by unfold chkW at g ⊢; split at g <;> simp_all)
    clear g
    go_wp2
    go_ret
    rw [G.out]
    exact ⟨rfl, by (repeat (with_reducible (first | exact Below.refl _ _ | assumption | refine bl_alloc ?_ _ | refine bl_drew ?_ | refine bl_drewN ?_ _ | (refine bl_set ?_ ?_ _; (focus (first | (simp; done) | (simp; omega) | omega))) | refine bl_then ?_ (by assumption))))⟩

set_option maxHeartbeats 400000 in
theorem waits_any (a b : Int) (w : World) :
    Calls Try.prog 53 #[.int .i64 a, .int .i64 b] w fun e w' => e = .returned (.func (.func 66) #[] #[.pointer (some ⟨w.heap.size, 0, none⟩), .pointer (some ⟨w.heap.size + 1, 0, none⟩)]) ∧ (w.alloc (.cells #[.int .i64 a] 3)).alloc (.cells #[.int .i64 b] 3) = w' := by
  go_enter Try.func53, Try.ntmps53
  go_wp2
  go_ret
  exact ⟨rfl, rfl⟩
end Go.Proofs.Ytocibljkmgffeaa
