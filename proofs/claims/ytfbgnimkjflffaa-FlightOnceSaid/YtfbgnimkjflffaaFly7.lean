/- The walks of package flight: what is asked of a request; the requests handed on. -/
import Derived.Test.YtfbgnimkjflffaaFly6
import Derived.Test.YtfbgnimkjflffaaRangeN
namespace Go.Proofs.Ytfbgnimkjflffaa
open Go.RowKit Go.Maps Go.Shelf

def askHas (who : Int) (r : Rq) : Bool := who == r.to
def askWaits (who : Int) (r : Rq) : Bool := r.op && (who == -1 || who == r.to)
def askAll (_ : Rq) : Bool := true

set_option maxHeartbeats 400000 in
theorem whas_any (who : Int) (r : Rq) (w : World) :
    Calls Try.prog 25 #[.int .i64 who, r.val] w fun e w' => e = .returned (.bool (askHas who r)) ∧ Below w.heap.size w w' := by
  obtain ⟨id, to, h, a, o⟩ := r
  unfold Rq.val askHas
  go_enter Try.func25, Try.ntmps25
  go_wp2
  go_ret
  exact ⟨rfl, by (repeat (with_reducible (first | exact Below.refl _ _ | assumption | refine bl_alloc ?_ _ | refine bl_drew ?_ | refine bl_drewN ?_ _ | (refine bl_set ?_ ?_ _; (focus (first | (simp; done) | (simp; omega) | omega))) | refine bl_then ?_ (by assumption))))⟩

set_option maxHeartbeats 400000 in
theorem wall_any (who : Int) (r : Rq) (w : World) :
    Calls Try.prog 23 #[.int .i64 who, r.val] w fun e w' => e = .returned (.bool (askAll r)) ∧ Below w.heap.size w w' := by
  obtain ⟨id, to, h, a, o⟩ := r
  unfold Rq.val askAll
  go_enter Try.func23, Try.ntmps23
  go_wp2
  go_ret
  exact ⟨rfl, by (repeat (with_reducible (first | exact Below.refl _ _ | assumption | refine bl_alloc ?_ _ | refine bl_drew ?_ | refine bl_drewN ?_ _ | (refine bl_set ?_ ?_ _; (focus (first | (simp; done) | (simp; omega) | omega))) | refine bl_then ?_ (by assumption))))⟩

set_option maxHeartbeats 400000 in
theorem wwaits_any (who : Int) (r : Rq) (w : World) :
    Calls Try.prog 24 #[.int .i64 who, r.val] w fun e w' => e = .returned (.bool (askWaits who r)) ∧ Below w.heap.size w w' := by
  obtain ⟨id, to, h, a, o⟩ := r
  have hq : askWaits who ⟨id, to, h, a, o⟩ = (o && (who == -1 || who == to)) := rfl
  have HQ := Lib.hid hq
  clear hq
  unfold Rq.val
  have hv : (Value.agg #[.int .i64 id, .int .i64 to, .int .i64 h, .int .i64 a, .bool o]) = Rq.val ⟨id, to, h, a, o⟩ := rfl
  have HV := Lib.hid hv
  have hh : askHas who ⟨id, to, h, a, o⟩ = (who == to) := rfl
  have HH := Lib.hid hh
  clear hv hh
  cases o
  · go_enter Try.func24, Try.ntmps24
    go_wp2
    go_ret
    exact ⟨by rw [HQ.out]; rfl, by (repeat (with_reducible (first | exact Below.refl _ _ | assumption | refine bl_alloc ?_ _ | refine bl_drew ?_ | refine bl_drewN ?_ _ | (refine bl_set ?_ ?_ _; (focus (first | (simp; done) | (simp; omega) | omega))) | refine bl_then ?_ (by assumption))))⟩
  · by_cases h1 : who = -1
    · subst h1
      go_enter Try.func24, Try.ntmps24
      go_wp2
      go_ret
      exact ⟨by rw [HQ.out]; rfl, by (repeat (with_reducible (first | exact Below.refl _ _ | assumption | refine bl_alloc ?_ _ | refine bl_drew ?_ | refine bl_drewN ?_ _ | (refine bl_set ?_ ?_ _; (focus (first | (simp; done) | (simp; omega) | omega))) | refine bl_then ?_ (by assumption))))⟩
    · have h2 : (who == -1) = false := by simpa using h1
      have H1 := Lib.hid h1
      clear h1
      go_enter Try.func24, Try.ntmps24
      go_wp2_with (go_at_call 25; rw [HV.out]; (with_reducible refine (whas_any _ _ _).mono ?_); rintro e w1 ⟨rfl, hb1⟩; rw [HH.out])
      go_ret
      refine ⟨by rw [HQ.out]; simp [h2], by (repeat (with_reducible (first | exact Below.refl _ _ | assumption | refine bl_alloc ?_ _ | refine bl_drew ?_ | refine bl_drewN ?_ _ | (refine bl_set ?_ ?_ _; (focus (first | (simp; done) | (simp; omega) | omega))) | refine bl_then ?_ (by assumption))))⟩
end Go.Proofs.Ytfbgnimkjflffaa
