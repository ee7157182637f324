/- The walks of package wire: Rest, End, NewReader. -/
import Derived.Test.YtajlcodlaalomaaWire16
namespace Go.Proofs.Ytajlcodlaalomaa
open Go.RowKit Go.Proofs.Ytajlcodlaalomaa.Wi Go.Proofs.Ytajlcodlaalomaa.Pc
attribute [local go_sem] cell_alloc_some frozen_alloc_some
set_option linter.unusedSimpArgs false
set_option linter.unusedVariables false

def restS (xs : List UInt8) : St → Nat
  | .at a => xs.length - a
  | .bad _ _ => 0
theorem dRest_any {w : World} {B p : Nat} {s : Value} {xs : List UInt8} {st : St} (F : RdO w B p s xs st) :
    Calls Try.prog 25 #[.pointer (some ⟨p, 0, none⟩)] w fun e w' => e = .returned (.int .i64 (restS xs st : Int)) ∧ Below w.heap.size w w' := by
  cases st with
  | «at» a =>
    have F' : Rd w B p s xs a 0 0 := F
    obtain ⟨A, cap, rfl⟩ := (RowOf.of_own F'.row).form
    have c := kb_cell F'.st
    have c0 := c 0
    have c1 := c 1
    simp at c0 c1
    have hw : IntKind.i64.wrap ((xs.length : Int) - (a : Int)) = (xs.length : Int) - (a : Int) := IntWalk.i64_in _ (by have := F'.len; have := F'.le; omega)
    have he : ((restS xs (.at a) : Nat) : Int) = (xs.length : Int) - (a : Int) := by have := F'.le; simp only [restS]; omega
    rw [he]
    clear F F'
    go_enter Try.func25, Try.ntmps25
    go_wp2
    go_region
    go_wp2
    go_ret
    exact ⟨rfl, by (repeat (with_reducible (first | exact Below.refl _ _ | assumption | refine bl_alloc ?_ _ | refine bl_drew ?_ | refine bl_drewN ?_ _ | (refine bl_set ?_ ?_ _; (focus (first | (simp; done) | (simp; omega) | omega))) | refine bl_then ?_ (by assumption))))⟩
  | bad er f =>
    obtain ⟨he, a, hF⟩ := F
    have c := kb_cell hF.st
    have hne : ((er : Int) != 0) = true := by simpa using he
    have hne' : (er != 0) = true := by simpa using he
    clear hF
    go_enter Try.func25, Try.ntmps25
    go_wp2
    go_ret
    exact ⟨rfl, Below.refl _ _⟩

/-- What End tells: the fault, and its place. -/
def endS (xs : List UInt8) : St → Nat × Nat
  | .at a => if a < xs.length then (4, a) else (0, 0)
  | .bad e f => (e, f)
theorem dEnd_any {w : World} {B p : Nat} {s : Value} {xs : List UInt8} {st : St} (F : RdO w B p s xs st) :
    Calls Try.prog 32 #[.pointer (some ⟨p, 0, none⟩)] w fun e w' => e = .returned (.agg #[.int .i64 ((endS xs st).1 : Int), .int .i64 ((endS xs st).2 : Int)]) ∧ Below w.heap.size w w' := by
  cases st with
  | «at» a =>
    have F' : Rd w B p s xs a 0 0 := F
    obtain ⟨A, cap, rfl⟩ := (RowOf.of_own F'.row).form
    have c := kb_cell F'.st
    have c0 := c 0
    have c1 := c 1
    have c2 := c 2
    simp at c0 c1 c2
    have hlt := kb_lt F'.st
    by_cases h : a < xs.length
    · have hd : decide ((a : Int) < (xs.length : Int)) = true := decide_eq_true (by omega)
      simp only [endS, if_pos h]
      clear F F'
      go_enter Try.func32, Try.ntmps32
      go_wp2
      go_region
      go_wp2
      exact bodyPost_ret (results_cell_row rfl _ _ w.heap.size 60 _ (0, 0) _ rfl (kb_drew (kb_new rfl _)) Try.underlying60 rfl (by kernel_rfl)) rfl ⟨rfl, by (repeat (with_reducible (first | exact Below.refl _ _ | assumption | refine bl_alloc ?_ _ | refine bl_drew ?_ | refine bl_drewN ?_ _ | (refine bl_set ?_ ?_ _; (focus (first | (simp; done) | (simp; omega) | omega))) | refine bl_then ?_ (by assumption))))⟩
    · have hd : decide ((a : Int) < (xs.length : Int)) = false := decide_eq_false (by omega)
      simp only [endS, if_neg h]
      clear F F'
      go_enter Try.func32, Try.ntmps32
      go_wp2
      go_region
      go_wp2
      exact bodyPost_ret (results_cell_row rfl _ _ w.heap.size 60 _ (0, 0) _ rfl (kb_drew (kb_new rfl _)) Try.underlying60 rfl (by kernel_rfl)) rfl ⟨rfl, by (repeat (with_reducible (first | exact Below.refl _ _ | assumption | refine bl_alloc ?_ _ | refine bl_drew ?_ | refine bl_drewN ?_ _ | (refine bl_set ?_ ?_ _; (focus (first | (simp; done) | (simp; omega) | omega))) | refine bl_then ?_ (by assumption))))⟩
  | bad er f =>
    obtain ⟨he, a, hF⟩ := F
    have c := kb_cell hF.st
    have c2 := c 2
    simp at c2
    have hlt := kb_lt hF.st
    have hne : ((er : Int) == 0) = false := by simpa using he
    have hne' : (er == 0) = false := by simpa using he
    simp only [endS]
    clear hF
    go_enter Try.func32, Try.ntmps32
    go_wp2
    go_region
    go_wp2
    exact bodyPost_ret (results_cell_row rfl _ _ w.heap.size 60 _ (0, 0) _ rfl (kb_drew (kb_new rfl _)) Try.underlying60 rfl (by kernel_rfl)) rfl ⟨rfl, by (repeat (with_reducible (first | exact Below.refl _ _ | assumption | refine bl_alloc ?_ _ | refine bl_drew ?_ | refine bl_drewN ?_ _ | (refine bl_set ?_ ?_ _; (focus (first | (simp; done) | (simp; omega) | omega))) | refine bl_then ?_ (by assumption))))⟩

theorem NewReader_any {w : World} {v : Value} {l : List UInt8} (h : BytesOf w v l) (hl : l.length ≤ 2097152) :
    Calls Try.prog 21 #[v] w fun e w' => ∃ p s, e = .returned (.pointer (some ⟨p, 0, none⟩)) ∧ RdO w' w.heap.size p s l (.at 0) ∧ Below w.heap.size w w' := by
  obtain ⟨A, cap, rfl⟩ := h.form
  have H := Lib.hid h
  clear h
  go_enter Try.func21, Try.ntmps21
  go_wp2_with fail
  refine (Clone_any H.out (by omega)).mono ?_
  rintro e w' ⟨u, rfl, hN⟩
  obtain ⟨A1, c1, rfl⟩ := (RowOf.of_own hN.1).form
  have HN := Lib.hid hN
  clear hN
  go_wp2_with fail
  go_ret
  refine ⟨_, _, rfl, ⟨kb_new rfl _, ?_, HN.out.2.size, hl, by omega⟩, bl_alloc HN.out.2 _⟩
  exact (Keep.of_below (S := fun _ => False) (bl_alloc (Below.refl _ _) _)).row HN.out.1 fun _ _ x => x
end Go.Proofs.Ytajlcodlaalomaa
