/- The walks of package wire: the reader's methods. · The walks of package wire: Word, Bool, Bytes, Text of a reader. · The walks of package wire: the reader's methods over closures. Printed by wip/meths.py. · The walks of package wire: Rest, End, NewReader. · The walks of package landfalllaw04: written, awake. · The walks of package wire: a reader's Pace; landfalllaw04.ends. Printed by wip/meths2.py. · The walk of WireKnown. Printed by wip/known.py. · A thing of the laws of chapter 4; puts, ours. Printed by wip/things.py. · Things that came in; long. · The walk of WireWrites. · The walks of package wire: a reader's Hash, Key. Printed by wip/arrs.py. -/
import Derived.Test.YtooghjnddifpdaaCWa
import Derived.Deep.MidRow
import Derived.Test.YtooghjnddifpdaaBytes3
import Derived.Test.YtooghjnddifpdaaMid
import Derived.Defers
import Derived.Recover
section
namespace Go.Proofs.Ytooghjnddifpdaa
open Go.RowKit Go.Proofs.Ytooghjnddifpdaa.Wi Go.Proofs.Ytooghjnddifpdaa.Pc
attribute [local go_sem] cell_alloc_some frozen_alloc_some
set_option linter.unusedSimpArgs false
set_option linter.unusedVariables false

/-- A reader: at a place, or with a fault. -/
inductive St where
  | at (a : Nat) : St
  | bad (e f : Nat) : St
def RdO (w : World) (B p : Nat) (s : Value) (xs : List UInt8) : St → Prop
  | .at a => Rd w B p s xs a 0 0
  | .bad e f => e ≠ 0 ∧ ∃ a, Rd w B p s xs a e f
theorem RdO.below {w w' : World} {B p s xs st} (h : RdO w B p s xs st) (k : Below w.heap.size w w') : RdO w' B p s xs st := by
  cases st with
  | «at» a => exact Rd.below h k
  | bad e f => exact ⟨h.1, h.2.choose, h.2.choose_spec.below k⟩
theorem RdO.ltp {w : World} {B p s xs st} (h : RdO w B p s xs st) : p < w.heap.size := by
  cases st with
  | «at» a => exact kb_lt (Rd.st h)
  | bad e f => exact kb_lt h.2.choose_spec.st
def step {α : Type} (r : Nat → Rs α) (z : α) : St → α × St
  | .at a => match r a with
    | .ok v a' => (v, .at a')
    | .bad e f => (z, .bad e f)
  | .bad e f => (z, .bad e f)
/-- What a method of a reader does. -/
def Did {α : Type} (w : World) (B p : Nat) (s : Value) (xs : List UInt8) (r : α × St) (V : α → World → Value → Prop) : Ending → World → Prop := fun e w' =>
  ∃ u, e = .returned u ∧ V r.1 w' u ∧ RdO w' B p s xs r.2 ∧ Keep (fun b => b = p) w w'
theorem Did.of {α : Type} {w0 w : World} {B p s xs a} {r : Nat → Rs α} {z : α} {V : α → World → Value → Prop} {V' : α → World → Value → Prop} {zv : Value} {e : Ending} {w' : World} (hb : Below w0.heap.size w0 w) (h : Reads w B p s xs (r a) V' zv e w') (hV : ∀ v w' u, V' v w' u → V v w' u) (hz : ∀ w', V z w' zv) (hne : ∀ er f, r a = .bad er f → er ≠ 0) :
    Did w0 B p s xs (step r z (.at a)) V e w' := by
  unfold Reads at h
  cases hr : r a with
  | ok v a' =>
    have hs : step r z (.at a) = (v, .at a') := by simp [step, hr]
    rw [hr] at h; rw [hs]; obtain ⟨u, h1, h2, h3⟩ := h
    exact ⟨u, h1, hV _ _ _ h2, h3.1, Keep.after hb h3.2⟩
  | bad er f =>
    have hs : step r z (.at a) = (z, .bad er f) := by simp [step, hr]
    rw [hr] at h; rw [hs]; obtain ⟨h1, a', h2, h3⟩ := h
    exact ⟨zv, h1, hz _, ⟨hne _ _ hr, a', h2⟩, Keep.after hb h3⟩

theorem numP_bad {xs a er f} (h : numP xs a = .bad er f) : er ≠ 0 := by
  unfold numP at h
  repeat' split at h
  all_goals first | (injection h; done) | (injection h; omega)
theorem takeP_bad {α : Type} {xs n a g er f} {k : List UInt8 → α} (h : takeP xs n a g k = .bad er f) : er ≠ 0 := by
  unfold takeP at h
  split at h <;> (injection h; try omega)
def boolP (xs : List UInt8) (a : Nat) : Rs Bool := match takeP xs 1 a a bigL with
  | .ok n a' => if n ≤ 1 then .ok (n == 1) a' else .bad 5 a
  | .bad e f => .bad e f
def bytesP (xs : List UInt8) (most : Int) (a : Nat) : Rs (List UInt8) := match numP xs a with
  | .ok n a' => if (n : Int) ≤ max most 0 then takeP xs n a' a id else .bad 4 a
  | .bad e f => .bad e f
theorem boolP_bad {xs a er f} (h : boolP xs a = .bad er f) : er ≠ 0 := by
  unfold boolP at h
  split at h
  · split at h <;> (injection h; try omega)
  · rename_i he; injection h with h1 h2; subst h1; exact takeP_bad he
theorem bytesP_bad {xs most a er f} (h : bytesP xs most a = .bad er f) : er ≠ 0 := by
  unfold bytesP at h
  split at h
  · split at h
    · exact takeP_bad h
    · injection h; omega
  · rename_i he; injection h with h1 h2; subst h1; exact numP_bad he

theorem eNum : Enters 80 := fun _ _ => by kernel_rfl
theorem eWord1 : Enters 86 := fun _ _ => by kernel_rfl
theorem dNum_any {w : World} {B p : Nat} {s : Value} {xs : List UInt8} {st : St} (F : RdO w B p s xs st) :
    Calls Try.prog 53 #[.pointer (some ⟨p, 0, none⟩)] w (Did w B p s xs (step (numP xs) 0 st) fun n _ u => u = .int .i64 (n : Int)) := by
  have hmf : ∀ (fn : Fn) (first cap : Array Value) (w : World), (Instr.makeFunc fn first cap).run Try.prog w = .ok (.func fn first cap) w := fun _ _ _ _ => rfl
  have HF := Lib.hid F
  cases st with
  | «at» a =>
    clear F
    go_enter Try.func53, Try.ntmps53
    go_wp2_with fail
    refine (reads_int_any (HF.out : Rd _ _ _ _ _ _ _ _) _ _ _ eNum (by simpa using num_any (HF.out : Rd _ _ _ _ _ _ _ _))).mono ?_
    intro e w' h
    have hD := Did.of (r := numP xs) (z := 0) (V := fun n _ u => u = .int .i64 (n : Int)) (Below.refl _ _) h (fun _ _ _ h => h) (fun _ => rfl) (fun _ _ => numP_bad)
    obtain ⟨u, rfl, hu, h2⟩ := hD
    have H2 := Lib.hid h2
    have HU := Lib.hid hu
    clear h h2 hu
    go_wp2_with fail
    go_ret
    exact ⟨u, rfl, HU.out, H2.out⟩
  | bad er f =>
    obtain ⟨he, a, hF⟩ := F
    go_enter Try.func53, Try.ntmps53
    go_wp2_with fail
    refine (reads_int_not hF (by omega) _).mono ?_
    rintro e w' ⟨rfl, rfl⟩
    go_wp2_with fail
    go_ret
    exact ⟨_, rfl, rfl, HF.out, Keep.refl _ _⟩
end Go.Proofs.Ytooghjnddifpdaa
end
section
namespace Go.Proofs.Ytooghjnddifpdaa
open Go.RowKit Go.Proofs.Ytooghjnddifpdaa.Wi Go.Proofs.Ytooghjnddifpdaa.Pc
attribute [local go_sem] cell_alloc_some frozen_alloc_some
set_option linter.unusedSimpArgs false
set_option linter.unusedVariables false

/-- A variable that holds the reader's address. -/
def BoxR (w : World) (b p : Nat) : Prop := w.heap[b]? = some (.cells #[.pointer (some ⟨p, 0, none⟩)] 90 (0, 0))
theorem word1_any {w : World} {B p b : Nat} {s : Value} {xs : List UInt8} {a : Nat} (F : Rd w B p s xs a 0 0) (hb : BoxR w b p) :
    Calls Try.prog 86 (#[] ++ #[.int .i64 a] ++ #[.pointer (some ⟨b, 0, none⟩)]) w (Takes w B p s xs (takeP xs 8 a a bigL) fun x _ u => u = .int .u64 (x : Int)) := by
  have cb := kb_cell hb 0
  simp at cb
  have H := take8_any 8 a (by omega) F
  revert H
  generalize takeP xs 8 a a bigL = r
  intro H
  have HH := Lib.hid H
  clear F H hb
  cases r with
  | ok v a' =>
    go_enter Try.func86, Try.ntmps86
    go_wp2_with fail
    refine HH.out.mono ?_
    rintro e w' ⟨u, rfl, rfl, hR⟩
    have HR := Lib.hid hR
    clear hR
    go_wp2_with fail
    go_ret
    exact ⟨_, rfl, rfl, HR.out⟩
  | bad er f =>
    go_enter Try.func86, Try.ntmps86
    go_wp2_with fail
    refine HH.out.mono ?_
    rintro e w' ⟨rfl, hR⟩
    exact ⟨rfl, rfl, hR⟩

theorem numP_le {xs a n a'} (h : numP xs a = .ok n a') : n ≤ 9223372036854775807 := by
  unfold numP at h
  repeat' split at h
  all_goals first | (injection h; done) | (injection h; omega)

end Go.Proofs.Ytooghjnddifpdaa
end
section
namespace Go.Proofs.Ytooghjnddifpdaa
open Go.RowKit Go.Proofs.Ytooghjnddifpdaa.Wi Go.Proofs.Ytooghjnddifpdaa.Pc
attribute [local go_sem] cell_alloc_some frozen_alloc_some
set_option linter.unusedSimpArgs false
set_option linter.unusedVariables false


theorem dWord_any {w : World} {B p : Nat} {s : Value} {xs : List UInt8} {st : St} (F : RdO w B p s xs st) :
    Calls Try.prog 56 #[.pointer (some ⟨p, 0, none⟩)] w (Did w B p s xs (step (fun a => takeP xs 8 a a bigL) (0) st) (fun x _ u => u = .int .u64 (x : Int))) := by
  have hmf : ∀ (fn : Fn) (first cap : Array Value) (w : World), (Instr.makeFunc fn first cap).run Try.prog w = .ok (.func fn first cap) w := fun _ _ _ _ => rfl
  have HF := Lib.hid F
  have hlt := F.ltp
  cases st with
  | «at» a =>
    clear F
    go_enter Try.func56, Try.ntmps56
    go_wp2_with fail
    have hbl : Below w.heap.size w (w.alloc (.cells #[.pointer (some ⟨p, 0, none⟩)] 90)) := by (repeat (with_reducible (first | exact Below.refl _ _ | assumption | refine bl_alloc ?_ _ | refine bl_drew ?_ | refine bl_drewN ?_ _ | (refine bl_set ?_ ?_ _; (focus (first | (simp; done) | (simp; omega) | omega))) | refine bl_then ?_ (by assumption))))
    have F1 : Rd (w.alloc (.cells #[.pointer (some ⟨p, 0, none⟩)] 90)) B p s xs a 0 0 := (HF.out : Rd _ _ _ _ _ _ _ _).below hbl
    have hb1 : BoxR (w.alloc (.cells #[.pointer (some ⟨p, 0, none⟩)] 90)) w.heap.size p := kb_new rfl _
    refine (reads_u64_any F1 _ _ _ eWord1 (word1_any F1 hb1)).mono ?_
    intro e w' h
    have hD := Did.of (r := fun a => takeP xs 8 a a bigL) (z := 0) (V := fun x _ u => u = .int .u64 (x : Int)) hbl h (fun _ _ _ h => h) (fun _ => rfl) (fun _ _ => takeP_bad)
    obtain ⟨u, rfl, hu, h2⟩ := hD
    have H2 := Lib.hid h2
    have HU := Lib.hid hu
    clear h h2 hu F1 hbl
    go_wp2_with fail
    go_ret
    exact ⟨u, rfl, HU.out, H2.out⟩
  | bad er f =>
    obtain ⟨he, a, hF⟩ := F
    go_enter Try.func56, Try.ntmps56
    go_wp2_with fail
    have hbl : Below w.heap.size w (w.alloc (.cells #[.pointer (some ⟨p, 0, none⟩)] 90)) := by (repeat (with_reducible (first | exact Below.refl _ _ | assumption | refine bl_alloc ?_ _ | refine bl_drew ?_ | refine bl_drewN ?_ _ | (refine bl_set ?_ ?_ _; (focus (first | (simp; done) | (simp; omega) | omega))) | refine bl_then ?_ (by assumption))))
    refine (reads_u64_not (hF.below hbl) (by omega) _).mono ?_
    rintro e w' ⟨rfl, rfl⟩
    have HL := Lib.hid hbl
    clear hbl
    go_wp2_with fail
    go_ret
    exact ⟨_, rfl, rfl, HF.out.below HL.out, Keep.of_below HL.out⟩

end Go.Proofs.Ytooghjnddifpdaa
end
section
namespace Go.Proofs.Ytooghjnddifpdaa
open Go.RowKit Go.Proofs.Ytooghjnddifpdaa.Wi Go.Proofs.Ytooghjnddifpdaa.Pc
attribute [local go_sem] cell_alloc_some frozen_alloc_some
set_option linter.unusedSimpArgs false
set_option linter.unusedVariables false

def restS (xs : List UInt8) : St → Nat
  | .at a => xs.length - a
  | .bad _ _ => 0
theorem dRest_any {w : World} {B p : Nat} {s : Value} {xs : List UInt8} {st : St} (F : RdO w B p s xs st) :
    Calls Try.prog 55 #[.pointer (some ⟨p, 0, none⟩)] w fun e w' => e = .returned (.int .i64 (restS xs st : Int)) ∧ Below w.heap.size w w' := by
  cases st with
  | «at» a =>
    have F' : Rd w B p s xs a 0 0 := F
    obtain ⟨A, cap, rfl⟩ := (RowOf.of_own F'.row).form
    have c := kb_cell F'.st
    have c0 := c 0
    have c1 := c 1
    simp at c0 c1
    have hw : IntKind.i64.wrap ((xs.length : Int) - (a : Int)) = (xs.length : Int) - (a : Int) := IntWalk.i64_in _ (by have := F'.len; have := F'.le; omega)
    have he : ((restS xs (.at a) : Nat) : Int) = (xs.length : Int) - (a : Int) := by have := F'.le; simp only [restS]; omega
    rw [he]
    clear F F'
    go_enter Try.func55, Try.ntmps55
    go_wp2
    go_region
    go_wp2
    go_ret
    exact ⟨rfl, by (repeat (with_reducible (first | exact Below.refl _ _ | assumption | refine bl_alloc ?_ _ | refine bl_drew ?_ | refine bl_drewN ?_ _ | (refine bl_set ?_ ?_ _; (focus (first | (simp; done) | (simp; omega) | omega))) | refine bl_then ?_ (by assumption))))⟩
  | bad er f =>
    obtain ⟨he, a, hF⟩ := F
    have c := kb_cell hF.st
    have hne : ((er : Int) != 0) = true := by simpa using he
    have hne' : (er != 0) = true := by simpa using he
    clear hF
    go_enter Try.func55, Try.ntmps55
    go_wp2
    go_ret
    exact ⟨rfl, Below.refl _ _⟩

/-- What End tells: the fault, and its place. -/
def endS (xs : List UInt8) : St → Nat × Nat
  | .at a => if a < xs.length then (4, a) else (0, 0)
  | .bad e f => (e, f)
theorem dEnd_any {w : World} {B p : Nat} {s : Value} {xs : List UInt8} {st : St} (F : RdO w B p s xs st) :
    Calls Try.prog 57 #[.pointer (some ⟨p, 0, none⟩)] w fun e w' => e = .returned (.agg #[.int .i64 ((endS xs st).1 : Int), .int .i64 ((endS xs st).2 : Int)]) ∧ Below w.heap.size w w' := by
  cases st with
  | «at» a =>
    have F' : Rd w B p s xs a 0 0 := F
    obtain ⟨A, cap, rfl⟩ := (RowOf.of_own F'.row).form
    have c := kb_cell F'.st
    have c0 := c 0
    have c1 := c 1
    have c2 := c 2
    simp at c0 c1 c2
    have hlt := kb_lt F'.st
    by_cases h : a < xs.length
    · have hd : decide ((a : Int) < (xs.length : Int)) = true := decide_eq_true (by omega)
      simp only [endS, if_pos h]
      clear F F'
      go_enter Try.func57, Try.ntmps57
      go_wp2
      go_region
      go_wp2
      exact bodyPost_ret (results_cell_row rfl _ _ w.heap.size 61 _ (0, 0) _ rfl (kb_drew (kb_new rfl _)) Try.underlying61 rfl (by kernel_rfl)) rfl ⟨rfl, by (repeat (with_reducible (first | exact Below.refl _ _ | assumption | refine bl_alloc ?_ _ | refine bl_drew ?_ | refine bl_drewN ?_ _ | (refine bl_set ?_ ?_ _; (focus (first | (simp; done) | (simp; omega) | omega))) | refine bl_then ?_ (by assumption))))⟩
    · have hd : decide ((a : Int) < (xs.length : Int)) = false := decide_eq_false (by omega)
      simp only [endS, if_neg h]
      clear F F'
      go_enter Try.func57, Try.ntmps57
      go_wp2
      go_region
      go_wp2
      exact bodyPost_ret (results_cell_row rfl _ _ w.heap.size 61 _ (0, 0) _ rfl (kb_drew (kb_new rfl _)) Try.underlying61 rfl (by kernel_rfl)) rfl ⟨rfl, by (repeat (with_reducible (first | exact Below.refl _ _ | assumption | refine bl_alloc ?_ _ | refine bl_drew ?_ | refine bl_drewN ?_ _ | (refine bl_set ?_ ?_ _; (focus (first | (simp; done) | (simp; omega) | omega))) | refine bl_then ?_ (by assumption))))⟩
  | bad er f =>
    obtain ⟨he, a, hF⟩ := F
    have c := kb_cell hF.st
    have c2 := c 2
    simp at c2
    have hlt := kb_lt hF.st
    have hne : ((er : Int) == 0) = false := by simpa using he
    have hne' : (er == 0) = false := by simpa using he
    simp only [endS]
    clear hF
    go_enter Try.func57, Try.ntmps57
    go_wp2
    go_region
    go_wp2
    exact bodyPost_ret (results_cell_row rfl _ _ w.heap.size 61 _ (0, 0) _ rfl (kb_drew (kb_new rfl _)) Try.underlying61 rfl (by kernel_rfl)) rfl ⟨rfl, by (repeat (with_reducible (first | exact Below.refl _ _ | assumption | refine bl_alloc ?_ _ | refine bl_drew ?_ | refine bl_drewN ?_ _ | (refine bl_set ?_ ?_ _; (focus (first | (simp; done) | (simp; omega) | omega))) | refine bl_then ?_ (by assumption))))⟩

theorem NewReader_any {w : World} {v : Value} {l : List UInt8} (h : BytesOf w v l) (hl : l.length ≤ 2097152) :
    Calls Try.prog 52 #[v] w fun e w' => ∃ p s, e = .returned (.pointer (some ⟨p, 0, none⟩)) ∧ RdO w' w.heap.size p s l (.at 0) ∧ Below w.heap.size w w' := by
  obtain ⟨A, cap, rfl⟩ := h.form
  have H := Lib.hid h
  clear h
  go_enter Try.func52, Try.ntmps52
  go_wp2_with fail
  refine (Clone_any H.out (by omega)).mono ?_
  rintro e w' ⟨u, rfl, hN⟩
  obtain ⟨A1, c1, rfl⟩ := (RowOf.of_own hN.1).form
  have HN := Lib.hid hN
  clear hN
  go_wp2_with fail
  go_ret
  refine ⟨_, _, rfl, ⟨kb_new rfl _, ?_, HN.out.2.size, hl, by omega⟩, bl_alloc HN.out.2 _⟩
  exact (Keep.of_below (S := fun _ => False) (bl_alloc (Below.refl _ _) _)).row HN.out.1 fun _ _ x => x
end Go.Proofs.Ytooghjnddifpdaa
end
section
namespace Go.Proofs.Ytooghjnddifpdaa
open Go.RowKit Go.Proofs.Ytooghjnddifpdaa.Wi Go.Proofs.Ytooghjnddifpdaa.Pc
attribute [local go_sem] cell_alloc_some frozen_alloc_some
set_option linter.unusedSimpArgs false
set_option linter.unusedVariables false

/-- A writer of a call's own. -/
def AW (w0 w : World) (p : Nat) (lim : Int) (bs : List UInt8) (e : Int) : Prop := Below w0.heap.size w0 w ∧ ∃ s, Wr w w0.heap.size p lim bs e s
theorem AW.below {w0 w w' p lim bs e} (h : AW w0 w p lim bs e) (k : Below w.heap.size w w') : AW w0 w' p lim bs e := ⟨bl_then h.1 k, h.2.choose, h.2.choose_spec.below k⟩
theorem AW.of {w0 w : World} {p : Nat} {lim e : Int} {bs bs' : List UInt8} {e' : Int} {f : FuncId} {args : Array Value} {may : Bool} {l : List UInt8} (h : AW w0 w p lim bs e)
    (hC : ∀ s, Wr w w0.heap.size p lim bs e s → Calls Try.prog f args w (Puts w w0.heap.size p lim e bs s may l)) (hp : putS lim bs e may l = ⟨bs', e'⟩) :
    Calls Try.prog f args w fun x w' => x = .returned (.int .i64 e') ∧ AW w0 w' p lim bs' e' := by
  obtain ⟨hb, s, hW⟩ := h
  refine (hC s hW).mono fun x w' hP => ?_
  unfold Puts at hP
  rw [hp] at hP
  obtain ⟨hx, s', h1, h2, _⟩ := hP
  exact ⟨hx, (hb.trans (h2.below (B := w0.heap.size) hb.size fun b hb => (hW.ltS hb).1)), s', h1⟩
/-- A reader of a call's own. -/
def AR (w0 w : World) (p : Nat) (xs : List UInt8) (st : St) : Prop := Below w0.heap.size w0 w ∧ ∃ B s, w0.heap.size ≤ B ∧ RdO w B p s xs st
theorem RdO.lp {w : World} {B p s xs st} (h : RdO w B p s xs st) : B ≤ p := by
  cases st with
  | «at» a => exact Rd.lp h
  | bad e f => exact h.2.choose_spec.lp
theorem AR.below {w0 w w' p xs st} (h : AR w0 w p xs st) (k : Below w.heap.size w w') : AR w0 w' p xs st := by
  obtain ⟨hb, B, s, hB, hR⟩ := h
  exact ⟨bl_then hb k, B, s, hB, hR.below k⟩
theorem AR.of {α : Type} {w0 w : World} {p : Nat} {xs : List UInt8} {st st' : St} {f : FuncId} {args : Array Value} {r : α × St} {v : α} {U : α → Value} (h : AR w0 w p xs st)
    (hC : ∀ B s, RdO w B p s xs st → Calls Try.prog f args w (Did w B p s xs r fun x _ u => u = U x)) (hr : r = (v, st')) :
    Calls Try.prog f args w fun x w' => x = .returned (U v) ∧ AR w0 w' p xs st' := by
  obtain ⟨hb, B, s, hB, hR⟩ := h
  refine (hC B s hR).mono fun x w' hP => ?_
  rw [hr] at hP
  obtain ⟨u, rfl, rfl, h1, h2⟩ := hP
  have := hR.lp
  exact ⟨rfl, hb.trans (h2.below (B := w0.heap.size) hb.size fun b hb => by omega), B, s, hB, h1⟩
theorem AR.rest {w0 w : World} {p : Nat} {xs : List UInt8} {st : St} (h : AR w0 w p xs st) :
    Calls Try.prog 55 #[.pointer (some ⟨p, 0, none⟩)] w fun x w' => x = .returned (.int .i64 (restS xs st : Int)) ∧ AR w0 w' p xs st := by
  obtain ⟨hb, B, s, hB, hR⟩ := h
  exact (dRest_any hR).mono fun x w' ⟨h1, h2⟩ => ⟨h1, AR.below ⟨hb, B, s, hB, hR⟩ h2⟩
theorem AR.end {w0 w : World} {p : Nat} {xs : List UInt8} {st : St} (h : AR w0 w p xs st) :
    Calls Try.prog 57 #[.pointer (some ⟨p, 0, none⟩)] w fun x w' => x = .returned (.agg #[.int .i64 ((endS xs st).1 : Int), .int .i64 ((endS xs st).2 : Int)]) ∧ AR w0 w' p xs st := by
  obtain ⟨hb, B, s, hB, hR⟩ := h
  exact (dEnd_any hR).mono fun x w' ⟨h1, h2⟩ => ⟨h1, AR.below ⟨hb, B, s, hB, hR⟩ h2⟩

def XS : List UInt8 := [0, 1, 255, 2, 1, 0, 1, 2, 97, 98, 0, 0, 0, 0, 0, 0, 0, 1, 1]
end Go.Proofs.Ytooghjnddifpdaa
end
section
namespace Go.Proofs.Ytooghjnddifpdaa
open Go.RowKit Go.Proofs.Ytooghjnddifpdaa.Wi Go.Proofs.Ytooghjnddifpdaa.Pc
attribute [local go_sem] cell_alloc_some frozen_alloc_some
set_option linter.unusedSimpArgs false
set_option linter.unusedVariables false

def paceP (xs : List UInt8) (a : Nat) : Rs Nat := match takeP xs 8 a a bigL with
  | .ok n a' => if nanB n = true ∧ n ≠ 9221120237041090560 then .bad 5 a else .ok n a'
  | .bad e f => .bad e f
theorem paceP_bad {xs a er f} (h : paceP xs a = .bad er f) : er ≠ 0 := by
  unfold paceP at h
  split at h
  · split at h <;> (injection h; try omega)
  · rename_i he; injection h with h1 h2; subst h1; exact takeP_bad he
end Go.Proofs.Ytooghjnddifpdaa
end
section
namespace Go.Proofs.Ytooghjnddifpdaa
open Go.RowKit Go.Proofs.Ytooghjnddifpdaa.Wi Go.Proofs.Ytooghjnddifpdaa.Pc
attribute [local go_sem] cell_alloc_some frozen_alloc_some
set_option linter.unusedSimpArgs false
set_option linter.unusedVariables false

/-- The blocks that calls so far may have turned. -/
def Tu (lo X H : Nat) (b : Nat) : Prop := (lo ≤ b ∧ b < X) ∨ H ≤ b
/-- A reader whose blocks lie from lo to hi. -/
def RO (w : World) (lo hi p : Nat) (xs : List UInt8) (st : St) : Prop := ∃ s, RdO w lo p s xs st ∧ p < hi ∧ ∀ b, s.ownBlock = some b → b < hi
theorem RdO.keep {w w' : World} {B p s xs st} {S : Nat → Prop} (h : RdO w B p s xs st) (k : Keep S w w') (h1 : ¬ S p) (h2 : ∀ b, s.ownBlock = some b → ¬ S b) : RdO w' B p s xs st := by
  cases st with
  | «at» a => exact Rd.keep h k h1 h2
  | bad e f => exact ⟨h.1, h.2.choose, h.2.choose_spec.keep k h1 h2⟩
theorem RdO.low {w : World} {B p s xs st} (h : RdO w B p s xs st) : ∀ b, s.ownBlock = some b → B ≤ b ∧ b < w.heap.size := by
  cases st with
  | «at» a => exact Rd.row h |>.lt
  | bad e f => exact h.2.choose_spec.row.lt
theorem RO.keep {w w' : World} {lo hi p xs st} {E : Nat → Prop} (h : RO w lo hi p xs st) (k : Keep E w w') (hn : ∀ b, lo ≤ b → b < hi → ¬ E b) : RO w' lo hi p xs st := by
  obtain ⟨s, hR, h1, h2⟩ := h
  exact ⟨s, hR.keep k (hn p hR.lp h1) (fun b hb => hn b (hR.low b hb).1 (h2 b hb)), h1, h2⟩
theorem RO.new {w : World} {v : Value} {l : List UInt8} (h : BytesOf w v l) (hl : l.length ≤ 2097152) :
    Calls Try.prog 52 #[v] w fun e w' => ∃ p, e = .returned (.pointer (some ⟨p, 0, none⟩)) ∧ RO w' w.heap.size w'.heap.size p l (.at 0) ∧ Below w.heap.size w w' :=
  (NewReader_any h hl).mono fun e w' ⟨p, s, h1, h2, h3⟩ => ⟨p, h1, ⟨s, h2, h2.ltp, fun b hb => (h2.low b hb).2⟩, h3⟩
theorem RO.op {α : Type} {w : World} {lo hi p : Nat} {xs : List UInt8} {st st' : St} {f : FuncId} {args : Array Value} {r : α × St} {v : α} {U : α → Value} (h : RO w lo hi p xs st) (lo' H : Nat) (hl : lo' ≤ lo)
    (hC : ∀ B s, RdO w B p s xs st → Calls Try.prog f args w (Did w B p s xs r fun x _ u => u = U x)) (hr : r = (v, st')) :
    Calls Try.prog f args w fun x w' => x = .returned (U v) ∧ RO w' lo hi p xs st' ∧ Keep (Tu lo' hi H) w w' := by
  obtain ⟨s, hR, h1, h2⟩ := h
  refine (hC lo s hR).mono fun x w' hP => ?_
  rw [hr] at hP
  obtain ⟨u, rfl, rfl, h3, h4⟩ := hP
  have := hR.lp
  exact ⟨rfl, ⟨s, h3, h1, h2⟩, h4.mono fun b _ hb => .inl (by subst hb; omega)⟩
theorem RO.rest {w : World} {lo hi p : Nat} {xs : List UInt8} {st : St} (h : RO w lo hi p xs st) {n : Int} (hn : (restS xs st : Int) = n) (E : Nat → Prop) :
    Calls Try.prog 55 #[.pointer (some ⟨p, 0, none⟩)] w fun x w' => x = .returned (.int .i64 n) ∧ RO w' lo hi p xs st ∧ Keep E w w' := by
  obtain ⟨s, hR, h1, h2⟩ := h
  subst hn
  exact (dRest_any hR).mono fun x w' ⟨h3, h4⟩ => ⟨h3, ⟨s, hR.below h4, h1, h2⟩, Keep.of_below h4⟩
/-- A writer whose blocks lie from lo to X or are new since H. -/
def WO (w : World) (lo X H p : Nat) (lim : Int) (bs : List UInt8) (e : Int) : Prop := ∃ s, Wr w lo p lim bs e s ∧ ∀ b, WrS p s b → Tu lo X H b
theorem WO.keep {w w' : World} {lo X H p : Nat} {lim : Int} {bs : List UInt8} {e : Int} {E : Nat → Prop} (h : WO w lo X H p lim bs e) (k : Keep E w w') (hn : ∀ b, b < w.heap.size → Tu lo X H b → ¬ E b) : WO w' lo X H p lim bs e := by
  obtain ⟨s, hW, h1⟩ := h
  exact ⟨s, hW.keep k fun b hb => hn b (hW.ltS hb).2 (h1 b hb), h1⟩
theorem WO.op {w : World} {lo X H p : Nat} {lim e : Int} {bs bs' : List UInt8} {e' : Int} {f : FuncId} {args : Array Value} {may : Bool} {l : List UInt8} (h : WO w lo X H p lim bs e) (hH : H ≤ w.heap.size)
    (hC : ∀ s, Wr w lo p lim bs e s → Calls Try.prog f args w (Puts w lo p lim e bs s may l)) (hp : putS lim bs e may l = ⟨bs', e'⟩) :
    Calls Try.prog f args w fun x w' => x = .returned (.int .i64 e') ∧ WO w' lo X H p lim bs' e' ∧ Keep (Tu lo X H) w w' := by
  obtain ⟨s, hW, h1⟩ := h
  refine (hC s hW).mono fun x w' hP => ?_
  unfold Puts at hP
  rw [hp] at hP
  obtain ⟨hx, s', h2, h3, h4⟩ := hP
  refine ⟨hx, ⟨s', h2, fun b hb => ?_⟩, h3.mono fun b _ hb => h1 b hb⟩
  rcases hb with rfl | hb
  · exact h1 _ (.inl rfl)
  · rcases h4 b hb with h | h
    · exact h1 _ (.inr h)
    · exact .inr (by omega)

end Go.Proofs.Ytooghjnddifpdaa
end
section
namespace Go.Proofs.Ytooghjnddifpdaa
open Go.RowKit Go.Proofs.Ytooghjnddifpdaa.Wi Go.Proofs.Ytooghjnddifpdaa.Pc
attribute [local go_sem] cell_alloc_some frozen_alloc_some
set_option linter.unusedSimpArgs false
set_option linter.unusedVariables false

/-- A thing. -/
structure Th where
  kind : Int
  n : Int
  b : List UInt8
  h : List UInt8
  k : List UInt8
  wd : Nat
  is : Bool
structure Th.Fine (x : Th) : Prop where
  n : x.n < 9223372036854775808
  b : x.b.length ≤ 1000000
  h : x.h.length = 32
  k : x.k.length = 4
  wd : x.wd < 18446744073709551616
def Th.cells (x : Th) (v : Value) : List Value := .int .i64 x.kind :: .int .i64 x.n :: v :: (u8s x.h ++ (u8s x.k ++ [.int .u64 x.wd, .bool x.is]))
theorem Th.cells_len {x : Th} (hx : x.Fine) (v : Value) : (x.cells v).length = 41 := by simp [Th.cells, u8s_len, hx.h, hx.k]
theorem Th.c0 (x : Th) (v : Value) : (x.cells v)[0]? = some (.int .i64 x.kind) := rfl
theorem Th.c1 (x : Th) (v : Value) : (x.cells v)[1]? = some (.int .i64 x.n) := rfl
theorem Th.c2 (x : Th) (v : Value) : (x.cells v)[2]? = some v := rfl
theorem Th.ch {x : Th} (hx : x.Fine) (v : Value) (j : Nat) (u : Value) (h : (u8s x.h)[j]? = some u) : (x.cells v)[3 + j]? = some u := by
  have hj : j < 32 := by have := (List.getElem?_eq_some_iff.1 h).1; rw [u8s_len, hx.h] at this; exact this
  rw [show 3 + j = j + 3 by omega]
  show (u8s x.h ++ _)[j]? = _
  rw [List.getElem?_append_left (by rw [u8s_len, hx.h]; exact hj)]
  exact h
theorem Th.ck {x : Th} (hx : x.Fine) (v : Value) (j : Nat) (u : Value) (h : (u8s x.k)[j]? = some u) : (x.cells v)[35 + j]? = some u := by
  have hj : j < 4 := by have := (List.getElem?_eq_some_iff.1 h).1; rw [u8s_len, hx.k] at this; exact this
  rw [show 35 + j = (32 + j) + 3 by omega]
  show (u8s x.h ++ _)[32 + j]? = _
  rw [List.getElem?_append_right (by rw [u8s_len, hx.h]; omega), u8s_len, hx.h, show 32 + j - 32 = j by omega, List.getElem?_append_left (by rw [u8s_len, hx.k]; exact hj)]
  exact h
theorem Th.c39 {x : Th} (hx : x.Fine) (v : Value) : (x.cells v)[39]? = some (.int .u64 x.wd) := by
  show (u8s x.h ++ _)[36]? = _
  rw [List.getElem?_append_right (by rw [u8s_len, hx.h]; omega), u8s_len, hx.h, List.getElem?_append_right (by rw [u8s_len, hx.k]; omega), u8s_len, hx.k]
  rfl
theorem Th.c40 {x : Th} (hx : x.Fine) (v : Value) : (x.cells v)[40]? = some (.bool x.is) := by
  show (u8s x.h ++ _)[37]? = _
  rw [List.getElem?_append_right (by rw [u8s_len, hx.h]; omega), u8s_len, hx.h, List.getElem?_append_right (by rw [u8s_len, hx.k]; omega), u8s_len, hx.k]
  rfl
theorem strB_size (l : List UInt8) : (strB l).size = l.length := by simp [strB, ByteArray.size]
theorem strB_list (l : List UInt8) : (strB l).data.toList = l := rfl

/-- May it be written, and in which form? -/
def Th.may (x : Th) : Bool := if x.kind = 0 then decide (0 ≤ x.n) else true
def Th.form (x : Th) : List UInt8 :=
  if x.kind = 0 then numL x.n.toNat else if x.kind = 1 then numL x.b.length ++ x.b else if x.kind = 2 then numL x.b.length ++ x.b else if x.kind = 3 then x.h
  else if x.kind = 4 then x.k else if x.kind = 5 then wrdL x.wd else if x.kind = 6 then wrdL (canon x.wd) else [if x.is then 1 else 0]
/-- What a writer answers, and has, behind a thing. -/
def ansT (lim : Int) (bs : List UInt8) (e : Int) (x : Th) : Int := if 0 ≤ x.kind ∧ x.kind ≤ 7 then (putS lim bs e x.may x.form).e else 0
def putT (lim : Int) (bs : List UInt8) (e : Int) (x : Th) : PutR := if 0 ≤ x.kind ∧ x.kind ≤ 7 then putS lim bs e x.may x.form else ⟨bs, e⟩
theorem kinds (x : Th) : x.kind = 0 ∨ x.kind = 1 ∨ x.kind = 2 ∨ x.kind = 3 ∨ x.kind = 4 ∨ x.kind = 5 ∨ x.kind = 6 ∨ x.kind = 7 ∨ ¬ (0 ≤ x.kind ∧ x.kind ≤ 7) := by omega
theorem arr_get {l : List Value} {i : Nat} {u : Value} (h : l[i]? = some u) : l.toArray[i]? = some u := by simpa using h
theorem box_cells {w : World} {x : Th} (hx : x.Fine) (v : Value) {t : TypeId} : (w.alloc (.cells (x.cells v).toArray t)).rangeAt w.heap.size 3 (u8s x.h) ∧ (w.alloc (.cells (x.cells v).toArray t)).rangeAt w.heap.size 35 (u8s x.k) := by
  have c := kb_cell (kb_new (w := w) rfl (.cells (x.cells v).toArray t))
  exact ⟨fun j u h => (c _).trans (arr_get (Th.ch hx v j u h)), fun j u h => (c _).trans (arr_get (Th.ck hx v j u h))⟩
theorem infoH : (Try.prog.info? 23).map (·.size) = some 32 := by kernel_rfl
theorem infoK : (Try.prog.info? 52).map (·.size) = some 4 := by kernel_rfl

/-- What 'puts' answers. -/
def PutsT (w : World) (B p : Nat) (lim e : Int) (bs : List UInt8) (s : Value) (x : Th) (e1 : Ending) (w' : World) : Prop :=
  e1 = .returned (.int .i64 (ansT lim bs e x)) ∧ WrTo w w' B p lim s (putT lim bs e x).bs (putT lim bs e x).e

/-- What 'ours' answers. -/
def RPutsT (w : World) (B p : Nat) (lim e : Int) (bs : List UInt8) (s : Value) (x : Th) (e1 : Ending) (w' : World) : Prop :=
  e1 = .returned (.int .i64 (ansT lim bs e x)) ∧ RWrTo w w' B p lim s (putT lim bs e x).bs (putT lim bs e x).e

end Go.Proofs.Ytooghjnddifpdaa
end
section
namespace Go.Proofs.Ytooghjnddifpdaa
open Go.RowKit Go.Proofs.Ytooghjnddifpdaa.Wi Go.Proofs.Ytooghjnddifpdaa.Pc
attribute [local go_sem] cell_alloc_some frozen_alloc_some
set_option linter.unusedSimpArgs false
set_option linter.unusedVariables false

theorem Th.one (x : Th) (v : Value) (hv : v.oneCell' = true) : (x.cells v).toArray.all (·.oneCell') = true := by
  rw [List.all_toArray, List.all_eq_true]
  intro u hu
  simp only [Th.cells, List.mem_cons, List.mem_append] at hu
  rcases hu with rfl | rfl | rfl | h | h | rfl | rfl | h
  · rfl
  · rfl
  · exact hv
  · exact u8s_one _ u h
  · exact u8s_one _ u h
  · rfl
  · rfl
  · cases h
theorem Th.put2 (x : Th) (u v : Value) : (x.cells u).toArray.setIfInBounds 2 v = (x.cells v).toArray := by
  rw [List.setIfInBounds_toArray]
  rfl
structure Th.Ok (x : Th) : Prop where
  n : x.n < 9223372036854775808
  h : x.h.length = 32
  k : x.k.length = 4
  wd : x.wd < 18446744073709551616
theorem Th.Ok.fine {x : Th} (h : x.Ok) (hb : x.b.length ≤ 1000000) : x.Fine := ⟨h.n, hb, h.h, h.k, h.wd⟩
/-- A thing in memory. -/
def ThAt (w : World) (b o : Nat) (x : Th) : Prop := ∃ u, w.rangeAt b o (x.cells u) ∧ BytesOf w u x.b
theorem ThAt.below {w w' : World} {b o : Nat} {x : Th} (h : ThAt w b o x) (hb : b < w.heap.size) (k : Below w.heap.size w w') : ThAt w' b o x := by
  obtain ⟨u, h1, h2⟩ := h
  exact ⟨u, fun j v hv => (k.cell (by exact hb)).trans (h1 j v hv), h2.below k⟩
/-- A slice of things. -/
def ThRow (w : World) (A : Option Addr) (l : List Th) : Prop := (∀ x ∈ l, x.Ok) ∧ (0 < l.length → ∃ b off, A = some ⟨b, off, none⟩ ∧ b < w.heap.size ∧ ∀ k x, l[k]? = some x → ThAt w b (off + k * 41) x)
theorem ThRow.below {w w' : World} {A : Option Addr} {l : List Th} (h : ThRow w A l) (k : Below w.heap.size w w') : ThRow w' A l :=
  ⟨h.1, fun h0 => by
    obtain ⟨b, off, e, hb, hc⟩ := h.2 h0
    exact ⟨b, off, e, Nat.lt_of_lt_of_le hb k.size, fun i x hx => (hc i x hx).below hb k⟩⟩

/-- What Done tells. -/
def doneL (e : Int) (bs : List UInt8) : List UInt8 := if e = 0 then bs else []
theorem NewBytes.none {w w' : World} (h : Below w.heap.size w w') : NewBytes w w' (.slice none 0 0) [] := ⟨World.ownsRow_nil _ _ _ _, h⟩
theorem wDone_any {w : World} {B p : Nat} {lim e : Int} {bs : List UInt8} {s : Value} (F : Wr w B p lim bs e s) :
    Calls Try.prog 68 #[.pointer (some ⟨p, 0, none⟩)] w fun e1 w' => ∃ v, e1 = .returned (.tuple #[v, .int .i64 e]) ∧ NewBytes w w' v (doneL e bs) := by
  unfold doneL
  by_cases he : e = 0
  · subst he
    rw [if_pos rfl]
    exact wDone_ok F
  · rw [if_neg he]
    exact (wDone_err F he).mono fun e1 w' ⟨h1, h2⟩ => ⟨_, h1, NewBytes.none h2⟩
theorem rwDone_any {w : World} {B p : Nat} {lim e : Int} {bs : List UInt8} {s : Value} (F : RWr w B p lim bs e s) :
    Calls Try.prog 73 #[.pointer (some ⟨p, 0, none⟩)] w fun e1 w' => ∃ v, e1 = .returned (.tuple #[v, .int .i64 e]) ∧ NewBytes w w' v (doneL e bs) := by
  unfold doneL
  by_cases he : e = 0
  · subst he
    rw [if_pos rfl]
    exact rwDone_ok F
  · rw [if_neg he]
    exact (rwDone_err F he).mono fun e1 w' ⟨h1, h2⟩ => ⟨_, h1, NewBytes.none h2⟩
theorem doneL_len {e : Int} {bs : List UInt8} (h : bs.length ≤ 1048576) : (doneL e bs).length ≤ 1048576 := by
  unfold doneL; split
  · exact h
  · simp
theorem OverBytes_lent {w : World} {B g : Nat} {v : Value} {l : List UInt8} (h : Lent w B g v l) (hl : l.length ≤ 1000000) :
    Calls Try.prog 38 #[v] w fun e w' => (∃ u, e = .returned u) ∧ Keep (fun b => b = g) w w' := by
  obtain ⟨cap, rfl, ho⟩ := h
  have hh : ∃ cs, w.heap[g]? = some (.cells cs 5 (0, 0)) ∧ (cs.toList.take (l.length + 4) = u8s (l ++ [201, 202, 203, 204])) := by
    rcases ho.2 with ⟨h0, _⟩ | ⟨g', cap', cur, e, _, hh, _, _, _, ht⟩
    · cases h0
    · simp only [Value.slice.injEq, Option.some.injEq, Addr.mk.injEq] at e
      obtain ⟨⟨rfl, _⟩, _⟩ := e
      simp only [Nat.mul_one] at ht
      exact ⟨cur, hh, ht⟩
  obtain ⟨cs, hh, ht⟩ := hh
  refine OverBytes_some ⟨cap, cs, rfl, hh, fun j hj => ⟨l[j], ?_⟩⟩ (by omega)
  have e : (u8s (l ++ [201, 202, 203, 204]))[j]? = some (u8v l[j]) := by
    rw [u8s_append, List.getElem?_append_left (by rw [u8s_len]; exact hj)]
    exact u8s_get l j hj
  rw [← ht, List.getElem?_take, if_pos (by omega)] at e
  simpa using e
end Go.Proofs.Ytooghjnddifpdaa
end
section
namespace Go.Proofs.Ytooghjnddifpdaa
open Go.RowKit Go.Proofs.Ytooghjnddifpdaa.Wi Go.Proofs.Ytooghjnddifpdaa.Pc
attribute [local go_sem] cell_alloc_some frozen_alloc_some
set_option linter.unusedSimpArgs false
set_option linter.unusedVariables false

end Go.Proofs.Ytooghjnddifpdaa
end
section
namespace Go.Proofs.Ytooghjnddifpdaa
open Go.RowKit Go.Proofs.Ytooghjnddifpdaa.Wi Go.Proofs.Ytooghjnddifpdaa.Pc
attribute [local go_sem] cell_alloc_some frozen_alloc_some
set_option linter.unusedSimpArgs false
set_option linter.unusedVariables false
theorem bytes_range {w : World} {v : Value} {l : List UInt8} (h : BytesOf w v l) (h0 : 0 < l.length) : ∃ b off cap, v = .slice (some ⟨b, off, none⟩) l.length cap ∧ b < w.heap.size ∧ w.rangeAt b off (u8s l) := by
  obtain ⟨A, cap, rfl, _, hc⟩ := h
  obtain ⟨b, off, rfl, hb, hcc⟩ := hc h0
  exact ⟨b, off, cap, rfl, hb, hcc⟩
theorem u8s_all (l : List UInt8) : (u8s l).toArray.all (·.oneCell') = true := by
  rw [List.all_toArray, List.all_eq_true]
  exact u8s_one l
theorem takeP_len {xs : List UInt8} {n a f a' : Nat} {l : List UInt8} (h : takeP xs n a f id = .ok l a') : l.length = n := by
  unfold takeP at h
  split at h
  · injection h with h1 h2
    rw [← h1, id, List.length_take, List.length_drop]; omega
  · injection h
theorem Reads.keep {α : Type} {w : World} {B p : Nat} {s : Value} {xs : List UInt8} {r : Rs α} {V : α → World → Value → Prop} {z : Value} {e : Ending} {w' : World} (h : Reads w B p s xs r V z e w') : Keep (fun b => b = p) w w' := by
  cases r with
  | ok v a => obtain ⟨u, _, _, h⟩ := h; exact h.2
  | bad er f => obtain ⟨_, a, h⟩ := h; exact h.2
theorem step_len {xs zl : List UInt8} {n : Nat} (hz : zl.length = n) (st : St) : (step (fun a => takeP xs n a a id) zl st).1.length = n := by
  cases st with
  | «at» a =>
    simp only [step]
    cases h : takeP xs n a a id with
    | ok v a' => exact takeP_len h
    | bad e f => exact hz
  | bad e f => exact hz

theorem run_arrHash (W : World) (b off c : Nat) : (Instr.arrayAt 23 (.slice (some ⟨b, off, none⟩) 32 c)).run Try.prog W = .ok (.pointer (some ⟨b, off, none⟩)) W := by
  unfold Instr.arrayAt
  simp only [Sem.run_bind, run_underlying Try.underlying23 W, Result.andThen_ok]
  rfl
theorem sizeHash : (Try.prog.info? 23).map (·.size) = some 32 := by kernel_rfl
set_option maxRecDepth 100000 in
set_option maxHeartbeats 1000000 in
theorem arrHash {w : World} {v : Value} {l : List UInt8} (hv : BytesOf w v l) (hl : l.length = 32) :
    Calls Try.prog 84 #[v] w fun e w' => e = .returned (.agg (u8s l).toArray) ∧ Below w.heap.size w w' := by
  obtain ⟨b, off, c, rfl, hb, hr⟩ := bytes_range hv (by omega)
  rw [hl]
  have hsa := fun W => run_arrHash W b off c
  have HR := Lib.hid (show ∀ o, (w.alloc o).rangeAt b off (u8s l) from fun o => range_below hr hb (bl_alloc (Below.refl _ _) o))
  have hsz : (u8s l).length = 32 := by rw [u8s_len]; exact hl
  have hszA : (u8s l).toArray.size = 32 := by simpa using hsz
  clear hr hv
  go_enter Try.func84, Try.ntmps84
  go_wp2_with (first
    | (with_reducible refine wpList_load_mid rfl 23 _ rfl b off rfl (u8s l) _ (HR.out _) Try.underlying23 rfl (sizeHash.trans (congrArg some hsz.symm)) ?_)
    | (with_reducible refine wpList_store_new rfl 23 _ _ rfl (u8s l).toArray rfl rfl (Eq.trans (b := 32) (by kernel_rfl) hszA.symm) (sizeHash.trans (congrArg some hszA.symm)) (u8s_all l) ?_))
  exact bodyPost_ret (results_cell_row rfl _ _ w.heap.size 23 _ (0, 0) _ rfl (kb_new rfl _) Try.underlying23 rfl (sizeHash.trans (congrArg some hszA.symm))) rfl ⟨rfl, by (repeat (with_reducible (first | exact Below.refl _ _ | assumption | refine bl_alloc ?_ _ | refine bl_drew ?_ | refine bl_drewN ?_ _ | (refine bl_set ?_ ?_ _; (focus (first | (simp; done) | (simp; omega) | omega))) | refine bl_then ?_ (by assumption))))⟩

set_option maxHeartbeats 1000000 in
theorem takeHash_short {w : World} {B p : Nat} {s : Value} {xs : List UInt8} {a : Nat} (n : Nat) (f : Int) (mk : Value) (F : Rd w B p s xs a 0 0) (hn : xs.length < a + n) (h63 : n < 9223372036854775808) :
    Calls Try.prog 83 #[.pointer (some ⟨p, 0, none⟩), .int .i64 n, .int .i64 f, mk] w fun e w' => e = .panicked [{ v := wrongV 6 f, recovered := false }] ∧ Below w.heap.size w w' := by
  obtain ⟨A, cap, rfl⟩ := (RowOf.of_own F.row).form
  have hlt := kb_lt F.st
  have c0 := kb_cell F.st 0
  have c1 := kb_cell F.st 1
  simp at c0 c1
  have hd : decide ((n : Int) ≤ (xs.length : Int) - (a : Int)) = false := decide_eq_false (by omega)
  have hw : IntKind.i64.wrap ((xs.length : Int) - (a : Int)) = (xs.length : Int) - (a : Int) := IntWalk.i64_in _ (by have := F.len; have := F.le; omega)
  have hx : ∀ o, (w.alloc o).cell? ⟨p, 0, none⟩ = some (.slice A xs.length cap) ∧ (w.alloc o).cell? ⟨p, 1, none⟩ = some (.int .i64 (a : Int)) := fun o => ⟨(cell_alloc_some w p 0 o (by rw [c0]; rfl)).trans c0, (cell_alloc_some w p 1 o (by rw [c1]; rfl)).trans c1⟩
  have HX := Lib.hid hx
  clear F hx
  go_enter Try.func83, Try.ntmps83
  go_wp2
  refine wp_region_held_drew (S := (fun W : World => W.cell? ⟨p, 0, none⟩ = some (.slice A xs.length cap) ∧ W.cell? ⟨p, 1, none⟩ = some (.int .i64 (a : Int)))) (by kernel_rfl) (HX.out _) (fun hHeld => ?_)
  refine wpAnyH_take (i := 0) (oi := { dst := some 9, op := _, type := _, pos := _, after := _, guard := _ }) (v := ?_) rfl (by kernel_rfl) (by kernel_rfl) (by kernel_rfl) (fun _ _ _ h => h) (Or.inl ⟨by rfl, ?_⟩) hHeld ?_
  rotate_left
  · (intro w hSw; (try dsimp only at hSw); go_simp); all_goals with_reducible rfl
  try simp only [Act.put, List.setIfInBounds_toArray, List.set_cons_zero, List.set_cons_succ]
  refine wpAnyH_take (i := 1) (oi := { dst := some 10, op := _, type := _, pos := _, after := _, guard := _ }) (v := ?_) rfl (by kernel_rfl) (by kernel_rfl) (by kernel_rfl) (fun _ _ _ h => h) (Or.inl ⟨by rfl, ?_⟩) hHeld ?_
  rotate_left
  · (intro w hSw; (try dsimp only at hSw); go_simp); all_goals with_reducible rfl
  try simp only [Act.put, List.setIfInBounds_toArray, List.set_cons_zero, List.set_cons_succ]
  refine wpAnyH_take (i := 2) (oi := { dst := some 11, op := _, type := _, pos := _, after := _, guard := _ }) (v := ?_) rfl (by kernel_rfl) (by kernel_rfl) (by kernel_rfl) (fun _ _ _ h => h) (Or.inl ⟨by rfl, ?_⟩) hHeld ?_
  rotate_left
  · (intro w hSw; (try dsimp only at hSw); go_simp); all_goals with_reducible rfl
  try simp only [Act.put, List.setIfInBounds_toArray, List.set_cons_zero, List.set_cons_succ]
  refine wpAnyH_take (i := 3) (oi := { dst := some 12, op := _, type := _, pos := _, after := _, guard := _ }) (v := ?_) rfl (by kernel_rfl) (by kernel_rfl) (by kernel_rfl) (fun _ _ _ h => h) (Or.inl ⟨by rfl, ?_⟩) hHeld ?_
  rotate_left
  · (intro w hSw; (try dsimp only at hSw); go_simp); all_goals with_reducible rfl
  try simp only [Act.put, List.setIfInBounds_toArray, List.set_cons_zero, List.set_cons_succ]
  refine wpAnyH_take (i := 4) (oi := { dst := some 13, op := _, type := _, pos := _, after := _, guard := _ }) (v := ?_) rfl (by kernel_rfl) (by kernel_rfl) (by kernel_rfl) (fun _ _ _ h => h) (Or.inl ⟨by rfl, ?_⟩) hHeld ?_
  rotate_left
  · (intro w hSw; (try dsimp only at hSw); go_simp); all_goals with_reducible rfl
  try simp only [Act.put, List.setIfInBounds_toArray, List.set_cons_zero, List.set_cons_succ]
  refine wpAnyH_take (i := 5) (oi := { dst := some 14, op := _, type := _, pos := _, after := _, guard := _ }) (v := ?_) rfl (by kernel_rfl) (by kernel_rfl) (by kernel_rfl) (fun _ _ _ h => h) (Or.inl ⟨by rfl, ?_⟩) hHeld ?_
  rotate_left
  · (intro w hSw; (try dsimp only at hSw); go_simp); all_goals with_reducible rfl
  try simp only [Act.put, List.setIfInBounds_toArray, List.set_cons_zero, List.set_cons_succ]
  refine wpAnyH_take (i := 6) (oi := { dst := some 15, op := _, type := _, pos := _, after := _, guard := _ }) (v := ?_) rfl (by kernel_rfl) (by kernel_rfl) (by kernel_rfl) (fun _ _ _ h => h) (Or.inl ⟨by rfl, ?_⟩) hHeld ?_
  rotate_left
  · (intro w hSw; (try dsimp only at hSw); go_simp); all_goals with_reducible rfl
  try simp only [Act.put, List.setIfInBounds_toArray, List.set_cons_zero, List.set_cons_succ]
  refine wpAnyH_take (i := 7) (oi := { dst := some 16, op := _, type := _, pos := _, after := _, guard := _ }) (v := ?_) rfl (by kernel_rfl) (by kernel_rfl) (by kernel_rfl) (fun _ _ _ h => h) (Or.inl ⟨by rfl, ?_⟩) hHeld ?_
  rotate_left
  · (intro w hSw; (try dsimp only at hSw); go_simp); all_goals with_reducible rfl
  try simp only [Act.put, List.setIfInBounds_toArray, List.set_cons_zero, List.set_cons_succ]
  refine wpAnyH_take (i := 8) (oi := { dst := some 17, op := _, type := _, pos := _, after := _, guard := _ }) (v := ?_) rfl (by kernel_rfl) (by kernel_rfl) (by kernel_rfl) (fun _ _ _ h => h) (Or.inl ⟨by rfl, ?_⟩) hHeld ?_
  rotate_left
  · (intro w hSw; (try dsimp only at hSw); go_simp); all_goals with_reducible rfl
  try simp only [Act.put, List.setIfInBounds_toArray, List.set_cons_zero, List.set_cons_succ]
  refine wpAnyH_take (i := 9) (oi := { dst := some 18, op := _, type := _, pos := _, after := _, guard := _ }) (v := ?_) rfl (by kernel_rfl) (by kernel_rfl) (by kernel_rfl) (fun _ _ _ h => h) (Or.inl ⟨by rfl, ?_⟩) hHeld ?_
  rotate_left
  · (intro w hSw; (try dsimp only at hSw); go_simp); all_goals with_reducible rfl
  try simp only [Act.put, List.setIfInBounds_toArray, List.set_cons_zero, List.set_cons_succ]
  refine wpAnyH_take (i := 10) (oi := { dst := some 19, op := _, type := _, pos := _, after := _, guard := _ }) (v := ?_) rfl (by kernel_rfl) (by kernel_rfl) (by kernel_rfl) (fun _ _ _ h => h) (Or.inl ⟨by rfl, ?_⟩) hHeld ?_
  rotate_left
  · (intro w hSw; (try dsimp only at hSw); go_simp); all_goals with_reducible rfl
  try simp only [Act.put, List.setIfInBounds_toArray, List.set_cons_zero, List.set_cons_succ]
  refine wpAnyH_take (i := 11) (oi := { dst := some 20, op := _, type := _, pos := _, after := _, guard := _ }) (v := ?_) rfl (by kernel_rfl) (by kernel_rfl) (by kernel_rfl) (fun _ _ _ h => h) (Or.inl ⟨by rfl, ?_⟩) hHeld ?_
  rotate_left
  · (intro w hSw; (try dsimp only at hSw); go_simp); all_goals with_reducible rfl
  try simp only [Act.put, List.setIfInBounds_toArray, List.set_cons_zero, List.set_cons_succ]
  refine wpAnyH_take (i := 12) (oi := { dst := some 21, op := _, type := _, pos := _, after := _, guard := _ }) (v := ?_) rfl (by kernel_rfl) (by kernel_rfl) (by kernel_rfl) (fun _ _ _ h => h) (Or.inl ⟨by rfl, ?_⟩) hHeld ?_
  rotate_left
  · (intro w hSw; (try dsimp only at hSw); go_simp); all_goals with_reducible rfl
  try simp only [Act.put, List.setIfInBounds_toArray, List.set_cons_zero, List.set_cons_succ]
  refine wpAnyH_ready (rs := [13]) (by kernel_rfl) (by simp) (AllReadyH.cons (o := _) rfl (fun K hK => ?_) AllReadyH.nil)
  go_simp
  refine (must_no _ _ _).mono ?_
  rintro e w' ⟨rfl, rfl⟩
  exact ⟨rfl, rfl, by (repeat (with_reducible (first | exact Below.refl _ _ | assumption | refine bl_alloc ?_ _ | refine bl_drew ?_ | refine bl_drewN ?_ _ | (refine bl_set ?_ ?_ _; (focus (first | (simp; done) | (simp; omega) | omega))) | refine bl_then ?_ (by assumption))))⟩
set_option maxRecDepth 100000 in
set_option maxHeartbeats 2000000 in
theorem takeHash_ok {w : World} {B p : Nat} {s : Value} {xs : List UInt8} {a : Nat} (f : Int) (F : Rd w B p s xs a 0 0) (hn : a + 32 ≤ xs.length) :
    Calls Try.prog 83 #[.pointer (some ⟨p, 0, none⟩), .int .i64 32, .int .i64 f, .func (.func 84) #[] #[]] w fun e w' => ∃ u, e = .returned u ∧ u = .agg (u8s ((xs.drop a).take 32)).toArray ∧ RdTo (fun b => b = p) w w' B p s xs (a + 32) := by
  obtain ⟨A, c, rfl⟩ := (RowOf.of_own F.row).form
  have hlt := kb_lt F.st
  have hle := F.len
  have hd : decide ((32 : Int) ≤ (xs.length : Int) - (a : Int)) = true := decide_eq_true (by omega)
  have hw : IntKind.i64.wrap ((xs.length : Int) - (a : Int)) = (xs.length : Int) - (a : Int) := IntWalk.i64_in _ (by have := F.len; have := F.le; omega)
  have hw2 : IntKind.i64.wrap ((a : Int) + 32) = (a : Int) + 32 := IntWalk.i64_in _ (by omega)
  have hw3 : IntKind.i64.wrap ((a : Int) + 32 - 32) = (a : Int) := by rw [IntWalk.i64_in _ (by omega)]; omega
  have hw4 : IntKind.i64.wrap (a : Int) = (a : Int) := IntWalk.i64_in _ (by omega)
  obtain ⟨A', hsl, hsb⟩ := part_run F.row a 32 hn
  rw [show ((32 : Nat) : Int) = (32 : Int) from rfl] at hsl
  have eK : Enters 84 := fun _ _ => by kernel_rfl
  unfold Enters at eK
  obtain ⟨Z, hZ, hZs⟩ : ∃ Z : Array Value, Z = #[.int .u8 0, .int .u8 0, .int .u8 0, .int .u8 0, .int .u8 0, .int .u8 0, .int .u8 0, .int .u8 0, .int .u8 0, .int .u8 0, .int .u8 0, .int .u8 0, .int .u8 0, .int .u8 0, .int .u8 0, .int .u8 0, .int .u8 0, .int .u8 0, .int .u8 0, .int .u8 0, .int .u8 0, .int .u8 0, .int .u8 0, .int .u8 0, .int .u8 0, .int .u8 0, .int .u8 0, .int .u8 0, .int .u8 0, .int .u8 0, .int .u8 0, .int .u8 0] ∧ Z.size = 32 := ⟨_, rfl, rfl⟩
  have bA : Below w.heap.size w (w.alloc (.cells Z 23)) := bl_alloc (Below.refl _ _) _
  have FA := F.below bA
  have DA := kb_new (w := w) rfl (.cells Z 23)
  rw [hZ] at FA bA DA
  generalize hWA : w.alloc (.cells #[.int .u8 0, .int .u8 0, .int .u8 0, .int .u8 0, .int .u8 0, .int .u8 0, .int .u8 0, .int .u8 0, .int .u8 0, .int .u8 0, .int .u8 0, .int .u8 0, .int .u8 0, .int .u8 0, .int .u8 0, .int .u8 0, .int .u8 0, .int .u8 0, .int .u8 0, .int .u8 0, .int .u8 0, .int .u8 0, .int .u8 0, .int .u8 0, .int .u8 0, .int .u8 0, .int .u8 0, .int .u8 0, .int .u8 0, .int .u8 0, .int .u8 0, .int .u8 0] 23) = wA at *
  have hsA : wA.heap.size = w.heap.size + 1 := by rw [← hWA]; simp
  have HWA := Lib.hid hWA
  have HBA := Lib.hid bA
  have HF := Lib.hid F
  have HFA := Lib.hid FA
  have HDA := Lib.hid DA
  have c0 := kb_cell FA.st 0
  have c1 := kb_cell FA.st 1
  simp at c0 c1
  have z1 : wA.frozen? ⟨p, 1, none⟩ = false := kb_frozen FA.st 1
  have HB := Lib.hid hsb
  clear F hsb FA DA hZ hZs bA
  go_enter Try.func83, Try.ntmps83
  go_wp2
  try rw [HWA.out]
  refine wp_region_held_drew (S := (fun W : World => W.cell? ⟨p, 0, none⟩ = some (.slice A xs.length c) ∧ W.cell? ⟨p, 1, none⟩ = some (.int .i64 (a : Int)))) (by kernel_rfl) ⟨c0, c1⟩ (fun hHeld => ?_)
  refine wpAnyH_take (i := 0) (oi := { dst := some 9, op := _, type := _, pos := _, after := _, guard := _ }) (v := ?_) rfl (by kernel_rfl) (by kernel_rfl) (by kernel_rfl) (fun _ _ _ h => h) (Or.inl ⟨by rfl, ?_⟩) hHeld ?_
  rotate_left
  · (intro w hSw; (try dsimp only at hSw); go_simp); all_goals with_reducible rfl
  try simp only [Act.put, List.setIfInBounds_toArray, List.set_cons_zero, List.set_cons_succ]
  refine wpAnyH_take (i := 1) (oi := { dst := some 10, op := _, type := _, pos := _, after := _, guard := _ }) (v := ?_) rfl (by kernel_rfl) (by kernel_rfl) (by kernel_rfl) (fun _ _ _ h => h) (Or.inl ⟨by rfl, ?_⟩) hHeld ?_
  rotate_left
  · (intro w hSw; (try dsimp only at hSw); go_simp); all_goals with_reducible rfl
  try simp only [Act.put, List.setIfInBounds_toArray, List.set_cons_zero, List.set_cons_succ]
  refine wpAnyH_take (i := 2) (oi := { dst := some 11, op := _, type := _, pos := _, after := _, guard := _ }) (v := ?_) rfl (by kernel_rfl) (by kernel_rfl) (by kernel_rfl) (fun _ _ _ h => h) (Or.inl ⟨by rfl, ?_⟩) hHeld ?_
  rotate_left
  · (intro w hSw; (try dsimp only at hSw); go_simp); all_goals with_reducible rfl
  try simp only [Act.put, List.setIfInBounds_toArray, List.set_cons_zero, List.set_cons_succ]
  refine wpAnyH_take (i := 3) (oi := { dst := some 12, op := _, type := _, pos := _, after := _, guard := _ }) (v := ?_) rfl (by kernel_rfl) (by kernel_rfl) (by kernel_rfl) (fun _ _ _ h => h) (Or.inl ⟨by rfl, ?_⟩) hHeld ?_
  rotate_left
  · (intro w hSw; (try dsimp only at hSw); go_simp); all_goals with_reducible rfl
  try simp only [Act.put, List.setIfInBounds_toArray, List.set_cons_zero, List.set_cons_succ]
  refine wpAnyH_take (i := 4) (oi := { dst := some 13, op := _, type := _, pos := _, after := _, guard := _ }) (v := ?_) rfl (by kernel_rfl) (by kernel_rfl) (by kernel_rfl) (fun _ _ _ h => h) (Or.inl ⟨by rfl, ?_⟩) hHeld ?_
  rotate_left
  · (intro w hSw; (try dsimp only at hSw); go_simp); all_goals with_reducible rfl
  try simp only [Act.put, List.setIfInBounds_toArray, List.set_cons_zero, List.set_cons_succ]
  refine wpAnyH_take (i := 5) (oi := { dst := some 14, op := _, type := _, pos := _, after := _, guard := _ }) (v := ?_) rfl (by kernel_rfl) (by kernel_rfl) (by kernel_rfl) (fun _ _ _ h => h) (Or.inl ⟨by rfl, ?_⟩) hHeld ?_
  rotate_left
  · (intro w hSw; (try dsimp only at hSw); go_simp); all_goals with_reducible rfl
  try simp only [Act.put, List.setIfInBounds_toArray, List.set_cons_zero, List.set_cons_succ]
  refine wpAnyH_take (i := 6) (oi := { dst := some 15, op := _, type := _, pos := _, after := _, guard := _ }) (v := ?_) rfl (by kernel_rfl) (by kernel_rfl) (by kernel_rfl) (fun _ _ _ h => h) (Or.inl ⟨by rfl, ?_⟩) hHeld ?_
  rotate_left
  · (intro w hSw; (try dsimp only at hSw); go_simp); all_goals with_reducible rfl
  try simp only [Act.put, List.setIfInBounds_toArray, List.set_cons_zero, List.set_cons_succ]
  refine wpAnyH_take (i := 7) (oi := { dst := some 16, op := _, type := _, pos := _, after := _, guard := _ }) (v := ?_) rfl (by kernel_rfl) (by kernel_rfl) (by kernel_rfl) (fun _ _ _ h => h) (Or.inl ⟨by rfl, ?_⟩) hHeld ?_
  rotate_left
  · (intro w hSw; (try dsimp only at hSw); go_simp); all_goals with_reducible rfl
  try simp only [Act.put, List.setIfInBounds_toArray, List.set_cons_zero, List.set_cons_succ]
  refine wpAnyH_take (i := 8) (oi := { dst := some 17, op := _, type := _, pos := _, after := _, guard := _ }) (v := ?_) rfl (by kernel_rfl) (by kernel_rfl) (by kernel_rfl) (fun _ _ _ h => h) (Or.inl ⟨by rfl, ?_⟩) hHeld ?_
  rotate_left
  · (intro w hSw; (try dsimp only at hSw); go_simp); all_goals with_reducible rfl
  try simp only [Act.put, List.setIfInBounds_toArray, List.set_cons_zero, List.set_cons_succ]
  refine wpAnyH_take (i := 9) (oi := { dst := some 18, op := _, type := _, pos := _, after := _, guard := _ }) (v := ?_) rfl (by kernel_rfl) (by kernel_rfl) (by kernel_rfl) (fun _ _ _ h => h) (Or.inl ⟨by rfl, ?_⟩) hHeld ?_
  rotate_left
  · (intro w hSw; (try dsimp only at hSw); go_simp); all_goals with_reducible rfl
  try simp only [Act.put, List.setIfInBounds_toArray, List.set_cons_zero, List.set_cons_succ]
  refine wpAnyH_take (i := 10) (oi := { dst := some 19, op := _, type := _, pos := _, after := _, guard := _ }) (v := ?_) rfl (by kernel_rfl) (by kernel_rfl) (by kernel_rfl) (fun _ _ _ h => h) (Or.inl ⟨by rfl, ?_⟩) hHeld ?_
  rotate_left
  · (intro w hSw; (try dsimp only at hSw); go_simp); all_goals with_reducible rfl
  try simp only [Act.put, List.setIfInBounds_toArray, List.set_cons_zero, List.set_cons_succ]
  refine wpAnyH_take (i := 11) (oi := { dst := some 20, op := _, type := _, pos := _, after := _, guard := _ }) (v := ?_) rfl (by kernel_rfl) (by kernel_rfl) (by kernel_rfl) (fun _ _ _ h => h) (Or.inl ⟨by rfl, ?_⟩) hHeld ?_
  rotate_left
  · (intro w hSw; (try dsimp only at hSw); go_simp); all_goals with_reducible rfl
  try simp only [Act.put, List.setIfInBounds_toArray, List.set_cons_zero, List.set_cons_succ]
  refine wpAnyH_take (i := 12) (oi := { dst := some 21, op := _, type := _, pos := _, after := _, guard := _ }) (v := ?_) rfl (by kernel_rfl) (by kernel_rfl) (by kernel_rfl) (fun _ _ _ h => h) (Or.inl ⟨by rfl, ?_⟩) hHeld ?_
  rotate_left
  · (intro w hSw; (try dsimp only at hSw); go_simp); all_goals with_reducible rfl
  try simp only [Act.put, List.setIfInBounds_toArray, List.set_cons_zero, List.set_cons_succ]
  refine wpAnyH_ready (rs := [13]) (by kernel_rfl) (by simp) (AllReadyH.cons (o := _) rfl (fun K hK => ?_) AllReadyH.nil)
  go_simp
  refine (must_yes _ _ _).mono ?_
  rintro e w' ⟨rfl, rfl⟩
  refine hK.out _ _ ⟨c0, c1⟩ (fun hHeld => ?_)
  refine wpAnyH_done (by kernel_rfl) ?_ _
  clear hHeld hK
  go_wp2
  have F1 := HFA.out.put (a + 32) hn
  have k1 : Keep (fun b => b = p) wA (wA.setCell ⟨p, 1, none⟩ (.int .i64 ((a : Int) + 32))) := (Keep.refl (fun b => b = p) wA).set (p := ⟨p, 1, none⟩) (fun _ => rfl) _
  rw [show ((a + 32 : Nat) : Int) = (a : Int) + 32 from rfl] at F1
  have D1 := k1.kb HDA.out (by omega)
  generalize wA.setCell ⟨p, 1, none⟩ (.int .i64 ((a : Int) + 32)) = wB at *
  have d0 := kb_cell F1.st 0
  have d1 := kb_cell F1.st 1
  simp at d0 d1
  have HF1 := Lib.hid F1
  have HD1 := Lib.hid D1
  have HK1 := Lib.hid k1
  clear F1 D1 k1
  refine wp_region_held_drew (S := (fun W : World => W.cell? ⟨p, 0, none⟩ = some (.slice A xs.length c) ∧ W.cell? ⟨p, 1, none⟩ = some (.int .i64 ((a : Int) + 32)))) (by kernel_rfl) ⟨d0, d1⟩ (fun hHeld => ?_)
  refine wpAnyH_take (i := 0) (oi := { dst := some 31, op := _, type := _, pos := _, after := _, guard := _ }) (v := ?_) rfl (by kernel_rfl) (by kernel_rfl) (by kernel_rfl) (fun _ _ _ h => h) (Or.inl ⟨by rfl, ?_⟩) hHeld ?_
  rotate_left
  · (intro w hSw; (try dsimp only at hSw); go_simp); all_goals with_reducible rfl
  try simp only [Act.put, List.setIfInBounds_toArray, List.set_cons_zero, List.set_cons_succ]
  refine wpAnyH_take (i := 1) (oi := { dst := some 32, op := _, type := _, pos := _, after := _, guard := _ }) (v := ?_) rfl (by kernel_rfl) (by kernel_rfl) (by kernel_rfl) (fun _ _ _ h => h) (Or.inl ⟨by rfl, ?_⟩) hHeld ?_
  rotate_left
  · (intro w hSw; (try dsimp only at hSw); go_simp); all_goals with_reducible rfl
  try simp only [Act.put, List.setIfInBounds_toArray, List.set_cons_zero, List.set_cons_succ]
  refine wpAnyH_take (i := 2) (oi := { dst := some 33, op := _, type := _, pos := _, after := _, guard := _ }) (v := ?_) rfl (by kernel_rfl) (by kernel_rfl) (by kernel_rfl) (fun _ _ _ h => h) (Or.inl ⟨by rfl, ?_⟩) hHeld ?_
  rotate_left
  · (intro w hSw; (try dsimp only at hSw); go_simp); all_goals with_reducible rfl
  try simp only [Act.put, List.setIfInBounds_toArray, List.set_cons_zero, List.set_cons_succ]
  refine wpAnyH_take (i := 3) (oi := { dst := some 34, op := _, type := _, pos := _, after := _, guard := _ }) (v := ?_) rfl (by kernel_rfl) (by kernel_rfl) (by kernel_rfl) (fun _ _ _ h => h) (Or.inl ⟨by rfl, ?_⟩) hHeld ?_
  rotate_left
  · (intro w hSw; (try dsimp only at hSw); go_simp); all_goals with_reducible rfl
  try simp only [Act.put, List.setIfInBounds_toArray, List.set_cons_zero, List.set_cons_succ]
  refine wpAnyH_take (i := 4) (oi := { dst := some 35, op := _, type := _, pos := _, after := _, guard := _ }) (v := ?_) rfl (by kernel_rfl) (by kernel_rfl) (by kernel_rfl) (fun _ _ _ h => h) (Or.inl ⟨by rfl, ?_⟩) hHeld ?_
  rotate_left
  · (intro w hSw; (try dsimp only at hSw); go_simp); all_goals with_reducible rfl
  try simp only [Act.put, List.setIfInBounds_toArray, List.set_cons_zero, List.set_cons_succ]
  refine wpAnyH_take (i := 5) (oi := { dst := some 36, op := _, type := _, pos := _, after := _, guard := _ }) (v := ?_) rfl (by kernel_rfl) (by kernel_rfl) (by kernel_rfl) (fun _ _ _ h => h) (Or.inl ⟨by rfl, ?_⟩) hHeld ?_
  rotate_left
  · (intro w hSw; (try dsimp only at hSw); go_simp); all_goals with_reducible rfl
  try simp only [Act.put, List.setIfInBounds_toArray, List.set_cons_zero, List.set_cons_succ]
  refine wpAnyH_take (i := 6) (oi := { dst := some 37, op := _, type := _, pos := _, after := _, guard := _ }) (v := ?_) rfl (by kernel_rfl) (by kernel_rfl) (by kernel_rfl) (fun _ _ _ h => h) (Or.inl ⟨by rfl, ?_⟩) hHeld ?_
  rotate_left
  · (intro w hSw; (try dsimp only at hSw); go_simp); all_goals with_reducible rfl
  try simp only [Act.put, List.setIfInBounds_toArray, List.set_cons_zero, List.set_cons_succ]
  refine wpAnyH_take (i := 7) (oi := { dst := some 38, op := _, type := _, pos := _, after := _, guard := _ }) (v := ?_) rfl (by kernel_rfl) (by kernel_rfl) (by kernel_rfl) (fun _ _ _ h => h) (Or.inl ⟨by rfl, ?_⟩) hHeld ?_
  rotate_left
  · (intro w hSw; (try dsimp only at hSw); go_simp); all_goals with_reducible rfl
  try simp only [Act.put, List.setIfInBounds_toArray, List.set_cons_zero, List.set_cons_succ]
  refine wpAnyH_take (i := 8) (oi := { dst := some 39, op := _, type := _, pos := _, after := _, guard := _ }) (v := ?_) rfl (by kernel_rfl) (by kernel_rfl) (by kernel_rfl) (fun _ _ _ h => h) (Or.inl ⟨by rfl, ?_⟩) hHeld ?_
  rotate_left
  · (intro w hSw; (try dsimp only at hSw); go_simp); all_goals with_reducible rfl
  try simp only [Act.put, List.setIfInBounds_toArray, List.set_cons_zero, List.set_cons_succ]
  refine wpAnyH_take (i := 9) (oi := { dst := some 40, op := _, type := _, pos := _, after := _, guard := _ }) (v := ?_) rfl (by kernel_rfl) (by kernel_rfl) (by kernel_rfl) (fun _ _ _ h => h) (Or.inl ⟨by rfl, ?_⟩) hHeld ?_
  rotate_left
  · (intro w hSw; (try dsimp only at hSw); go_simp); all_goals with_reducible rfl
  try simp only [Act.put, List.setIfInBounds_toArray, List.set_cons_zero, List.set_cons_succ]
  refine wpAnyH_take (i := 10) (oi := { dst := some 41, op := _, type := _, pos := _, after := _, guard := _ }) (v := ?_) rfl (by kernel_rfl) (by kernel_rfl) (by kernel_rfl) (fun _ _ _ h => h) (Or.inl ⟨by rfl, ?_⟩) hHeld ?_
  rotate_left
  · (intro w hSw; (try dsimp only at hSw); go_simp); all_goals with_reducible rfl
  try simp only [Act.put, List.setIfInBounds_toArray, List.set_cons_zero, List.set_cons_succ]
  refine wpAnyH_take (i := 11) (oi := { dst := some 42, op := _, type := _, pos := _, after := _, guard := _ }) (v := ?_) rfl (by kernel_rfl) (by kernel_rfl) (by kernel_rfl) (fun _ _ _ h => h) (Or.inl ⟨by rfl, ?_⟩) hHeld ?_
  rotate_left
  · (intro w hSw; (try dsimp only at hSw); go_simp); all_goals with_reducible rfl
  try simp only [Act.put, List.setIfInBounds_toArray, List.set_cons_zero, List.set_cons_succ]
  refine wpAnyH_take (i := 12) (oi := { dst := some 43, op := _, type := _, pos := _, after := _, guard := _ }) (v := ?_) rfl (by kernel_rfl) (by kernel_rfl) (by kernel_rfl) (fun _ _ _ h => h) (Or.inl ⟨by rfl, ?_⟩) hHeld ?_
  rotate_left
  · (intro w hSw; (try dsimp only at hSw); go_simp); all_goals with_reducible rfl
  try simp only [Act.put, List.setIfInBounds_toArray, List.set_cons_zero, List.set_cons_succ]
  refine wpAnyH_take (i := 13) (oi := { dst := some 44, op := _, type := _, pos := _, after := _, guard := _ }) (v := ?_) rfl (by kernel_rfl) (by kernel_rfl) (by kernel_rfl) (fun _ _ _ h => h) (Or.inl ⟨by rfl, ?_⟩) hHeld ?_
  rotate_left
  · (intro w hSw; (try dsimp only at hSw); go_simp); all_goals with_reducible rfl
  try simp only [Act.put, List.setIfInBounds_toArray, List.set_cons_zero, List.set_cons_succ]
  refine wpAnyH_take (i := 14) (oi := { dst := some 45, op := _, type := _, pos := _, after := _, guard := _ }) (v := ?_) rfl (by kernel_rfl) (by kernel_rfl) (by kernel_rfl) (fun _ _ _ h => h) (Or.inl ⟨by rfl, ?_⟩) hHeld ?_
  rotate_left
  · (intro w hSw; (try dsimp only at hSw); go_simp); all_goals with_reducible rfl
  try simp only [Act.put, List.setIfInBounds_toArray, List.set_cons_zero, List.set_cons_succ]
  refine wpAnyH_take (i := 15) (oi := { dst := some 46, op := _, type := _, pos := _, after := _, guard := _ }) (v := ?_) rfl (by kernel_rfl) (by kernel_rfl) (by kernel_rfl) (fun _ _ _ h => h) (Or.inl ⟨by rfl, ?_⟩) hHeld ?_
  rotate_left
  · (intro w hSw; (try dsimp only at hSw); go_simp); all_goals with_reducible rfl
  try simp only [Act.put, List.setIfInBounds_toArray, List.set_cons_zero, List.set_cons_succ]
  refine wpAnyH_ready (rs := [16]) (by kernel_rfl) (by simp) (AllReadyH.cons (o := _) rfl (fun K hK => ?_) AllReadyH.nil)
  go_simp
  have hlen : ((xs.drop a).take 32).length = 32 := by rw [List.length_take, List.length_drop]; omega
  refine (arrHash (l := (xs.drop a).take 32) (by have := (HB.out _ (HF1.out.below (bl_drew (bl_drew (Below.refl _ _)))).row).1; exact this) hlen).mono ?_
  rintro e w' ⟨rfl, hb⟩
  have hpB : p < wB.heap.size := by have := HK1.out.size; omega
  have e0 := (hb.cell (p := ⟨p, 0, none⟩) hpB).trans d0
  have e1 := (hb.cell (p := ⟨p, 1, none⟩) hpB).trans d1
  refine hK.out _ _ ⟨e0, e1⟩ (fun hHeld => ?_)
  try simp only [Act.put, List.setIfInBounds_toArray, List.set_cons_zero, List.set_cons_succ]
  refine wpAnyH_ready (rs := [17]) (by kernel_rfl) (by simp) (AllReadyH.cons (o := _) rfl (fun K hK => ?_) AllReadyH.nil)
  have D2 := kb_below hb (kb_drew (kb_drew HD1.out))
  have hszA : (u8s ((xs.drop a).take 32)).toArray.size = 32 := by simpa [u8s_len] using hlen
  have hsz : (u8s ((xs.drop a).take 32)).length = 32 := by simpa [u8s_len] using hlen
  have D3 := setCells_kb (u8s ((xs.drop a).take 32)) D2 hsz.symm
  rw [if_pos (by rfl)]
  refine wp_store_mid 23 _ _ rfl w.heap.size 0 (u8s ((xs.drop a).take 32)).toArray rfl rfl (there_kb D2 hszA.symm) (sizeHash.trans (congrArg some hszA.symm)) (u8s_all _) ?_
  have hpN : p ≠ w.heap.size := by omega
  have kN : Keep (fun b => b = w.heap.size) w' (w'.setCells w.heap.size 0 (u8s ((xs.drop a).take 32))) := keep_cells _ _ (Keep.refl _ _) (fun _ => rfl)
  have F2 := ((HF1.out.below (bl_drew (bl_drew (Below.refl _ _)))).below hb).keep kN (by omega) (fun b h e => by
    have h1 := (HF.out.row.lt b h).2
    omega)
  have f0 := kb_cell F2.st 0
  have f1 := kb_cell F2.st 1
  simp at f0 f1
  refine hK.out _ _ ⟨f0, f1⟩ (fun hHeld => ?_)
  try simp only [Act.put, List.setIfInBounds_toArray, List.set_cons_zero, List.set_cons_succ]
  refine wpAnyH_done (by kernel_rfl) ?_ _
  clear hHeld hK
  have HF2 := Lib.hid F2
  have HD3 := Lib.hid D3
  have HKN := Lib.hid kN
  generalize w'.setCells w.heap.size 0 (u8s ((xs.drop a).take 32)) = wC at *
  clear F2 D3 kN f0 f1 D2 e0 e1 d0 d1
  go_wp2
  refine bodyPost_ret (results_cell_row rfl _ _ w.heap.size 23 _ (0, 0) _ rfl HD3.out Try.underlying23 rfl (sizeHash.trans (congrArg some hszA.symm))) rfl ?_
  exact ⟨_, rfl, rfl, HF2.out, ((Keep.after HBA.out HK1.out).drew.drew.then_below hb).trans HKN.out (fun b h e => by omega)⟩

theorem zerosHash : #[.int .u8 0, .int .u8 0, .int .u8 0, .int .u8 0, .int .u8 0, .int .u8 0, .int .u8 0, .int .u8 0, .int .u8 0, .int .u8 0, .int .u8 0, .int .u8 0, .int .u8 0, .int .u8 0, .int .u8 0, .int .u8 0, .int .u8 0, .int .u8 0, .int .u8 0, .int .u8 0, .int .u8 0, .int .u8 0, .int .u8 0, .int .u8 0, .int .u8 0, .int .u8 0, .int .u8 0, .int .u8 0, .int .u8 0, .int .u8 0, .int .u8 0, .int .u8 0] = (u8s (List.replicate 32 0)).toArray := rfl
theorem takeHash_any {w : World} {B p : Nat} {s : Value} {xs : List UInt8} {a : Nat} (f : Nat) (F : Rd w B p s xs a 0 0) :
    Calls Try.prog 83 #[.pointer (some ⟨p, 0, none⟩), .int .i64 32, .int .i64 f, .func (.func 84) #[] #[]] w (Takes w B p s xs (takeP xs 32 a f id) fun l _ u => u = .agg (u8s l).toArray) := by
  unfold takeP Takes
  by_cases h : a + 32 ≤ xs.length
  · rw [if_pos h]; exact takeHash_ok f F h
  · rw [if_neg h]; exact (takeHash_short 32 f _ F (by omega) (by omega)).mono fun e w' ⟨h1, h2⟩ => ⟨h1, a, F.below h2, Keep.of_below h2⟩
set_option maxHeartbeats 1000000 in
theorem Hash1_any {w : World} {B p b : Nat} {s : Value} {xs : List UInt8} {a : Nat} (F : Rd w B p s xs a 0 0) (hb : BoxR w b p) :
    Calls Try.prog 82 (#[] ++ #[.int .i64 a] ++ #[.pointer (some ⟨b, 0, none⟩)]) w (Takes w B p s xs (takeP xs 32 a a id) fun l _ u => u = .agg (u8s l).toArray) := by
  have bA : Below w.heap.size w (w.alloc (.cells #[.int .u8 0, .int .u8 0, .int .u8 0, .int .u8 0, .int .u8 0, .int .u8 0, .int .u8 0, .int .u8 0, .int .u8 0, .int .u8 0, .int .u8 0, .int .u8 0, .int .u8 0, .int .u8 0, .int .u8 0, .int .u8 0, .int .u8 0, .int .u8 0, .int .u8 0, .int .u8 0, .int .u8 0, .int .u8 0, .int .u8 0, .int .u8 0, .int .u8 0, .int .u8 0, .int .u8 0, .int .u8 0, .int .u8 0, .int .u8 0, .int .u8 0, .int .u8 0] 23)) := bl_alloc (Below.refl _ _) _
  have FA := F.below bA
  have hlt := kb_lt F.st
  have HA := Lib.hid (kb_new (w := w) rfl (.cells #[.int .u8 0, .int .u8 0, .int .u8 0, .int .u8 0, .int .u8 0, .int .u8 0, .int .u8 0, .int .u8 0, .int .u8 0, .int .u8 0, .int .u8 0, .int .u8 0, .int .u8 0, .int .u8 0, .int .u8 0, .int .u8 0, .int .u8 0, .int .u8 0, .int .u8 0, .int .u8 0, .int .u8 0, .int .u8 0, .int .u8 0, .int .u8 0, .int .u8 0, .int .u8 0, .int .u8 0, .int .u8 0, .int .u8 0, .int .u8 0, .int .u8 0, .int .u8 0] 23))
  have hrow : ∀ b, s.ownBlock = some b → b < w.heap.size := fun b h => (F.row.lt b h).2
  have cb := kb_cell hb 0
  simp at cb
  have HBA := Lib.hid bA
  have hl : ∀ l a', takeP xs 32 a a id = .ok l a' → l.length = 32 := fun l a' h => takeP_len h
  have H := takeHash_any a FA
  clear bA FA
  revert H hl
  generalize takeP xs 32 a a id = r
  intro hl H
  have HH := Lib.hid H
  have HL := Lib.hid hl
  clear F H hb hl
  cases r with
  | ok v a' =>
    have hlen := HL.out v a' rfl
    have hszA : (u8s v).toArray.size = 32 := by simpa [u8s_len] using hlen
    have hsz : (u8s v).length = 32 := by simpa [u8s_len] using hlen
    go_enter Try.func82, Try.ntmps82
    go_wp2_with fail
    refine HH.out.mono ?_
    rintro e w' ⟨u, rfl, rfl, hR⟩
    have HR := Lib.hid hR
    have D := hR.2.kb HA.out (by omega)
    clear hR
    have D3 := setCells_kb (u8s v) D hsz.symm
    have kN : Keep (fun b => b = w.heap.size) w' (w'.setCells w.heap.size 0 (u8s v)) := keep_cells _ _ (Keep.refl _ _) (fun _ => rfl)
    have HD3 := Lib.hid D3
    have HKN := Lib.hid kN
    have HT := Lib.hid (there_kb D hszA.symm)
    clear D D3 kN
    go_wp2_with (with_reducible refine wpList_store_mid rfl 23 _ _ rfl w.heap.size 0 (u8s v).toArray rfl rfl HT.out (sizeHash.trans (congrArg some hszA.symm)) (u8s_all _) ?_)
    refine bodyPost_ret (results_cell_row rfl _ _ w.heap.size 23 _ (0, 0) _ rfl HD3.out Try.underlying23 rfl (sizeHash.trans (congrArg some hszA.symm))) rfl ?_
    exact ⟨_, rfl, rfl, HR.out.1.keep HKN.out (by omega) (fun b h e => by have := hrow b h; omega), (Keep.after HBA.out HR.out.2).trans HKN.out (fun b h e => by omega)⟩
  | bad er f =>
    go_enter Try.func82, Try.ntmps82
    go_wp2_with fail
    refine HH.out.mono ?_
    rintro e w' ⟨rfl, a2, hR⟩
    exact ⟨rfl, rfl, a2, hR.1, Keep.after HBA.out hR.2⟩

theorem readsHash_ok {w : World} {B p : Nat} {s : Value} {xs : List UInt8} {a a' : Nat} {l : List UInt8} (hlen : l.length = 32) (F : Rd w B p s xs a 0 0) (k : Nat) (first cap : Array Value) (eK : Enters k)
    (hC : ∀ W, Below w.heap.size w W → Calls Try.prog k (first ++ #[.int .i64 a] ++ cap) W fun e w' => ∃ u, e = .returned u ∧ u = .agg (u8s l).toArray ∧ RdTo (fun b => b = p) W w' B p s xs a') :
    Calls Try.prog 81 #[.pointer (some ⟨p, 0, none⟩), .func (.func k) first cap] w fun e w' => ∃ u, e = .returned u ∧ u = .agg (u8s l).toArray ∧ RdTo (fun b => b = p) w w' B p s xs a' := by
  have bA : Below w.heap.size w (w.alloc (.cells #[.int .u8 0, .int .u8 0, .int .u8 0, .int .u8 0, .int .u8 0, .int .u8 0, .int .u8 0, .int .u8 0, .int .u8 0, .int .u8 0, .int .u8 0, .int .u8 0, .int .u8 0, .int .u8 0, .int .u8 0, .int .u8 0, .int .u8 0, .int .u8 0, .int .u8 0, .int .u8 0, .int .u8 0, .int .u8 0, .int .u8 0, .int .u8 0, .int .u8 0, .int .u8 0, .int .u8 0, .int .u8 0, .int .u8 0, .int .u8 0, .int .u8 0, .int .u8 0] 23)) := bl_alloc (Below.refl _ _) _
  have FA := F.below bA
  have hlt := kb_lt F.st
  have c := kb_cell FA.st
  have HA := Lib.hid (kb_new (w := w) rfl (.cells #[.int .u8 0, .int .u8 0, .int .u8 0, .int .u8 0, .int .u8 0, .int .u8 0, .int .u8 0, .int .u8 0, .int .u8 0, .int .u8 0, .int .u8 0, .int .u8 0, .int .u8 0, .int .u8 0, .int .u8 0, .int .u8 0, .int .u8 0, .int .u8 0, .int .u8 0, .int .u8 0, .int .u8 0, .int .u8 0, .int .u8 0, .int .u8 0, .int .u8 0, .int .u8 0, .int .u8 0, .int .u8 0, .int .u8 0, .int .u8 0, .int .u8 0, .int .u8 0] 23))
  have hrow : ∀ b, s.ownBlock = some b → b < w.heap.size := fun b h => (F.row.lt b h).2
  have HC := Lib.hid (hC _ bA)
  have HBA := Lib.hid bA
  have eK' := eK
  unfold Enters at eK'
  have hszA : (u8s l).toArray.size = 32 := by simpa [u8s_len] using hlen
  have hsz : (u8s l).length = 32 := by simpa [u8s_len] using hlen
  clear F hC bA FA
  go_enter_defers Try.func81, Try.ntmps81
  go_wp2_with fail
  refine HC.out.mono ?_
  rintro e w1 ⟨u, rfl, rfl, hR⟩
  have HR := Lib.hid hR
  have D := hR.2.kb HA.out (by omega)
  clear hR c
  have D3 := setCells_kb (u8s l) D hsz.symm
  have kN : Keep (fun b => b = w.heap.size) w1 (w1.setCells w.heap.size 0 (u8s l)) := keep_cells _ _ (Keep.refl _ _) (fun _ => rfl)
  have HD3 := Lib.hid D3
  have HKN := Lib.hid kN
  have HT := Lib.hid (there_kb D hszA.symm)
  clear D D3 kN
  go_wp2_with (with_reducible refine wpList_store_mid rfl 23 _ _ rfl w.heap.size 0 (u8s l).toArray rfl rfl HT.out (sizeHash.trans (congrArg some hszA.symm)) (u8s_all _) ?_)
  refine leaves_cons (f := 99) (args := #[.pointer (some ⟨p, 0, none⟩)]) (by simp) (by simp [go_sem]) ?_
  refine (caught_idle p _).mono ?_
  rintro e u' w'' ⟨rfl, rfl, rfl⟩
  refine (show Leaves _ _ _ _ [] FrameMode.returning _ from ?_)
  unfold Leaves
  exact ⟨_, results_cell_row rfl _ _ w.heap.size 23 _ (0, 0) _ rfl HD3.out Try.underlying23 rfl (sizeHash.trans (congrArg some hszA.symm)), _, rfl, rfl, HR.out.1.keep HKN.out (by omega) (fun b h e => by have := hrow b h; omega), (Keep.after HBA.out HR.out.2).trans HKN.out (fun b h e => by omega)⟩
theorem readsHash_bad {w : World} {B p : Nat} {s : Value} {xs : List UInt8} {a : Nat} {er f : Nat} (F : Rd w B p s xs a 0 0) (k : Nat) (first cap : Array Value) (eK : Enters k)
    (hC : ∀ W, Below w.heap.size w W → Calls Try.prog k (first ++ #[.int .i64 a] ++ cap) W fun e w' => e = .panicked [{ v := wrongV er f, recovered := false }] ∧ ∃ a', RdTo (fun b => b = p) W w' B p s xs a') :
    Calls Try.prog 81 #[.pointer (some ⟨p, 0, none⟩), .func (.func k) first cap] w fun e w' => e = .returned (.agg (u8s (List.replicate 32 0)).toArray) ∧ ∃ a', Rd w' B p s xs a' er f ∧ Keep (fun b => b = p) w w' := by
  have bA : Below w.heap.size w (w.alloc (.cells #[.int .u8 0, .int .u8 0, .int .u8 0, .int .u8 0, .int .u8 0, .int .u8 0, .int .u8 0, .int .u8 0, .int .u8 0, .int .u8 0, .int .u8 0, .int .u8 0, .int .u8 0, .int .u8 0, .int .u8 0, .int .u8 0, .int .u8 0, .int .u8 0, .int .u8 0, .int .u8 0, .int .u8 0, .int .u8 0, .int .u8 0, .int .u8 0, .int .u8 0, .int .u8 0, .int .u8 0, .int .u8 0, .int .u8 0, .int .u8 0, .int .u8 0, .int .u8 0] 23)) := bl_alloc (Below.refl _ _) _
  have FA := F.below bA
  have hlt := kb_lt F.st
  have c := kb_cell FA.st
  have HA := Lib.hid (kb_new (w := w) rfl (.cells #[.int .u8 0, .int .u8 0, .int .u8 0, .int .u8 0, .int .u8 0, .int .u8 0, .int .u8 0, .int .u8 0, .int .u8 0, .int .u8 0, .int .u8 0, .int .u8 0, .int .u8 0, .int .u8 0, .int .u8 0, .int .u8 0, .int .u8 0, .int .u8 0, .int .u8 0, .int .u8 0, .int .u8 0, .int .u8 0, .int .u8 0, .int .u8 0, .int .u8 0, .int .u8 0, .int .u8 0, .int .u8 0, .int .u8 0, .int .u8 0, .int .u8 0, .int .u8 0] 23))
  have HC := Lib.hid (hC _ bA)
  have HBA := Lib.hid bA
  have eK' := eK
  unfold Enters at eK'
  clear F hC bA FA
  go_enter_defers Try.func81, Try.ntmps81
  go_wp2_with fail
  refine HC.out.mono ?_
  rintro e w1 ⟨rfl, a', hR⟩
  refine leaves_cons (f := 99) (args := #[.pointer (some ⟨p, 0, none⟩)]) (by simp) (by simp [go_sem]) ?_
  have D := hR.2.kb HA.out (by omega)
  refine (caught_wrong hR.1.st er f []).mono ?_
  rintro e u' w'' ⟨rfl, rfl, o, rfl⟩
  have h1 := hR.1.fault er f o
  have h2 := hR.2.fault er f o
  have D2 : (((w1.setCell ⟨p, 2, none⟩ (.int .i64 er)).setCell ⟨p, 3, none⟩ (.int .i64 f)).alloc o).heap[w.heap.size]? = some (.cells #[.int .u8 0, .int .u8 0, .int .u8 0, .int .u8 0, .int .u8 0, .int .u8 0, .int .u8 0, .int .u8 0, .int .u8 0, .int .u8 0, .int .u8 0, .int .u8 0, .int .u8 0, .int .u8 0, .int .u8 0, .int .u8 0, .int .u8 0, .int .u8 0, .int .u8 0, .int .u8 0, .int .u8 0, .int .u8 0, .int .u8 0, .int .u8 0, .int .u8 0, .int .u8 0, .int .u8 0, .int .u8 0, .int .u8 0, .int .u8 0, .int .u8 0, .int .u8 0] 23 (0, 0)) := kb_alloc (kb_far (kb_far D (by show w.heap.size ≠ p; omega) _) (by show w.heap.size ≠ p; omega) _) _
  refine (show Leaves _ _ _ _ [] FrameMode.returning _ from ?_)
  unfold Leaves
  exact ⟨_, results_cell_row rfl _ _ w.heap.size 23 _ (0, 0) _ rfl D2 Try.underlying23 rfl sizeHash, rfl, a', h1, Keep.after HBA.out h2⟩
theorem readsHash_not {w : World} {B p : Nat} {s : Value} {xs : List UInt8} {a : Nat} {er f : Int} (F : Rd w B p s xs a er f) (he : er ≠ 0) (fv : Value) :
    Calls Try.prog 81 #[.pointer (some ⟨p, 0, none⟩), fv] w fun e w' => e = .returned (.agg (u8s (List.replicate 32 0)).toArray) ∧ Below w.heap.size w w' := by
  have bA : Below w.heap.size w (w.alloc (.cells #[.int .u8 0, .int .u8 0, .int .u8 0, .int .u8 0, .int .u8 0, .int .u8 0, .int .u8 0, .int .u8 0, .int .u8 0, .int .u8 0, .int .u8 0, .int .u8 0, .int .u8 0, .int .u8 0, .int .u8 0, .int .u8 0, .int .u8 0, .int .u8 0, .int .u8 0, .int .u8 0, .int .u8 0, .int .u8 0, .int .u8 0, .int .u8 0, .int .u8 0, .int .u8 0, .int .u8 0, .int .u8 0, .int .u8 0, .int .u8 0, .int .u8 0, .int .u8 0] 23)) := bl_alloc (Below.refl _ _) _
  have c := kb_cell (F.below bA).st
  have hA := kb_new (w := w) rfl (.cells #[.int .u8 0, .int .u8 0, .int .u8 0, .int .u8 0, .int .u8 0, .int .u8 0, .int .u8 0, .int .u8 0, .int .u8 0, .int .u8 0, .int .u8 0, .int .u8 0, .int .u8 0, .int .u8 0, .int .u8 0, .int .u8 0, .int .u8 0, .int .u8 0, .int .u8 0, .int .u8 0, .int .u8 0, .int .u8 0, .int .u8 0, .int .u8 0, .int .u8 0, .int .u8 0, .int .u8 0, .int .u8 0, .int .u8 0, .int .u8 0, .int .u8 0, .int .u8 0] 23)
  have hne : (er != 0) = true := by simpa using he
  have hG : (w.alloc (.cells #[.int .u8 0, .int .u8 0, .int .u8 0, .int .u8 0, .int .u8 0, .int .u8 0, .int .u8 0, .int .u8 0, .int .u8 0, .int .u8 0, .int .u8 0, .int .u8 0, .int .u8 0, .int .u8 0, .int .u8 0, .int .u8 0, .int .u8 0, .int .u8 0, .int .u8 0, .int .u8 0, .int .u8 0, .int .u8 0, .int .u8 0, .int .u8 0, .int .u8 0, .int .u8 0, .int .u8 0, .int .u8 0, .int .u8 0, .int .u8 0, .int .u8 0, .int .u8 0] 23)).rangeAt w.heap.size 0 (u8s (List.replicate 32 0)) := range_of_kb (cs := u8s (List.replicate 32 0)) hA
  obtain ⟨zl, hz, hzl⟩ : ∃ zl : List UInt8, List.replicate 32 0 = zl ∧ zl.length = 32 := ⟨_, rfl, by simp⟩
  rw [hz] at hG ⊢
  have hszA : (u8s zl).toArray.size = 32 := by simpa [u8s_len] using hzl
  have hsz : (u8s zl).length = 32 := by simpa [u8s_len] using hzl
  have HG := Lib.hid hG
  have HT := Lib.hid (there_kb hA (show _ = (u8s zl).toArray.size by rw [hszA]; rfl))
  have HD := Lib.hid (setCells_kb (u8s zl) hA (by rw [hsz]; rfl))
  have HB := Lib.hid (bl_cells (g := w.heap.size) (u8s zl) (Nat.le_refl _) 0 bA)
  clear F bA hA hG hz
  go_enter_defers Try.func81, Try.ntmps81
  go_wp2_with (first
    | (with_reducible refine wpList_load_mid rfl 23 _ rfl w.heap.size 0 rfl (u8s zl) _ HG.out Try.underlying23 rfl (sizeHash.trans (congrArg some hsz.symm)) ?_)
    | (with_reducible refine wpList_store_mid rfl 23 _ _ rfl w.heap.size 0 (u8s zl).toArray rfl rfl HT.out (sizeHash.trans (congrArg some hszA.symm)) (u8s_all _) ?_))
  simp only [bodyPostD, Act.put, Leaves]
  exact ⟨_, results_cell_row rfl _ _ w.heap.size 23 _ (0, 0) _ rfl HD.out Try.underlying23 rfl (sizeHash.trans (congrArg some hszA.symm)), rfl, HB.out⟩
theorem readsHash_any {w : World} {B p : Nat} {s : Value} {xs : List UInt8} {a : Nat} (F : Rd w B p s xs a 0 0) (k : Nat) (first cap : Array Value) (eK : Enters k) {r : Rs (List UInt8)} (hr : ∀ l a', r = .ok l a' → l.length = 32)
    (hC : ∀ W, Below w.heap.size w W → Calls Try.prog k (first ++ #[.int .i64 a] ++ cap) W (Takes W B p s xs r fun l _ u => u = .agg (u8s l).toArray)) :
    Calls Try.prog 81 #[.pointer (some ⟨p, 0, none⟩), .func (.func k) first cap] w (Reads w B p s xs r (fun l _ u => u = .agg (u8s l).toArray) (.agg (u8s (List.replicate 32 0)).toArray)) := by
  cases r with
  | ok v a' => exact readsHash_ok (hr v a' rfl) F k first cap eK hC
  | bad er f => exact readsHash_bad F k first cap eK hC

theorem eHash1 : Enters 82 := fun _ _ => by kernel_rfl
set_option maxRecDepth 100000 in
set_option maxHeartbeats 1000000 in
theorem dHash_any {w : World} {B p : Nat} {s : Value} {xs : List UInt8} {st : St} (F : RdO w B p s xs st) :
    Calls Try.prog 54 #[.pointer (some ⟨p, 0, none⟩)] w (Did w B p s xs (step (fun a => takeP xs 32 a a id) (List.replicate 32 0) st) fun l _ u => u = .agg (u8s l).toArray) := by
  have hmf : ∀ (fn : Fn) (first cap : Array Value) (w : World), (Instr.makeFunc fn first cap).run Try.prog w = .ok (.func fn first cap) w := fun _ _ _ _ => rfl
  have HF := Lib.hid F
  have hlt := F.ltp
  have hrow : ∀ b, s.ownBlock = some b → b < w.heap.size := fun b h => (F.low b h).2
  have hbl : Below w.heap.size w ((w.alloc (.cells #[.pointer (some ⟨p, 0, none⟩)] 90)).alloc (.cells #[.int .u8 0, .int .u8 0, .int .u8 0, .int .u8 0, .int .u8 0, .int .u8 0, .int .u8 0, .int .u8 0, .int .u8 0, .int .u8 0, .int .u8 0, .int .u8 0, .int .u8 0, .int .u8 0, .int .u8 0, .int .u8 0, .int .u8 0, .int .u8 0, .int .u8 0, .int .u8 0, .int .u8 0, .int .u8 0, .int .u8 0, .int .u8 0, .int .u8 0, .int .u8 0, .int .u8 0, .int .u8 0, .int .u8 0, .int .u8 0, .int .u8 0, .int .u8 0] 23)) := by (repeat (with_reducible (first | exact Below.refl _ _ | assumption | refine bl_alloc ?_ _ | refine bl_drew ?_ | refine bl_drewN ?_ _ | (refine bl_set ?_ ?_ _; (focus (first | (simp; done) | (simp; omega) | omega))) | refine bl_then ?_ (by assumption))))
  have hb1 : BoxR ((w.alloc (.cells #[.pointer (some ⟨p, 0, none⟩)] 90)).alloc (.cells #[.int .u8 0, .int .u8 0, .int .u8 0, .int .u8 0, .int .u8 0, .int .u8 0, .int .u8 0, .int .u8 0, .int .u8 0, .int .u8 0, .int .u8 0, .int .u8 0, .int .u8 0, .int .u8 0, .int .u8 0, .int .u8 0, .int .u8 0, .int .u8 0, .int .u8 0, .int .u8 0, .int .u8 0, .int .u8 0, .int .u8 0, .int .u8 0, .int .u8 0, .int .u8 0, .int .u8 0, .int .u8 0, .int .u8 0, .int .u8 0, .int .u8 0, .int .u8 0] 23)) w.heap.size p := kb_alloc (kb_new rfl _) _
  have hD := kb_new (w := w.alloc (.cells #[.pointer (some ⟨p, 0, none⟩)] 90)) (b := w.heap.size + 1) (by simp) (.cells #[.int .u8 0, .int .u8 0, .int .u8 0, .int .u8 0, .int .u8 0, .int .u8 0, .int .u8 0, .int .u8 0, .int .u8 0, .int .u8 0, .int .u8 0, .int .u8 0, .int .u8 0, .int .u8 0, .int .u8 0, .int .u8 0, .int .u8 0, .int .u8 0, .int .u8 0, .int .u8 0, .int .u8 0, .int .u8 0, .int .u8 0, .int .u8 0, .int .u8 0, .int .u8 0, .int .u8 0, .int .u8 0, .int .u8 0, .int .u8 0, .int .u8 0, .int .u8 0] 23)
  have hsA : ((w.alloc (.cells #[.pointer (some ⟨p, 0, none⟩)] 90)).alloc (.cells #[.int .u8 0, .int .u8 0, .int .u8 0, .int .u8 0, .int .u8 0, .int .u8 0, .int .u8 0, .int .u8 0, .int .u8 0, .int .u8 0, .int .u8 0, .int .u8 0, .int .u8 0, .int .u8 0, .int .u8 0, .int .u8 0, .int .u8 0, .int .u8 0, .int .u8 0, .int .u8 0, .int .u8 0, .int .u8 0, .int .u8 0, .int .u8 0, .int .u8 0, .int .u8 0, .int .u8 0, .int .u8 0, .int .u8 0, .int .u8 0, .int .u8 0, .int .u8 0] 23)).heap.size = w.heap.size + 2 := by simp
  obtain ⟨zl, hz, hzl⟩ : ∃ zl : List UInt8, List.replicate 32 0 = zl ∧ zl.length = 32 := ⟨_, rfl, by simp⟩
  rw [hz]
  have HZ := Lib.hid hz
  clear hz
  cases st with
  | «at» a =>
    have F1 : Rd ((w.alloc (.cells #[.pointer (some ⟨p, 0, none⟩)] 90)).alloc (.cells #[.int .u8 0, .int .u8 0, .int .u8 0, .int .u8 0, .int .u8 0, .int .u8 0, .int .u8 0, .int .u8 0, .int .u8 0, .int .u8 0, .int .u8 0, .int .u8 0, .int .u8 0, .int .u8 0, .int .u8 0, .int .u8 0, .int .u8 0, .int .u8 0, .int .u8 0, .int .u8 0, .int .u8 0, .int .u8 0, .int .u8 0, .int .u8 0, .int .u8 0, .int .u8 0, .int .u8 0, .int .u8 0, .int .u8 0, .int .u8 0, .int .u8 0, .int .u8 0] 23)) B p s xs a 0 0 := (HF.out : Rd _ _ _ _ _ _ _ _).below hbl
    have HC := Lib.hid (readsHash_any F1 82 #[] #[.pointer (some ⟨w.heap.size, 0, none⟩)] eHash1 (r := takeP xs 32 a a id) (fun l a' h => takeP_len h) (fun W hW => Hash1_any (F1.below hW) (kb_below hW hb1)))
    have HBL := Lib.hid hbl
    have HD0 := Lib.hid hD
    have cb := kb_cell hb1 0
    simp at cb
    clear F F1 hbl hD hb1
    go_enter Try.func54, Try.ntmps54
    go_wp2_with fail
    refine HC.out.mono ?_
    intro e w' h
    rw [HZ.out] at h
    have D := h.keep.kb HD0.out (by omega)
    have hD := Did.of (r := fun a => takeP xs 32 a a id) (z := zl) (V := fun l _ u => u = .agg (u8s l).toArray) HBL.out h (fun _ _ _ h => h) (fun _ => rfl) (fun _ _ => takeP_bad)
    have hL := step_len (xs := xs) hzl (.at a)
    clear h
    obtain ⟨r, hr⟩ : ∃ r, step (fun a => takeP xs 32 a a id) zl (.at a) = r := ⟨_, rfl⟩
    rw [hr] at hD hL
    obtain ⟨l, st'⟩ := r
    have HRR := Lib.hid hr
    clear hr
    obtain ⟨u, rfl, rfl, h2, h3⟩ := hD
    simp only at hL
    have hszA : (u8s l).toArray.size = 32 := by simpa [u8s_len] using hL
    have hsz : (u8s l).length = 32 := by simpa [u8s_len] using hL
    have HT := Lib.hid (there_kb D (show _ = (u8s l).toArray.size by rw [hszA]; rfl))
    have HD := Lib.hid (setCells_kb (u8s l) D (by rw [hsz]; rfl))
    have HKN := Lib.hid (keep_cells (u8s l) (g := w.heap.size + 1) 0 (Keep.refl (fun b => b = w.heap.size + 1) w') (fun _ => rfl))
    have H2 := Lib.hid h2
    have H3 := Lib.hid h3
    clear h2 h3 D
    go_wp2_with (with_reducible refine wpList_store_mid rfl 23 _ _ rfl (w.heap.size + 1) 0 (u8s l).toArray rfl rfl HT.out (sizeHash.trans (congrArg some hszA.symm)) (u8s_all _) ?_)
    refine bodyPost_ret (results_cell_row rfl _ _ (w.heap.size + 1) 23 _ (0, 0) _ rfl HD.out Try.underlying23 rfl (sizeHash.trans (congrArg some hszA.symm))) rfl ?_
    rw [HRR.out]
    exact ⟨_, rfl, rfl, H2.out.keep HKN.out (by omega) (fun b h e => by have := hrow b h; omega), H3.out.trans HKN.out (fun b h e => by omega)⟩
  | bad er f =>
    have hF := F
    obtain ⟨he, a, hF⟩ := hF
    have HC := Lib.hid (readsHash_not (hF.below hbl) (by omega) (.func (.func 82) #[] #[.pointer (some ⟨w.heap.size, 0, none⟩)]))
    have HBL := Lib.hid hbl
    have HD0 := Lib.hid hD
    have hszA : (u8s zl).toArray.size = 32 := by simpa [u8s_len] using hzl
    have hsz : (u8s zl).length = 32 := by simpa [u8s_len] using hzl
    have cb := kb_cell hb1 0
    simp at cb
    clear F hF hbl hD hb1
    go_enter Try.func54, Try.ntmps54
    go_wp2_with fail
    refine HC.out.mono ?_
    rintro e w' ⟨rfl, hb⟩
    rw [HZ.out]
    have D := kb_below hb HD0.out
    have HT := Lib.hid (there_kb D (show _ = (u8s zl).toArray.size by rw [hszA]; rfl))
    have HD := Lib.hid (setCells_kb (u8s zl) D (by rw [hsz]; rfl))
    have HKN := Lib.hid (keep_cells (u8s zl) (g := w.heap.size + 1) 0 (Keep.refl (fun b => b = w.heap.size + 1) w') (fun _ => rfl))
    have HB2 := Lib.hid (bl_then HBL.out hb)
    clear D hb
    go_wp2_with (with_reducible refine wpList_store_mid rfl 23 _ _ rfl (w.heap.size + 1) 0 (u8s zl).toArray rfl rfl HT.out (sizeHash.trans (congrArg some hszA.symm)) (u8s_all _) ?_)
    refine bodyPost_ret (results_cell_row rfl _ _ (w.heap.size + 1) 23 _ (0, 0) _ rfl HD.out Try.underlying23 rfl (sizeHash.trans (congrArg some hszA.symm))) rfl ?_
    exact ⟨_, rfl, rfl, (HF.out.below HB2.out).keep HKN.out (by omega) (fun b h e => by have := hrow b h; omega), (Keep.of_below HB2.out).trans HKN.out (fun b h e => by omega)⟩

theorem run_arrKey (W : World) (b off c : Nat) : (Instr.arrayAt 52 (.slice (some ⟨b, off, none⟩) 4 c)).run Try.prog W = .ok (.pointer (some ⟨b, off, none⟩)) W := by
  unfold Instr.arrayAt
  simp only [Sem.run_bind, run_underlying Try.underlying52 W, Result.andThen_ok]
  rfl
theorem sizeKey : (Try.prog.info? 52).map (·.size) = some 4 := by kernel_rfl
theorem zerosKey : #[.int .u8 0, .int .u8 0, .int .u8 0, .int .u8 0] = (u8s (List.replicate 4 0)).toArray := rfl
end Go.Proofs.Ytooghjnddifpdaa
end
