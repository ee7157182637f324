/- The walks of package wire: reads. Printed by wip/reads.py. -/
import Derived.Test.YtajlcodlaalomaaWire11
import Derived.Defers
import Derived.Recover
namespace Go.Proofs.Ytajlcodlaalomaa
open Go.RowKit Go.Proofs.Ytajlcodlaalomaa.Wi Go.Proofs.Ytajlcodlaalomaa.Pc
attribute [local go_sem] cell_alloc_some frozen_alloc_some
set_option linter.unusedSimpArgs false
set_option linter.unusedVariables false

def Enters (k : Nat) : Prop := ∀ (args : Array Value) (W : World), (callFunc k args).run Try.prog W = .ok (.enter k args) W
theorem Rd.fault {w : World} {B p s xs a e f} (h : Rd w B p s xs a e f) (e' f' : Int) (o : Obj) : Rd (((w.setCell ⟨p, 2, none⟩ (.int .i64 e')).setCell ⟨p, 3, none⟩ (.int .i64 f')).alloc o) B p s xs a e' f' where
  st := kb_alloc (by have := kb_set (kb_set h.st (i := 2) (.int .i64 e')) (i := 3) (.int .i64 f'); simpa using this) o
  row := by
    have hne := own_ne h.row h.st (by decide)
    exact (Keep.of_below (S := fun _ => False) (bl_alloc (Below.refl _ _) o)).row (own_set (own_set h.row hne) hne) fun _ _ x => x
  lp := h.lp
  len := h.len
  le := h.le
theorem Keep.fault {w w1 : World} {p : Nat} (h : Keep (fun b => b = p) w w1) (e' f' : Int) (o : Obj) : Keep (fun b => b = p) w (((w1.setCell ⟨p, 2, none⟩ (.int .i64 e')).setCell ⟨p, 3, none⟩ (.int .i64 f')).alloc o) :=
  ((h.set (p := ⟨p, 2, none⟩) (fun _ => rfl) _).set (p := ⟨p, 3, none⟩) (fun _ => rfl) _).alloc o
/-- How a whole reading ends: what is told, and the reader behind it. -/
def Reads {α : Type} (w : World) (B p : Nat) (s : Value) (xs : List UInt8) (r : Rs α) (V : α → World → Value → Prop) (z : Value) : Ending → World → Prop := fun e w' =>
  match r with
  | .ok v a => ∃ u, e = .returned u ∧ V v w' u ∧ RdTo (fun b => b = p) w w' B p s xs a
  | .bad er f => e = .returned z ∧ ∃ a, Rd w' B p s xs a er f ∧ Keep (fun b => b = p) w w'

theorem reads_int_ok {w : World} {B p : Nat} {s : Value} {xs : List UInt8} {a a' : Nat} (F : Rd w B p s xs a 0 0) (k : Nat) (first cap : Array Value) (eK : Enters k) {V : World → Value → Prop}
    (hC : Calls Try.prog k (first ++ #[.int .i64 a] ++ cap) w fun e w' => ∃ u, e = .returned u ∧ V w' u ∧ RdTo (fun b => b = p) w w' B p s xs a') :
    Calls Try.prog 61 #[.pointer (some ⟨p, 0, none⟩), .func (.func k) first cap] w fun e w' => ∃ u, e = .returned u ∧ V w' u ∧ RdTo (fun b => b = p) w w' B p s xs a' := by
  have D := F.st
  have c := kb_cell D
  have HC := Lib.hid hC
  have eK' := eK
  unfold Enters at eK'
  clear F hC
  go_enter_defers Try.func61, Try.ntmps61
  go_wp2_with fail
  refine HC.out.mono ?_
  rintro e w1 ⟨u, rfl, hV, hR⟩
  have HV := Lib.hid hV
  have HR := Lib.hid hR
  clear hV hR
  go_wp2_with fail
  refine leaves_cons (f := 102) (args := #[.pointer (some ⟨p, 0, none⟩)]) (by simp) (by simp [go_sem]) ?_
  refine (caught_idle p _).mono ?_
  rintro e u' w'' ⟨rfl, rfl, rfl⟩
  simp [Leaves, settle, results, Try.results61, go_sem]
  exact ⟨HV.out, HR.out⟩
theorem reads_int_bad {w : World} {B p : Nat} {s : Value} {xs : List UInt8} {a : Nat} {er f : Nat} (F : Rd w B p s xs a 0 0) (k : Nat) (first cap : Array Value) (eK : Enters k)
    (hC : Calls Try.prog k (first ++ #[.int .i64 a] ++ cap) w fun e w' => e = .panicked [{ v := wrongV er f, recovered := false }] ∧ ∃ a', RdTo (fun b => b = p) w w' B p s xs a') :
    Calls Try.prog 61 #[.pointer (some ⟨p, 0, none⟩), .func (.func k) first cap] w fun e w' => e = .returned (.int .i64 0) ∧ ∃ a', Rd w' B p s xs a' er f ∧ Keep (fun b => b = p) w w' := by
  have D := F.st
  have c := kb_cell D
  have HC := Lib.hid hC
  have eK' := eK
  unfold Enters at eK'
  clear F hC
  go_enter_defers Try.func61, Try.ntmps61
  go_wp2_with fail
  refine HC.out.mono ?_
  rintro e w1 ⟨rfl, a', hR⟩
  refine leaves_cons (f := 102) (args := #[.pointer (some ⟨p, 0, none⟩)]) (by simp) (by simp [go_sem]) ?_
  refine (caught_wrong hR.1.st er f []).mono ?_
  rintro e u' w'' ⟨rfl, rfl, o, rfl⟩
  have h1 := hR.1.fault er f o
  have h2 := hR.2.fault er f o
  simp [Leaves, settle, results, Try.results61, go_sem]
  exact ⟨⟨a', h1⟩, h2⟩
theorem reads_int_not {w : World} {B p : Nat} {s : Value} {xs : List UInt8} {a : Nat} {er f : Int} (F : Rd w B p s xs a er f) (he : er ≠ 0) (fv : Value) :
    Calls Try.prog 61 #[.pointer (some ⟨p, 0, none⟩), fv] w fun e w' => e = .returned (.int .i64 0) ∧ w = w' := by
  have c := kb_cell F.st
  have hne : (er != 0) = true := by simpa using he
  clear F
  go_enter_defers Try.func61, Try.ntmps61
  go_wp2
  simp [bodyPostD, Leaves, settle, results, Try.results61, go_sem]
theorem reads_int_any {α : Type} {w : World} {B p : Nat} {s : Value} {xs : List UInt8} {a : Nat} (F : Rd w B p s xs a 0 0) (k : Nat) (first cap : Array Value) (eK : Enters k) {r : Rs α} {V : α → World → Value → Prop}
    (hC : Calls Try.prog k (first ++ #[.int .i64 a] ++ cap) w (Takes w B p s xs r V)) :
    Calls Try.prog 61 #[.pointer (some ⟨p, 0, none⟩), .func (.func k) first cap] w (Reads w B p s xs r V (.int .i64 0)) := by
  cases r with
  | ok v a' => exact reads_int_ok F k first cap eK hC
  | bad er f => exact reads_int_bad F k first cap eK hC

theorem reads_bool_ok {w : World} {B p : Nat} {s : Value} {xs : List UInt8} {a a' : Nat} (F : Rd w B p s xs a 0 0) (k : Nat) (first cap : Array Value) (eK : Enters k) {V : World → Value → Prop}
    (hC : Calls Try.prog k (first ++ #[.int .i64 a] ++ cap) w fun e w' => ∃ u, e = .returned u ∧ V w' u ∧ RdTo (fun b => b = p) w w' B p s xs a') :
    Calls Try.prog 63 #[.pointer (some ⟨p, 0, none⟩), .func (.func k) first cap] w fun e w' => ∃ u, e = .returned u ∧ V w' u ∧ RdTo (fun b => b = p) w w' B p s xs a' := by
  have D := F.st
  have c := kb_cell D
  have HC := Lib.hid hC
  have eK' := eK
  unfold Enters at eK'
  clear F hC
  go_enter_defers Try.func63, Try.ntmps63
  go_wp2_with fail
  refine HC.out.mono ?_
  rintro e w1 ⟨u, rfl, hV, hR⟩
  have HV := Lib.hid hV
  have HR := Lib.hid hR
  clear hV hR
  go_wp2_with fail
  refine leaves_cons (f := 102) (args := #[.pointer (some ⟨p, 0, none⟩)]) (by simp) (by simp [go_sem]) ?_
  refine (caught_idle p _).mono ?_
  rintro e u' w'' ⟨rfl, rfl, rfl⟩
  simp [Leaves, settle, results, Try.results63, go_sem]
  exact ⟨HV.out, HR.out⟩
theorem reads_bool_bad {w : World} {B p : Nat} {s : Value} {xs : List UInt8} {a : Nat} {er f : Nat} (F : Rd w B p s xs a 0 0) (k : Nat) (first cap : Array Value) (eK : Enters k)
    (hC : Calls Try.prog k (first ++ #[.int .i64 a] ++ cap) w fun e w' => e = .panicked [{ v := wrongV er f, recovered := false }] ∧ ∃ a', RdTo (fun b => b = p) w w' B p s xs a') :
    Calls Try.prog 63 #[.pointer (some ⟨p, 0, none⟩), .func (.func k) first cap] w fun e w' => e = .returned (.bool false) ∧ ∃ a', Rd w' B p s xs a' er f ∧ Keep (fun b => b = p) w w' := by
  have D := F.st
  have c := kb_cell D
  have HC := Lib.hid hC
  have eK' := eK
  unfold Enters at eK'
  clear F hC
  go_enter_defers Try.func63, Try.ntmps63
  go_wp2_with fail
  refine HC.out.mono ?_
  rintro e w1 ⟨rfl, a', hR⟩
  refine leaves_cons (f := 102) (args := #[.pointer (some ⟨p, 0, none⟩)]) (by simp) (by simp [go_sem]) ?_
  refine (caught_wrong hR.1.st er f []).mono ?_
  rintro e u' w'' ⟨rfl, rfl, o, rfl⟩
  have h1 := hR.1.fault er f o
  have h2 := hR.2.fault er f o
  simp [Leaves, settle, results, Try.results63, go_sem]
  exact ⟨⟨a', h1⟩, h2⟩
theorem reads_bool_not {w : World} {B p : Nat} {s : Value} {xs : List UInt8} {a : Nat} {er f : Int} (F : Rd w B p s xs a er f) (he : er ≠ 0) (fv : Value) :
    Calls Try.prog 63 #[.pointer (some ⟨p, 0, none⟩), fv] w fun e w' => e = .returned (.bool false) ∧ w = w' := by
  have c := kb_cell F.st
  have hne : (er != 0) = true := by simpa using he
  clear F
  go_enter_defers Try.func63, Try.ntmps63
  go_wp2
  simp [bodyPostD, Leaves, settle, results, Try.results63, go_sem]
theorem reads_bool_any {α : Type} {w : World} {B p : Nat} {s : Value} {xs : List UInt8} {a : Nat} (F : Rd w B p s xs a 0 0) (k : Nat) (first cap : Array Value) (eK : Enters k) {r : Rs α} {V : α → World → Value → Prop}
    (hC : Calls Try.prog k (first ++ #[.int .i64 a] ++ cap) w (Takes w B p s xs r V)) :
    Calls Try.prog 63 #[.pointer (some ⟨p, 0, none⟩), .func (.func k) first cap] w (Reads w B p s xs r V (.bool false)) := by
  cases r with
  | ok v a' => exact reads_bool_ok F k first cap eK hC
  | bad er f => exact reads_bool_bad F k first cap eK hC

theorem reads_f64_ok {w : World} {B p : Nat} {s : Value} {xs : List UInt8} {a a' : Nat} (F : Rd w B p s xs a 0 0) (k : Nat) (first cap : Array Value) (eK : Enters k) {V : World → Value → Prop}
    (hC : Calls Try.prog k (first ++ #[.int .i64 a] ++ cap) w fun e w' => ∃ u, e = .returned u ∧ V w' u ∧ RdTo (fun b => b = p) w w' B p s xs a') :
    Calls Try.prog 68 #[.pointer (some ⟨p, 0, none⟩), .func (.func k) first cap] w fun e w' => ∃ u, e = .returned u ∧ V w' u ∧ RdTo (fun b => b = p) w w' B p s xs a' := by
  have D := F.st
  have c := kb_cell D
  have HC := Lib.hid hC
  have eK' := eK
  unfold Enters at eK'
  clear F hC
  go_enter_defers Try.func68, Try.ntmps68
  go_wp2_with fail
  refine HC.out.mono ?_
  rintro e w1 ⟨u, rfl, hV, hR⟩
  have HV := Lib.hid hV
  have HR := Lib.hid hR
  clear hV hR
  go_wp2_with fail
  refine leaves_cons (f := 102) (args := #[.pointer (some ⟨p, 0, none⟩)]) (by simp) (by simp [go_sem]) ?_
  refine (caught_idle p _).mono ?_
  rintro e u' w'' ⟨rfl, rfl, rfl⟩
  simp [Leaves, settle, results, Try.results68, go_sem]
  exact ⟨HV.out, HR.out⟩
theorem reads_f64_bad {w : World} {B p : Nat} {s : Value} {xs : List UInt8} {a : Nat} {er f : Nat} (F : Rd w B p s xs a 0 0) (k : Nat) (first cap : Array Value) (eK : Enters k)
    (hC : Calls Try.prog k (first ++ #[.int .i64 a] ++ cap) w fun e w' => e = .panicked [{ v := wrongV er f, recovered := false }] ∧ ∃ a', RdTo (fun b => b = p) w w' B p s xs a') :
    Calls Try.prog 68 #[.pointer (some ⟨p, 0, none⟩), .func (.func k) first cap] w fun e w' => e = .returned (.float .f64 0) ∧ ∃ a', Rd w' B p s xs a' er f ∧ Keep (fun b => b = p) w w' := by
  have D := F.st
  have c := kb_cell D
  have HC := Lib.hid hC
  have eK' := eK
  unfold Enters at eK'
  clear F hC
  go_enter_defers Try.func68, Try.ntmps68
  go_wp2_with fail
  refine HC.out.mono ?_
  rintro e w1 ⟨rfl, a', hR⟩
  refine leaves_cons (f := 102) (args := #[.pointer (some ⟨p, 0, none⟩)]) (by simp) (by simp [go_sem]) ?_
  refine (caught_wrong hR.1.st er f []).mono ?_
  rintro e u' w'' ⟨rfl, rfl, o, rfl⟩
  have h1 := hR.1.fault er f o
  have h2 := hR.2.fault er f o
  simp [Leaves, settle, results, Try.results68, go_sem]
  exact ⟨⟨a', h1⟩, h2⟩
theorem reads_f64_not {w : World} {B p : Nat} {s : Value} {xs : List UInt8} {a : Nat} {er f : Int} (F : Rd w B p s xs a er f) (he : er ≠ 0) (fv : Value) :
    Calls Try.prog 68 #[.pointer (some ⟨p, 0, none⟩), fv] w fun e w' => e = .returned (.float .f64 0) ∧ w = w' := by
  have c := kb_cell F.st
  have hne : (er != 0) = true := by simpa using he
  clear F
  go_enter_defers Try.func68, Try.ntmps68
  go_wp2
  simp [bodyPostD, Leaves, settle, results, Try.results68, go_sem]
theorem reads_f64_any {α : Type} {w : World} {B p : Nat} {s : Value} {xs : List UInt8} {a : Nat} (F : Rd w B p s xs a 0 0) (k : Nat) (first cap : Array Value) (eK : Enters k) {r : Rs α} {V : α → World → Value → Prop}
    (hC : Calls Try.prog k (first ++ #[.int .i64 a] ++ cap) w (Takes w B p s xs r V)) :
    Calls Try.prog 68 #[.pointer (some ⟨p, 0, none⟩), .func (.func k) first cap] w (Reads w B p s xs r V (.float .f64 0)) := by
  cases r with
  | ok v a' => exact reads_f64_ok F k first cap eK hC
  | bad er f => exact reads_f64_bad F k first cap eK hC

theorem reads_u64_ok {w : World} {B p : Nat} {s : Value} {xs : List UInt8} {a a' : Nat} (F : Rd w B p s xs a 0 0) (k : Nat) (first cap : Array Value) (eK : Enters k) {V : World → Value → Prop}
    (hC : Calls Try.prog k (first ++ #[.int .i64 a] ++ cap) w fun e w' => ∃ u, e = .returned u ∧ V w' u ∧ RdTo (fun b => b = p) w w' B p s xs a') :
    Calls Try.prog 91 #[.pointer (some ⟨p, 0, none⟩), .func (.func k) first cap] w fun e w' => ∃ u, e = .returned u ∧ V w' u ∧ RdTo (fun b => b = p) w w' B p s xs a' := by
  have D := F.st
  have c := kb_cell D
  have HC := Lib.hid hC
  have eK' := eK
  unfold Enters at eK'
  clear F hC
  go_enter_defers Try.func91, Try.ntmps91
  go_wp2_with fail
  refine HC.out.mono ?_
  rintro e w1 ⟨u, rfl, hV, hR⟩
  have HV := Lib.hid hV
  have HR := Lib.hid hR
  clear hV hR
  go_wp2_with fail
  refine leaves_cons (f := 102) (args := #[.pointer (some ⟨p, 0, none⟩)]) (by simp) (by simp [go_sem]) ?_
  refine (caught_idle p _).mono ?_
  rintro e u' w'' ⟨rfl, rfl, rfl⟩
  simp [Leaves, settle, results, Try.results91, go_sem]
  exact ⟨HV.out, HR.out⟩
theorem reads_u64_bad {w : World} {B p : Nat} {s : Value} {xs : List UInt8} {a : Nat} {er f : Nat} (F : Rd w B p s xs a 0 0) (k : Nat) (first cap : Array Value) (eK : Enters k)
    (hC : Calls Try.prog k (first ++ #[.int .i64 a] ++ cap) w fun e w' => e = .panicked [{ v := wrongV er f, recovered := false }] ∧ ∃ a', RdTo (fun b => b = p) w w' B p s xs a') :
    Calls Try.prog 91 #[.pointer (some ⟨p, 0, none⟩), .func (.func k) first cap] w fun e w' => e = .returned (.int .u64 0) ∧ ∃ a', Rd w' B p s xs a' er f ∧ Keep (fun b => b = p) w w' := by
  have D := F.st
  have c := kb_cell D
  have HC := Lib.hid hC
  have eK' := eK
  unfold Enters at eK'
  clear F hC
  go_enter_defers Try.func91, Try.ntmps91
  go_wp2_with fail
  refine HC.out.mono ?_
  rintro e w1 ⟨rfl, a', hR⟩
  refine leaves_cons (f := 102) (args := #[.pointer (some ⟨p, 0, none⟩)]) (by simp) (by simp [go_sem]) ?_
  refine (caught_wrong hR.1.st er f []).mono ?_
  rintro e u' w'' ⟨rfl, rfl, o, rfl⟩
  have h1 := hR.1.fault er f o
  have h2 := hR.2.fault er f o
  simp [Leaves, settle, results, Try.results91, go_sem]
  exact ⟨⟨a', h1⟩, h2⟩
theorem reads_u64_not {w : World} {B p : Nat} {s : Value} {xs : List UInt8} {a : Nat} {er f : Int} (F : Rd w B p s xs a er f) (he : er ≠ 0) (fv : Value) :
    Calls Try.prog 91 #[.pointer (some ⟨p, 0, none⟩), fv] w fun e w' => e = .returned (.int .u64 0) ∧ w = w' := by
  have c := kb_cell F.st
  have hne : (er != 0) = true := by simpa using he
  clear F
  go_enter_defers Try.func91, Try.ntmps91
  go_wp2
  simp [bodyPostD, Leaves, settle, results, Try.results91, go_sem]
theorem reads_u64_any {α : Type} {w : World} {B p : Nat} {s : Value} {xs : List UInt8} {a : Nat} (F : Rd w B p s xs a 0 0) (k : Nat) (first cap : Array Value) (eK : Enters k) {r : Rs α} {V : α → World → Value → Prop}
    (hC : Calls Try.prog k (first ++ #[.int .i64 a] ++ cap) w (Takes w B p s xs r V)) :
    Calls Try.prog 91 #[.pointer (some ⟨p, 0, none⟩), .func (.func k) first cap] w (Reads w B p s xs r V (.int .u64 0)) := by
  cases r with
  | ok v a' => exact reads_u64_ok F k first cap eK hC
  | bad er f => exact reads_u64_bad F k first cap eK hC

theorem reads_bytes_ok {w : World} {B p : Nat} {s : Value} {xs : List UInt8} {a a' : Nat} (F : Rd w B p s xs a 0 0) (k : Nat) (first cap : Array Value) (eK : Enters k) {V : World → Value → Prop}
    (hC : Calls Try.prog k (first ++ #[.int .i64 a] ++ cap) w fun e w' => ∃ u, e = .returned u ∧ V w' u ∧ RdTo (fun b => b = p) w w' B p s xs a') :
    Calls Try.prog 80 #[.pointer (some ⟨p, 0, none⟩), .func (.func k) first cap] w fun e w' => ∃ u, e = .returned u ∧ V w' u ∧ RdTo (fun b => b = p) w w' B p s xs a' := by
  have D := F.st
  have c := kb_cell D
  have HC := Lib.hid hC
  have eK' := eK
  unfold Enters at eK'
  clear F hC
  go_enter_defers Try.func80, Try.ntmps80
  go_wp2_with fail
  refine HC.out.mono ?_
  rintro e w1 ⟨u, rfl, hV, hR⟩
  have HV := Lib.hid hV
  have HR := Lib.hid hR
  clear hV hR
  go_wp2_with fail
  refine leaves_cons (f := 102) (args := #[.pointer (some ⟨p, 0, none⟩)]) (by simp) (by simp [go_sem]) ?_
  refine (caught_idle p _).mono ?_
  rintro e u' w'' ⟨rfl, rfl, rfl⟩
  simp [Leaves, settle, results, Try.results80, go_sem]
  exact ⟨HV.out, HR.out⟩
theorem reads_bytes_bad {w : World} {B p : Nat} {s : Value} {xs : List UInt8} {a : Nat} {er f : Nat} (F : Rd w B p s xs a 0 0) (k : Nat) (first cap : Array Value) (eK : Enters k)
    (hC : Calls Try.prog k (first ++ #[.int .i64 a] ++ cap) w fun e w' => e = .panicked [{ v := wrongV er f, recovered := false }] ∧ ∃ a', RdTo (fun b => b = p) w w' B p s xs a') :
    Calls Try.prog 80 #[.pointer (some ⟨p, 0, none⟩), .func (.func k) first cap] w fun e w' => e = .returned (.slice none 0 0) ∧ ∃ a', Rd w' B p s xs a' er f ∧ Keep (fun b => b = p) w w' := by
  have D := F.st
  have c := kb_cell D
  have HC := Lib.hid hC
  have eK' := eK
  unfold Enters at eK'
  clear F hC
  go_enter_defers Try.func80, Try.ntmps80
  go_wp2_with fail
  refine HC.out.mono ?_
  rintro e w1 ⟨rfl, a', hR⟩
  refine leaves_cons (f := 102) (args := #[.pointer (some ⟨p, 0, none⟩)]) (by simp) (by simp [go_sem]) ?_
  refine (caught_wrong hR.1.st er f []).mono ?_
  rintro e u' w'' ⟨rfl, rfl, o, rfl⟩
  have h1 := hR.1.fault er f o
  have h2 := hR.2.fault er f o
  simp [Leaves, settle, results, Try.results80, go_sem]
  exact ⟨⟨a', h1⟩, h2⟩
theorem reads_bytes_not {w : World} {B p : Nat} {s : Value} {xs : List UInt8} {a : Nat} {er f : Int} (F : Rd w B p s xs a er f) (he : er ≠ 0) (fv : Value) :
    Calls Try.prog 80 #[.pointer (some ⟨p, 0, none⟩), fv] w fun e w' => e = .returned (.slice none 0 0) ∧ w = w' := by
  have c := kb_cell F.st
  have hne : (er != 0) = true := by simpa using he
  clear F
  go_enter_defers Try.func80, Try.ntmps80
  go_wp2
  simp [bodyPostD, Leaves, settle, results, Try.results80, go_sem]
theorem reads_bytes_any {α : Type} {w : World} {B p : Nat} {s : Value} {xs : List UInt8} {a : Nat} (F : Rd w B p s xs a 0 0) (k : Nat) (first cap : Array Value) (eK : Enters k) {r : Rs α} {V : α → World → Value → Prop}
    (hC : Calls Try.prog k (first ++ #[.int .i64 a] ++ cap) w (Takes w B p s xs r V)) :
    Calls Try.prog 80 #[.pointer (some ⟨p, 0, none⟩), .func (.func k) first cap] w (Reads w B p s xs r V (.slice none 0 0)) := by
  cases r with
  | ok v a' => exact reads_bytes_ok F k first cap eK hC
  | bad er f => exact reads_bytes_bad F k first cap eK hC
end Go.Proofs.Ytajlcodlaalomaa
