/- The walks of package wire: the reader's methods. -/
import Derived.Test.YtajlcodlaalomaaWire13
namespace Go.Proofs.Ytajlcodlaalomaa
open Go.RowKit Go.Proofs.Ytajlcodlaalomaa.Wi Go.Proofs.Ytajlcodlaalomaa.Pc
attribute [local go_sem] cell_alloc_some frozen_alloc_some
set_option linter.unusedSimpArgs false
set_option linter.unusedVariables false

/-- A reader: at a place, or with a fault. -/
inductive St where
  | at (a : Nat) : St
  | bad (e f : Nat) : St
def RdO (w : World) (B p : Nat) (s : Value) (xs : List UInt8) : St → Prop
  | .at a => Rd w B p s xs a 0 0
  | .bad e f => e ≠ 0 ∧ ∃ a, Rd w B p s xs a e f
theorem RdO.below {w w' : World} {B p s xs st} (h : RdO w B p s xs st) (k : Below w.heap.size w w') : RdO w' B p s xs st := by
  cases st with
  | «at» a => exact Rd.below h k
  | bad e f => exact ⟨h.1, h.2.choose, h.2.choose_spec.below k⟩
theorem RdO.ltp {w : World} {B p s xs st} (h : RdO w B p s xs st) : p < w.heap.size := by
  cases st with
  | «at» a => exact kb_lt (Rd.st h)
  | bad e f => exact kb_lt h.2.choose_spec.st
def step {α : Type} (r : Nat → Rs α) (z : α) : St → α × St
  | .at a => match r a with
    | .ok v a' => (v, .at a')
    | .bad e f => (z, .bad e f)
  | .bad e f => (z, .bad e f)
/-- What a method of a reader does. -/
def Did {α : Type} (w : World) (B p : Nat) (s : Value) (xs : List UInt8) (r : α × St) (V : α → World → Value → Prop) : Ending → World → Prop := fun e w' =>
  ∃ u, e = .returned u ∧ V r.1 w' u ∧ RdO w' B p s xs r.2 ∧ Keep (fun b => b = p) w w'
theorem Did.of {α : Type} {w0 w : World} {B p s xs a} {r : Nat → Rs α} {z : α} {V : α → World → Value → Prop} {V' : α → World → Value → Prop} {zv : Value} {e : Ending} {w' : World} (hb : Below w0.heap.size w0 w) (h : Reads w B p s xs (r a) V' zv e w') (hV : ∀ v w' u, V' v w' u → V v w' u) (hz : ∀ w', V z w' zv) (hne : ∀ er f, r a = .bad er f → er ≠ 0) :
    Did w0 B p s xs (step r z (.at a)) V e w' := by
  unfold Reads at h
  cases hr : r a with
  | ok v a' =>
    have hs : step r z (.at a) = (v, .at a') := by simp [step, hr]
    rw [hr] at h; rw [hs]; obtain ⟨u, h1, h2, h3⟩ := h
    exact ⟨u, h1, hV _ _ _ h2, h3.1, Keep.after hb h3.2⟩
  | bad er f =>
    have hs : step r z (.at a) = (z, .bad er f) := by simp [step, hr]
    rw [hr] at h; rw [hs]; obtain ⟨h1, a', h2, h3⟩ := h
    exact ⟨zv, h1, hz _, ⟨hne _ _ hr, a', h2⟩, Keep.after hb h3⟩

theorem numP_bad {xs a er f} (h : numP xs a = .bad er f) : er ≠ 0 := by
  unfold numP at h
  repeat' split at h
  all_goals first | (injection h; done) | (injection h; omega)
theorem takeP_bad {α : Type} {xs n a g er f} {k : List UInt8 → α} (h : takeP xs n a g k = .bad er f) : er ≠ 0 := by
  unfold takeP at h
  split at h <;> (injection h; try omega)
def boolP (xs : List UInt8) (a : Nat) : Rs Bool := match takeP xs 1 a a bigL with
  | .ok n a' => if n ≤ 1 then .ok (n == 1) a' else .bad 5 a
  | .bad e f => .bad e f
def bytesP (xs : List UInt8) (most : Int) (a : Nat) : Rs (List UInt8) := match numP xs a with
  | .ok n a' => if (n : Int) ≤ max most 0 then takeP xs n a' a id else .bad 4 a
  | .bad e f => .bad e f
theorem boolP_bad {xs a er f} (h : boolP xs a = .bad er f) : er ≠ 0 := by
  unfold boolP at h
  split at h
  · split at h <;> (injection h; try omega)
  · rename_i he; injection h with h1 h2; subst h1; exact takeP_bad he
theorem bytesP_bad {xs most a er f} (h : bytesP xs most a = .bad er f) : er ≠ 0 := by
  unfold bytesP at h
  split at h
  · split at h
    · exact takeP_bad h
    · injection h; omega
  · rename_i he; injection h with h1 h2; subst h1; exact numP_bad he

theorem eNum : Enters 62 := fun _ _ => by kernel_rfl
theorem eWord1 : Enters 92 := fun _ _ => by kernel_rfl
theorem eBool1 : Enters 64 := fun _ _ => by kernel_rfl
theorem eBytes1 : Enters 81 := fun _ _ => by kernel_rfl

theorem dNum_any {w : World} {B p : Nat} {s : Value} {xs : List UInt8} {st : St} (F : RdO w B p s xs st) :
    Calls Try.prog 23 #[.pointer (some ⟨p, 0, none⟩)] w (Did w B p s xs (step (numP xs) 0 st) fun n _ u => u = .int .i64 (n : Int)) := by
  have hmf : ∀ (fn : Fn) (first cap : Array Value) (w : World), (Instr.makeFunc fn first cap).run Try.prog w = .ok (.func fn first cap) w := fun _ _ _ _ => rfl
  have HF := Lib.hid F
  cases st with
  | «at» a =>
    clear F
    go_enter Try.func23, Try.ntmps23
    go_wp2_with fail
    refine (reads_int_any (HF.out : Rd _ _ _ _ _ _ _ _) _ _ _ eNum (by simpa using num_any (HF.out : Rd _ _ _ _ _ _ _ _))).mono ?_
    intro e w' h
    have hD := Did.of (r := numP xs) (z := 0) (V := fun n _ u => u = .int .i64 (n : Int)) (Below.refl _ _) h (fun _ _ _ h => h) (fun _ => rfl) (fun _ _ => numP_bad)
    obtain ⟨u, rfl, hu, h2⟩ := hD
    have H2 := Lib.hid h2
    have HU := Lib.hid hu
    clear h h2 hu
    go_wp2_with fail
    go_ret
    exact ⟨u, rfl, HU.out, H2.out⟩
  | bad er f =>
    obtain ⟨he, a, hF⟩ := F
    go_enter Try.func23, Try.ntmps23
    go_wp2_with fail
    refine (reads_int_not hF (by omega) _).mono ?_
    rintro e w' ⟨rfl, rfl⟩
    go_wp2_with fail
    go_ret
    exact ⟨_, rfl, rfl, HF.out, Keep.refl _ _⟩
end Go.Proofs.Ytajlcodlaalomaa
