/- The walks of package wire: a reader's Pace; landfalllaw04.ends. Printed by wip/meths2.py. -/
import Derived.Test.YtajlcodlaalomaaWire18
namespace Go.Proofs.Ytajlcodlaalomaa
open Go.RowKit Go.Proofs.Ytajlcodlaalomaa.Wi Go.Proofs.Ytajlcodlaalomaa.Pc
attribute [local go_sem] cell_alloc_some frozen_alloc_some
set_option linter.unusedSimpArgs false
set_option linter.unusedVariables false

theorem Of_any (n : Nat) (w : World) : Calls Try.prog 70 #[.int .u64 n] w fun e w' => e = .returned (.tuple (if nanB n = true ∧ n ≠ 9221120237041090560 then #[.float .f64 0, .int .i64 5] else #[.float .f64 n, .int .i64 0])) ∧ w = w' := by
  have hf := fun w => run_from (n : Int) w
  simp only [Int.toNat_natCast] at hf
  cases h : nanB n
  · have HN := Lib.hid h
    simp only [Bool.false_eq_true, false_and, if_false]
    clear h
    go_enter Try.func70, Try.ntmps70
    go_wp2_with fail
    refine (IsNaN_any n _).mono ?_
    rintro e w' ⟨rfl, rfl⟩
    rw [HN.out]
    go_wp2_with fail
    go_ret2
    exact ⟨rfl, rfl⟩
  · have HN := Lib.hid h
    clear h
    by_cases h2 : n = 9221120237041090560
    · have hd : (((n : Nat) : Int) != 9221120237041090560) = false := by rw [h2]; rfl
      have H2 := Lib.hid h2
      rw [if_neg (by simp [h2])]
      clear h2
      go_enter Try.func70, Try.ntmps70
      go_wp2_with fail
      refine (IsNaN_any n _).mono ?_
      rintro e w' ⟨rfl, rfl⟩
      rw [HN.out]
      go_wp2_with fail
      go_ret2
      exact ⟨rfl, rfl⟩
    · have hd : (((n : Nat) : Int) != 9221120237041090560) = true := by simp only [bne_iff_ne, ne_eq]; omega
      rw [if_pos ⟨rfl, h2⟩]
      clear h2
      go_enter Try.func70, Try.ntmps70
      go_wp2_with fail
      refine (IsNaN_any n _).mono ?_
      rintro e w' ⟨rfl, rfl⟩
      rw [HN.out]
      go_wp2_with fail
      go_ret2
      exact ⟨rfl, rfl⟩

def paceP (xs : List UInt8) (a : Nat) : Rs Nat := match takeP xs 8 a a bigL with
  | .ok n a' => if nanB n = true ∧ n ≠ 9221120237041090560 then .bad 5 a else .ok n a'
  | .bad e f => .bad e f
theorem paceP_bad {xs a er f} (h : paceP xs a = .bad er f) : er ≠ 0 := by
  unfold paceP at h
  split at h
  · split at h <;> (injection h; try omega)
  · rename_i he; injection h with h1 h2; subst h1; exact takeP_bad he
theorem ePace1 : Enters 69 := fun _ _ => by kernel_rfl
theorem pace1_any {w : World} {B p b : Nat} {s : Value} {xs : List UInt8} {a : Nat} (F : Rd w B p s xs a 0 0) (hb : BoxR w b p) :
    Calls Try.prog 69 (#[] ++ #[.int .i64 a] ++ #[.pointer (some ⟨b, 0, none⟩)]) w (Takes w B p s xs (paceP xs a) fun x _ u => u = .float .f64 x) := by
  have cb := kb_cell hb 0
  simp at cb
  have H := take8_any 8 a (by omega) F
  unfold paceP
  revert H
  generalize takeP xs 8 a a bigL = r
  intro H
  have HH := Lib.hid H
  clear F H hb
  cases r with
  | ok v a' =>
    by_cases h1 : nanB v = true ∧ v ≠ 9221120237041090560
    · simp only [if_pos h1]
      have hO := fun w => Of_any v w
      simp only [if_pos h1] at hO
      have HO := Lib.hid hO
      clear hO h1
      go_enter Try.func69, Try.ntmps69
      go_wp2_with fail
      refine HH.out.mono ?_
      rintro e w' ⟨u, rfl, rfl, hR⟩
      have HR := Lib.hid hR
      clear hR
      go_wp2_with fail
      refine (HO.out _).mono ?_
      rintro e w'' ⟨rfl, rfl⟩
      go_wp2_with fail
      refine (must_no _ _ _).mono ?_
      rintro e w'' ⟨rfl, rfl⟩
      exact ⟨rfl, rfl, _, HR.out⟩
    · simp only [if_neg h1]
      have hO := fun w => Of_any v w
      simp only [if_neg h1] at hO
      have HO := Lib.hid hO
      clear hO h1
      go_enter Try.func69, Try.ntmps69
      go_wp2_with fail
      refine HH.out.mono ?_
      rintro e w' ⟨u, rfl, rfl, hR⟩
      have HR := Lib.hid hR
      clear hR
      go_wp2_with fail
      refine (HO.out _).mono ?_
      rintro e w'' ⟨rfl, rfl⟩
      go_wp2_with fail
      refine (must_yes _ _ _).mono ?_
      rintro e w'' ⟨rfl, rfl⟩
      go_wp2_with fail
      go_ret
      exact ⟨_, rfl, rfl, HR.out⟩
  | bad er f =>
    go_enter Try.func69, Try.ntmps69
    go_wp2_with fail
    refine HH.out.mono ?_
    rintro e w' ⟨rfl, hR⟩
    exact ⟨rfl, rfl, hR⟩


theorem dPace_any {w : World} {B p : Nat} {s : Value} {xs : List UInt8} {st : St} (F : RdO w B p s xs st) :
    Calls Try.prog 28 #[.pointer (some ⟨p, 0, none⟩)] w (Did w B p s xs (step (paceP xs) (0) st) (fun x _ u => u = .float .f64 x)) := by
  have hmf : ∀ (fn : Fn) (first cap : Array Value) (w : World), (Instr.makeFunc fn first cap).run Try.prog w = .ok (.func fn first cap) w := fun _ _ _ _ => rfl
  have HF := Lib.hid F
  have hlt := F.ltp
  cases st with
  | «at» a =>
    clear F
    go_enter Try.func28, Try.ntmps28
    go_wp2_with fail
    have hbl : Below w.heap.size w (w.alloc (.cells #[.pointer (some ⟨p, 0, none⟩)] 48)) := by (repeat (with_reducible (first | exact Below.refl _ _ | assumption | refine bl_alloc ?_ _ | refine bl_drew ?_ | refine bl_drewN ?_ _ | (refine bl_set ?_ ?_ _; (focus (first | (simp; done) | (simp; omega) | omega))) | refine bl_then ?_ (by assumption))))
    have F1 : Rd (w.alloc (.cells #[.pointer (some ⟨p, 0, none⟩)] 48)) B p s xs a 0 0 := (HF.out : Rd _ _ _ _ _ _ _ _).below hbl
    have hb1 : BoxR (w.alloc (.cells #[.pointer (some ⟨p, 0, none⟩)] 48)) w.heap.size p := kb_new rfl _
    refine (reads_f64_any F1 _ _ _ ePace1 (pace1_any F1 hb1)).mono ?_
    intro e w' h
    have hD := Did.of (r := paceP xs) (z := 0) (V := fun x _ u => u = .float .f64 x) hbl h (fun _ _ _ h => h) (fun _ => rfl) (fun _ _ => paceP_bad)
    obtain ⟨u, rfl, hu, h2⟩ := hD
    have H2 := Lib.hid h2
    have HU := Lib.hid hu
    clear h h2 hu F1 hbl
    go_wp2_with fail
    go_ret
    exact ⟨u, rfl, HU.out, H2.out⟩
  | bad er f =>
    obtain ⟨he, a, hF⟩ := F
    go_enter Try.func28, Try.ntmps28
    go_wp2_with fail
    have hbl : Below w.heap.size w (w.alloc (.cells #[.pointer (some ⟨p, 0, none⟩)] 48)) := by (repeat (with_reducible (first | exact Below.refl _ _ | assumption | refine bl_alloc ?_ _ | refine bl_drew ?_ | refine bl_drewN ?_ _ | (refine bl_set ?_ ?_ _; (focus (first | (simp; done) | (simp; omega) | omega))) | refine bl_then ?_ (by assumption))))
    refine (reads_f64_not (hF.below hbl) (by omega) _).mono ?_
    rintro e w' ⟨rfl, rfl⟩
    have HL := Lib.hid hbl
    clear hbl
    go_wp2_with fail
    go_ret
    exact ⟨_, rfl, rfl, HF.out.below HL.out, Keep.of_below HL.out⟩

theorem ends_yes {w0 w : World} {p : Nat} {xs : List UInt8} {st : St} (h : AR w0 w p xs st) (e f : Nat) (hE : endS xs st = (e, f)) :
    Calls Try.prog 24 #[.pointer (some ⟨p, 0, none⟩), .int .i64 e, .int .i64 f] w fun x w' => x = .returned (.bool true) ∧ AR w0 w' p xs st := by
  have hC := h.end
  rw [hE] at hC
  have HC := Lib.hid hC
  clear hC h hE
  go_enter Try.func24, Try.ntmps24
  go_wp2_with fail
  refine HC.out.mono ?_
  rintro x w' ⟨rfl, h⟩
  have H := Lib.hid h
  clear h
  go_wp2_with fail
  go_ret
  exact ⟨rfl, H.out⟩
end Go.Proofs.Ytajlcodlaalomaa
