/- The walks of package wire: the reader's methods over closures. Printed by wip/meths.py. -/
import Derived.Test.YtajlcodlaalomaaWire15
namespace Go.Proofs.Ytajlcodlaalomaa
open Go.RowKit Go.Proofs.Ytajlcodlaalomaa.Wi Go.Proofs.Ytajlcodlaalomaa.Pc
attribute [local go_sem] cell_alloc_some frozen_alloc_some
set_option linter.unusedSimpArgs false
set_option linter.unusedVariables false


theorem dWord_any {w : World} {B p : Nat} {s : Value} {xs : List UInt8} {st : St} (F : RdO w B p s xs st) :
    Calls Try.prog 37 #[.pointer (some ⟨p, 0, none⟩)] w (Did w B p s xs (step (fun a => takeP xs 8 a a bigL) (0) st) (fun x _ u => u = .int .u64 (x : Int))) := by
  have hmf : ∀ (fn : Fn) (first cap : Array Value) (w : World), (Instr.makeFunc fn first cap).run Try.prog w = .ok (.func fn first cap) w := fun _ _ _ _ => rfl
  have HF := Lib.hid F
  have hlt := F.ltp
  cases st with
  | «at» a =>
    clear F
    go_enter Try.func37, Try.ntmps37
    go_wp2_with fail
    have hbl : Below w.heap.size w (w.alloc (.cells #[.pointer (some ⟨p, 0, none⟩)] 48)) := by (repeat (with_reducible (first | exact Below.refl _ _ | assumption | refine bl_alloc ?_ _ | refine bl_drew ?_ | refine bl_drewN ?_ _ | (refine bl_set ?_ ?_ _; (focus (first | (simp; done) | (simp; omega) | omega))) | refine bl_then ?_ (by assumption))))
    have F1 : Rd (w.alloc (.cells #[.pointer (some ⟨p, 0, none⟩)] 48)) B p s xs a 0 0 := (HF.out : Rd _ _ _ _ _ _ _ _).below hbl
    have hb1 : BoxR (w.alloc (.cells #[.pointer (some ⟨p, 0, none⟩)] 48)) w.heap.size p := kb_new rfl _
    refine (reads_u64_any F1 _ _ _ eWord1 (word1_any F1 hb1)).mono ?_
    intro e w' h
    have hD := Did.of (r := fun a => takeP xs 8 a a bigL) (z := 0) (V := fun x _ u => u = .int .u64 (x : Int)) hbl h (fun _ _ _ h => h) (fun _ => rfl) (fun _ _ => takeP_bad)
    obtain ⟨u, rfl, hu, h2⟩ := hD
    have H2 := Lib.hid h2
    have HU := Lib.hid hu
    clear h h2 hu F1 hbl
    go_wp2_with fail
    go_ret
    exact ⟨u, rfl, HU.out, H2.out⟩
  | bad er f =>
    obtain ⟨he, a, hF⟩ := F
    go_enter Try.func37, Try.ntmps37
    go_wp2_with fail
    have hbl : Below w.heap.size w (w.alloc (.cells #[.pointer (some ⟨p, 0, none⟩)] 48)) := by (repeat (with_reducible (first | exact Below.refl _ _ | assumption | refine bl_alloc ?_ _ | refine bl_drew ?_ | refine bl_drewN ?_ _ | (refine bl_set ?_ ?_ _; (focus (first | (simp; done) | (simp; omega) | omega))) | refine bl_then ?_ (by assumption))))
    refine (reads_u64_not (hF.below hbl) (by omega) _).mono ?_
    rintro e w' ⟨rfl, rfl⟩
    have HL := Lib.hid hbl
    clear hbl
    go_wp2_with fail
    go_ret
    exact ⟨_, rfl, rfl, HF.out.below HL.out, Keep.of_below HL.out⟩

theorem dBool_any {w : World} {B p : Nat} {s : Value} {xs : List UInt8} {st : St} (F : RdO w B p s xs st) :
    Calls Try.prog 27 #[.pointer (some ⟨p, 0, none⟩)] w (Did w B p s xs (step (boolP xs) (false) st) (fun x _ u => u = .bool x)) := by
  have hmf : ∀ (fn : Fn) (first cap : Array Value) (w : World), (Instr.makeFunc fn first cap).run Try.prog w = .ok (.func fn first cap) w := fun _ _ _ _ => rfl
  have HF := Lib.hid F
  have hlt := F.ltp
  cases st with
  | «at» a =>
    clear F
    go_enter Try.func27, Try.ntmps27
    go_wp2_with fail
    have hbl : Below w.heap.size w (w.alloc (.cells #[.pointer (some ⟨p, 0, none⟩)] 48)) := by (repeat (with_reducible (first | exact Below.refl _ _ | assumption | refine bl_alloc ?_ _ | refine bl_drew ?_ | refine bl_drewN ?_ _ | (refine bl_set ?_ ?_ _; (focus (first | (simp; done) | (simp; omega) | omega))) | refine bl_then ?_ (by assumption))))
    have F1 : Rd (w.alloc (.cells #[.pointer (some ⟨p, 0, none⟩)] 48)) B p s xs a 0 0 := (HF.out : Rd _ _ _ _ _ _ _ _).below hbl
    have hb1 : BoxR (w.alloc (.cells #[.pointer (some ⟨p, 0, none⟩)] 48)) w.heap.size p := kb_new rfl _
    refine (reads_bool_any F1 _ _ _ eBool1 (bool1_any F1 hb1)).mono ?_
    intro e w' h
    have hD := Did.of (r := boolP xs) (z := false) (V := fun x _ u => u = .bool x) hbl h (fun _ _ _ h => h) (fun _ => rfl) (fun _ _ => boolP_bad)
    obtain ⟨u, rfl, hu, h2⟩ := hD
    have H2 := Lib.hid h2
    have HU := Lib.hid hu
    clear h h2 hu F1 hbl
    go_wp2_with fail
    go_ret
    exact ⟨u, rfl, HU.out, H2.out⟩
  | bad er f =>
    obtain ⟨he, a, hF⟩ := F
    go_enter Try.func27, Try.ntmps27
    go_wp2_with fail
    have hbl : Below w.heap.size w (w.alloc (.cells #[.pointer (some ⟨p, 0, none⟩)] 48)) := by (repeat (with_reducible (first | exact Below.refl _ _ | assumption | refine bl_alloc ?_ _ | refine bl_drew ?_ | refine bl_drewN ?_ _ | (refine bl_set ?_ ?_ _; (focus (first | (simp; done) | (simp; omega) | omega))) | refine bl_then ?_ (by assumption))))
    refine (reads_bool_not (hF.below hbl) (by omega) _).mono ?_
    rintro e w' ⟨rfl, rfl⟩
    have HL := Lib.hid hbl
    clear hbl
    go_wp2_with fail
    go_ret
    exact ⟨_, rfl, rfl, HF.out.below HL.out, Keep.of_below HL.out⟩

theorem dBytes_any {w : World} {B p : Nat} {s : Value} {xs : List UInt8} {st : St} (most : Int) (F : RdO w B p s xs st) :
    Calls Try.prog 34 #[.pointer (some ⟨p, 0, none⟩), .int .i64 most] w (Did w B p s xs (step (bytesP xs most) ([]) st) (fun l w' u => w'.ownsRow w.heap.size 5 1 u l.length (u8s l))) := by
  have hmf : ∀ (fn : Fn) (first cap : Array Value) (w : World), (Instr.makeFunc fn first cap).run Try.prog w = .ok (.func fn first cap) w := fun _ _ _ _ => rfl
  have HF := Lib.hid F
  have hlt := F.ltp
  cases st with
  | «at» a =>
    clear F
    go_enter Try.func34, Try.ntmps34
    go_wp2_with fail
    have hbl : Below w.heap.size w ((w.alloc (.cells #[.pointer (some ⟨p, 0, none⟩)] 48)).alloc (.cells #[.int .i64 most] 3)) := by (repeat (with_reducible (first | exact Below.refl _ _ | assumption | refine bl_alloc ?_ _ | refine bl_drew ?_ | refine bl_drewN ?_ _ | (refine bl_set ?_ ?_ _; (focus (first | (simp; done) | (simp; omega) | omega))) | refine bl_then ?_ (by assumption))))
    have F1 : Rd ((w.alloc (.cells #[.pointer (some ⟨p, 0, none⟩)] 48)).alloc (.cells #[.int .i64 most] 3)) B p s xs a 0 0 := (HF.out : Rd _ _ _ _ _ _ _ _).below hbl
    have hb1 : BoxR ((w.alloc (.cells #[.pointer (some ⟨p, 0, none⟩)] 48)).alloc (.cells #[.int .i64 most] 3)) w.heap.size p := kb_alloc (kb_new rfl _) _
    have hb3 := kb_new (w := (w.alloc (.cells #[.pointer (some ⟨p, 0, none⟩)] 48))) (b := w.heap.size + 1) (by simp) (.cells #[.int .i64 most] 3)
    refine (reads_bytes_any F1 _ _ _ eBytes1 (bytes1_any most F1 hb1 hb3 (by omega) (by omega))).mono ?_
    intro e w' h
    have hD := Did.of (r := bytesP xs most) (z := []) (V := fun l w' u => w'.ownsRow w.heap.size 5 1 u l.length (u8s l)) hbl h (fun _ _ _ h => owns_mono h (by simp; omega)) (fun _ => ⟨rfl, .inl ⟨rfl, rfl⟩⟩) (fun _ _ => bytesP_bad)
    obtain ⟨u, rfl, hu, h2⟩ := hD
    have H2 := Lib.hid h2
    have HU := Lib.hid hu
    clear h h2 hu F1 hbl
    go_wp2_with fail
    go_ret
    exact ⟨u, rfl, HU.out, H2.out⟩
  | bad er f =>
    obtain ⟨he, a, hF⟩ := F
    go_enter Try.func34, Try.ntmps34
    go_wp2_with fail
    have hbl : Below w.heap.size w ((w.alloc (.cells #[.pointer (some ⟨p, 0, none⟩)] 48)).alloc (.cells #[.int .i64 most] 3)) := by (repeat (with_reducible (first | exact Below.refl _ _ | assumption | refine bl_alloc ?_ _ | refine bl_drew ?_ | refine bl_drewN ?_ _ | (refine bl_set ?_ ?_ _; (focus (first | (simp; done) | (simp; omega) | omega))) | refine bl_then ?_ (by assumption))))
    refine (reads_bytes_not (hF.below hbl) (by omega) _).mono ?_
    rintro e w' ⟨rfl, rfl⟩
    have HL := Lib.hid hbl
    clear hbl
    go_wp2_with fail
    go_ret
    exact ⟨_, rfl, ⟨rfl, .inl ⟨rfl, rfl⟩⟩, HF.out.below HL.out, Keep.of_below HL.out⟩

theorem dText_any {w : World} {B p : Nat} {s : Value} {xs : List UInt8} {st : St} (most : Int) (F : RdO w B p s xs st) :
    Calls Try.prog 26 #[.pointer (some ⟨p, 0, none⟩), .int .i64 most] w (Did w B p s xs (step (bytesP xs most) [] st) fun l _ u => u = .string (strB l)) := by
  have H := dBytes_any most F
  revert H
  generalize step (bytesP xs most) [] st = r
  intro H
  have HH := Lib.hid H
  clear H F
  go_enter Try.func26, Try.ntmps26
  go_wp2_with fail
  refine HH.out.mono ?_
  rintro e w' ⟨u, rfl, hu, h2⟩
  have hc := run_conv (RowOf.of_own hu)
  obtain ⟨A, c, rfl⟩ := (RowOf.of_own hu).form
  have H2 := Lib.hid h2
  clear h2 hu
  obtain ⟨z, hz⟩ : ∃ z, strB r.1 = z := ⟨_, rfl⟩
  rw [hz] at hc
  have HZ := Lib.hid hz
  clear hz
  go_wp2_with fail
  go_ret
  exact ⟨.string z, rfl, congrArg Value.string HZ.out.symm, H2.out⟩
end Go.Proofs.Ytajlcodlaalomaa
