/- The document's reader: Bytes, Text, Word, Bool, Of. -/
import Derived.Test.YtajlcodlaalomaaWire36
namespace Go.Proofs.Ytajlcodlaalomaa
open Go.RowKit Go.Proofs.Ytajlcodlaalomaa.Wi Go.Proofs.Ytajlcodlaalomaa.Pc
attribute [local go_sem] cell_alloc_some frozen_alloc_some
set_option linter.unusedSimpArgs false
set_option linter.unusedVariables false

abbrev RowV (w : World) : List UInt8 → World → Value → Prop := fun l w' u => w'.ownsRow w.heap.size 5 1 u l.length (u8s l)
set_option maxHeartbeats 1000000 in
theorem rBytes_ok {w : World} {B p : Nat} {s : Value} {xs : List UInt8} {a n a' : Nat} (most : Int) (F : RRd w B p s xs a 0 0) (hn : numP xs a = .ok n a') (hm : (n : Int) ≤ max most 0) :
    Calls Try.prog 73 #[.pointer (some ⟨p, 0, none⟩), .int .i64 most] w (RDid w B p s xs (step (fun _ => takeP xs n a' a id) [] (.at a)) (RowV w)) := by
  have c := kb_cell F.st
  have hC := rNum_any (st := .at a) F
  rw [step_ok hn] at hC
  have HC := Lib.hid hC
  have h63 := numP_le hn
  have hd : decide (max most 0 < (n : Int)) = false := decide_eq_false (by omega)
  have hT : ∀ W, RRdO W B p s xs (.at a') → _ := fun W hW => rTake_any (w := W) n a (by omega) hW
  have HT := Lib.hid hT
  clear F hC hn hT
  go_enter Try.func73, Try.ntmps73
  go_wp2_with fail
  refine HC.out.mono ?_
  rintro e w1 ⟨u, rfl, rfl, F1, k1⟩
  have HF1 := Lib.hid F1
  have HK1 := Lib.hid k1
  clear F1 k1 c
  go_wp2_with fail
  refine (HT.out _ HF1.out).mono ?_
  rintro e w2 ⟨v, rfl, hO, F2, k2⟩
  have HO := Lib.hid hO
  have HF2 := Lib.hid F2
  have HK2 := Lib.hid (HK1.out.trans k2 fun _ _ h => h)
  obtain ⟨A, cp, rfl⟩ := owns_slice0 hO
  have hsz := HK1.out.size
  clear hO F2 k2
  go_wp2_with fail
  go_ret
  exact ⟨_, rfl, owns_mono HO.out hsz, HF2.out, HK2.out⟩
set_option maxHeartbeats 1000000 in
theorem rBytes_long {w : World} {B p : Nat} {s : Value} {xs : List UInt8} {a n a' : Nat} (most : Int) (F : RRd w B p s xs a 0 0) (hn : numP xs a = .ok n a') (hm : max most 0 < (n : Int)) :
    Calls Try.prog 73 #[.pointer (some ⟨p, 0, none⟩), .int .i64 most] w (RDid w B p s xs ([], .bad 4 a) (RowV w)) := by
  have c := kb_cell F.st
  have hC := rNum_any (st := .at a) F
  rw [step_ok hn] at hC
  have HC := Lib.hid hC
  have hd : decide (max most 0 < (n : Int)) = true := decide_eq_true hm
  clear F hC hn hm
  go_enter Try.func73, Try.ntmps73
  go_wp2_with fail
  refine HC.out.mono ?_
  rintro e w1 ⟨u, rfl, rfl, F1, k1⟩
  have HF1 := Lib.hid (F1 : RRd _ _ _ _ _ _ _ _)
  have HK1 := Lib.hid k1
  clear F1 k1 c
  go_wp2_with fail
  refine (rFails_at 4 a HF1.out).mono ?_
  rintro e w2 ⟨rfl, F2, k2⟩
  have HF2 := Lib.hid F2
  have HK2 := Lib.hid (HK1.out.trans k2 fun _ _ h => h)
  clear F2 k2
  go_wp2_with fail
  refine (rTake_bad n a HF2.out (by omega)).mono ?_
  rintro e w3 ⟨rfl, rfl⟩
  go_wp2_with fail
  go_ret
  exact ⟨_, rfl, World.ownsRow_nil _ _ _ _, ⟨by omega, _, HF2.out⟩, HK2.out⟩
set_option maxHeartbeats 1000000 in
theorem rBytes_bad {w : World} {B p : Nat} {s : Value} {xs : List UInt8} {st : St} {e f : Nat} (most : Int) (F : RRdO w B p s xs st) (hn : step (numP xs) 0 st = (0, .bad e f)) (he : e ≠ 0) :
    Calls Try.prog 73 #[.pointer (some ⟨p, 0, none⟩), .int .i64 most] w (RDid w B p s xs ([], .bad e f) (RowV w)) := by
  obtain ⟨a0, e0, f0, c⟩ : ∃ (a0 : Nat) (e0 f0 : Int), ∀ i, w.cell? ⟨p, i, none⟩ = #[s, .int .i64 (a0 : Int), .int .i64 e0, .int .i64 f0][i]? := by
    cases st with
    | «at» a => exact ⟨a, 0, 0, kb_cell (RRd.st F)⟩
    | bad er fr => obtain ⟨_, a, hF⟩ := F; exact ⟨a, er, fr, kb_cell hF.st⟩
  have hC := rNum_any F
  rw [hn] at hC
  have HC := Lib.hid hC
  have hd : decide (max most 0 < 0) = false := decide_eq_false (by omega)
  clear F hC hn
  go_enter Try.func73, Try.ntmps73
  go_wp2_with fail
  refine HC.out.mono ?_
  rintro e1 w1 ⟨u, rfl, rfl, F1, k1⟩
  obtain ⟨_, a1, hF1⟩ := F1
  have HF1 := Lib.hid hF1
  have HK1 := Lib.hid k1
  clear hF1 k1 c
  go_wp2_with fail
  refine (rTake_bad 0 a0 HF1.out he).mono ?_
  rintro e3 w3 ⟨rfl, rfl⟩
  go_wp2_with fail
  go_ret
  exact ⟨_, rfl, World.ownsRow_nil _ _ _ _, ⟨he, _, HF1.out⟩, HK1.out⟩
theorem rBytes_any {w : World} {B p : Nat} {s : Value} {xs : List UInt8} {st : St} (most : Int) (F : RRdO w B p s xs st) :
    Calls Try.prog 73 #[.pointer (some ⟨p, 0, none⟩), .int .i64 most] w (RDid w B p s xs (step (bytesP xs most) [] st) (RowV w)) := by
  cases st with
  | bad er fr => exact rBytes_bad most F rfl F.1
  | «at» a =>
    cases hn : numP xs a with
    | bad e f =>
      have hb : bytesP xs most a = .bad e f := by unfold bytesP; rw [hn]
      rw [step_bad hb]
      exact rBytes_bad most F (step_bad hn) (numP_bad hn)
    | ok n a' =>
      by_cases hm : (n : Int) ≤ max most 0
      · have hb : bytesP xs most a = takeP xs n a' a id := by unfold bytesP; rw [hn]; simp only; rw [if_pos hm]
        have he : step (bytesP xs most) [] (.at a) = step (fun _ => takeP xs n a' a id) [] (.at a) := by simp only [step, hb]
        rw [he]
        exact rBytes_ok most F hn hm
      · have hb : bytesP xs most a = .bad 4 a := by unfold bytesP; rw [hn]; simp only; rw [if_neg hm]
        rw [step_bad hb]
        exact rBytes_long most F hn (by omega)
theorem rText_any {w : World} {B p : Nat} {s : Value} {xs : List UInt8} {st : St} (most : Int) (F : RRdO w B p s xs st) :
    Calls Try.prog 72 #[.pointer (some ⟨p, 0, none⟩), .int .i64 most] w (RDid w B p s xs (step (bytesP xs most) [] st) fun l _ u => u = .string (strB l)) := by
  have H := rBytes_any most F
  revert H
  generalize step (bytesP xs most) [] st = r
  intro H
  have HH := Lib.hid H
  clear H F
  go_enter Try.func72, Try.ntmps72
  go_wp2_with fail
  refine HH.out.mono ?_
  rintro e w' ⟨u, rfl, hu, h2⟩
  have hc := run_conv (RowOf.of_own hu)
  obtain ⟨A, c, rfl⟩ := (RowOf.of_own hu).form
  have H2 := Lib.hid h2
  clear h2 hu
  obtain ⟨z, hz⟩ : ∃ z, strB r.1 = z := ⟨_, rfl⟩
  rw [hz] at hc
  have HZ := Lib.hid hz
  clear hz
  go_wp2_with fail
  go_ret
  exact ⟨.string z, rfl, congrArg Value.string HZ.out.symm, H2.out⟩
end Go.Proofs.Ytajlcodlaalomaa
