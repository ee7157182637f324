/- The document's reader: Num. -/
import Derived.Test.YtajlcodlaalomaaWire34
namespace Go.Proofs.Ytajlcodlaalomaa
open Go.RowKit Go.Proofs.Ytajlcodlaalomaa.Wi Go.Proofs.Ytajlcodlaalomaa.Pc
attribute [local go_sem] cell_alloc_some frozen_alloc_some
set_option linter.unusedSimpArgs false
set_option linter.unusedVariables false

/-- The first byte, and what it tells. -/
theorem first_byte {xs : List UInt8} {a : Nat} (h : a + 1 ≤ xs.length) : ∃ c : UInt8, (xs.drop a).take 1 = [c] ∧ kAt xs a = c.toNat := by
  have hd : xs.drop a = xs[a] :: xs.drop (a + 1) := List.drop_eq_getElem_cons (by omega)
  refine ⟨xs[a], by rw [hd]; rfl, ?_⟩
  unfold kAt
  rw [hd, List.take_succ_cons, List.take_zero, bigL_one]
theorem num_p1 {xs : List UInt8} {a : Nat} (h : xs.length < a + 1) : numP xs a = .bad 6 a := by unfold numP; rw [if_pos h]
theorem num_p2 {xs : List UInt8} {a : Nat} (h : ¬ xs.length < a + 1) (h2 : 8 < kAt xs a) : numP xs a = .bad 5 a := by unfold numP; rw [if_neg h, if_pos h2]
theorem num_p3 {xs : List UInt8} {a : Nat} (h : ¬ xs.length < a + 1) (h2 : ¬ 8 < kAt xs a) (h3 : xs.length < a + 1 + kAt xs a) : numP xs a = .bad 6 a := by unfold numP; rw [if_neg h, if_neg h2, if_pos h3]
theorem num_p4 {xs : List UInt8} {a : Nat} (h : ¬ xs.length < a + 1) (h2 : ¬ 8 < kAt xs a) (h3 : ¬ xs.length < a + 1 + kAt xs a) (h4 : zAt xs a (kAt xs a) = true ∨ 9223372036854775807 < bigL (nAt xs a (kAt xs a))) : numP xs a = .bad 5 a := by
  unfold numP; rw [if_neg h, if_neg h2, if_neg h3, if_pos h4]
theorem num_p5 {xs : List UInt8} {a : Nat} (h : ¬ xs.length < a + 1) (h2 : ¬ 8 < kAt xs a) (h3 : ¬ xs.length < a + 1 + kAt xs a) (h4 : ¬ (zAt xs a (kAt xs a) = true ∨ 9223372036854775807 < bigL (nAt xs a (kAt xs a)))) : numP xs a = .ok (bigL (nAt xs a (kAt xs a))) (a + 1 + kAt xs a) := by
  unfold numP; rw [if_neg h, if_neg h2, if_neg h3, if_neg h4]

abbrev NumP (w : World) (B p : Nat) (s : Value) (xs : List UInt8) (r : Nat × St) : Ending → World → Prop := RDid w B p s xs r fun n _ u => u = .int .i64 (n : Int)
set_option maxHeartbeats 1000000 in
theorem rNum_bad {w : World} {B p : Nat} {s : Value} {xs : List UInt8} {a er fr : Nat} (F : RRd w B p s xs a er fr) (he : er ≠ 0) :
    Calls Try.prog 71 #[.pointer (some ⟨p, 0, none⟩)] w (NumP w B p s xs (0, .bad er fr)) := by
  have c := kb_cell F.st
  have hne : ((er : Int) != 0) = true := by simpa using he
  have hne' : (er != 0) = true := by simpa using he
  have HF := Lib.hid F
  have HE := Lib.hid he
  clear F he
  go_enter Try.func71, Try.ntmps71
  go_wp2_with fail
  refine (rTake_bad 1 a HF.out HE.out).mono ?_
  rintro e w' ⟨rfl, rfl⟩
  go_wp2_with fail
  go_ret
  exact ⟨_, rfl, rfl, ⟨HE.out, a, HF.out⟩, Keep.refl _ _⟩
set_option maxHeartbeats 1000000 in
theorem rNum_1 {w : World} {B p : Nat} {s : Value} {xs : List UInt8} {a : Nat} (F : RRd w B p s xs a 0 0) (h : xs.length < a + 1) :
    Calls Try.prog 71 #[.pointer (some ⟨p, 0, none⟩)] w (NumP w B p s xs (0, .bad 6 a)) := by
  have c := kb_cell F.st
  have HF := Lib.hid F
  clear F
  go_enter Try.func71, Try.ntmps71
  go_wp2_with fail
  refine (rTake_short 1 a HF.out h (by omega)).mono ?_
  rintro e w' ⟨rfl, F1, k1⟩
  have c1 := kb_cell F1.st
  have HF1 := Lib.hid F1
  have HK1 := Lib.hid k1
  clear F1 k1 c
  go_wp2_with fail
  go_ret
  exact ⟨_, rfl, rfl, ⟨by omega, a, HF1.out⟩, HK1.out⟩
set_option maxHeartbeats 1000000 in
theorem rNum_2 {w : World} {B p : Nat} {s : Value} {xs : List UInt8} {a : Nat} (F : RRd w B p s xs a 0 0) (h : ¬ xs.length < a + 1) (h2 : 8 < kAt xs a) :
    Calls Try.prog 71 #[.pointer (some ⟨p, 0, none⟩)] w (NumP w B p s xs (0, .bad 5 a)) := by
  obtain ⟨k0, hk1, hk2⟩ := first_byte (xs := xs) (a := a) (by omega)
  have c := kb_cell F.st
  have HF := Lib.hid F
  have hd : decide ((8 : Int) < (k0.toNat : Int)) = true := decide_eq_true (by omega)
  have HK := Lib.hid hk1
  clear F hk1 hk2 h2
  go_enter Try.func71, Try.ntmps71
  go_wp2_with fail
  refine (rTake_ok 1 a HF.out (by omega)).mono ?_
  rintro e w1 ⟨v, rfl, hO, F1, k1⟩
  rw [HK.out] at hO
  obtain ⟨g, cp, rfl, hg, hgl, hcc⟩ := own_cells hO (by omega)
  have cg := hcc 0 k0 rfl
  unfold u8v at cg
  have HF1 := Lib.hid F1
  have HK1 := Lib.hid k1
  clear F1 k1 c hO hcc
  go_wp2_with fail
  refine (rFails_at 5 a HF1.out).mono ?_
  rintro e w2 ⟨rfl, F2, k2⟩
  have c2 := kb_cell F2.st
  have HF2 := Lib.hid F2
  have HK2 := Lib.hid (HK1.out.trans k2 fun _ _ h => h)
  clear F2 k2 cg
  go_wp2_with fail
  go_ret
  exact ⟨_, rfl, rfl, ⟨by omega, _, HF2.out⟩, HK2.out⟩
set_option maxHeartbeats 1000000 in
theorem rNum_3 {w : World} {B p : Nat} {s : Value} {xs : List UInt8} {a : Nat} (F : RRd w B p s xs a 0 0) (h : ¬ xs.length < a + 1) (h2 : ¬ 8 < kAt xs a) (h3 : xs.length < a + 1 + kAt xs a) :
    Calls Try.prog 71 #[.pointer (some ⟨p, 0, none⟩)] w (NumP w B p s xs (0, .bad 6 a)) := by
  obtain ⟨k0, hk1, hk2⟩ := first_byte (xs := xs) (a := a) (by omega)
  rw [hk2] at h2 h3
  have c := kb_cell F.st
  have HF := Lib.hid F
  have hd : decide ((8 : Int) < (k0.toNat : Int)) = false := decide_eq_false (by omega)
  have hwr : IntKind.i64.wrap (k0.toNat : Int) = (k0.toNat : Int) := IntWalk.i64_in _ (by omega)
  have HK := Lib.hid hk1
  have H2 := Lib.hid h2
  have H3 := Lib.hid h3
  clear F hk1 hk2 h2 h3
  go_enter Try.func71, Try.ntmps71
  go_wp2_with fail
  refine (rTake_ok 1 a HF.out (by omega)).mono ?_
  rintro e w1 ⟨v, rfl, hO, F1, k1⟩
  rw [HK.out] at hO
  obtain ⟨g, cp, rfl, hg, hgl, hcc⟩ := own_cells hO (by omega)
  have cg := hcc 0 k0 rfl
  unfold u8v at cg
  have c1 := kb_cell F1.st
  have HF1 := Lib.hid F1
  have HK1 := Lib.hid k1
  clear F1 k1 c hO hcc
  go_wp2_with fail
  refine (rTake_short k0.toNat a HF1.out H3.out (by have := H2.out; omega)).mono ?_
  rintro e w2 ⟨rfl, F2, k2⟩
  have c2 := kb_cell F2.st
  have HF2 := Lib.hid F2
  have HK2 := Lib.hid (HK1.out.trans k2 fun _ _ h => h)
  clear F2 k2 cg c1
  go_wp2_with fail
  go_loopw [6, 7, 40, 41, 42, 43, 44, 45, 46, 47, 48, 49, 50, 51, 52, 53] (fun s6 s7 _ _ _ _ _ _ _ _ _ _ _ _ _ _ wr => s6 = .int .u64 0 ∧ s7 = .int .i64 0 ∧ wr = w2) (fun _ _ _ _ _ _ _ _ _ _ _ _ _ _ _ _ _ => 0)
  case atStart => exact ⟨rfl, rfl, rfl⟩
  case round =>
    obtain ⟨rfl, rfl, rfl⟩ := hrel
    go_wp2_with fail
    go_ret
    exact ⟨_, rfl, rfl, ⟨by omega, _, HF2.out⟩, HK2.out⟩
end Go.Proofs.Ytajlcodlaalomaa
