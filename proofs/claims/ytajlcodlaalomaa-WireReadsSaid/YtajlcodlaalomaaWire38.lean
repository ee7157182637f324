/- The document's reader: Word, Bool, Of, Pace. -/
import Derived.Test.YtajlcodlaalomaaWire37
namespace Go.Proofs.Ytajlcodlaalomaa
open Go.RowKit Go.Proofs.Ytajlcodlaalomaa.Wi Go.Proofs.Ytajlcodlaalomaa.Pc
attribute [local go_sem] cell_alloc_some frozen_alloc_some
set_option linter.unusedSimpArgs false
set_option linter.unusedVariables false

/-- What the document's reader takes is nothing: the loop behind it has no round. -/
theorem rAt {w : World} {B p : Nat} {s : Value} {xs : List UInt8} {st : St} (F : RRdO w B p s xs st) : ∃ (a0 : Nat) (e0 f0 : Int), ∀ i, w.cell? ⟨p, i, none⟩ = #[s, .int .i64 (a0 : Int), .int .i64 e0, .int .i64 f0][i]? := by
  cases st with
  | «at» a => exact ⟨a, 0, 0, kb_cell (RRd.st F)⟩
  | bad er fr => obtain ⟨_, a, hF⟩ := F; exact ⟨a, er, fr, kb_cell hF.st⟩
theorem word_ok {xs : List UInt8} {a : Nat} (h : a + 8 ≤ xs.length) : takeP xs 8 a a bigL = .ok (bigL ((xs.drop a).take 8)) (a + 8) := by unfold takeP; rw [if_pos h]
theorem word_bad {xs : List UInt8} {a : Nat} (h : ¬ a + 8 ≤ xs.length) : takeP xs 8 a a bigL = .bad 6 a := by unfold takeP; rw [if_neg h]
set_option maxHeartbeats 1000000 in
theorem rWord_ok {w : World} {B p : Nat} {s : Value} {xs : List UInt8} {a : Nat} (F : RRd w B p s xs a 0 0) (h : a + 8 ≤ xs.length) :
    Calls Try.prog 76 #[.pointer (some ⟨p, 0, none⟩)] w (RDid w B p s xs (bigL ((xs.drop a).take 8), .at (a + 8)) fun n _ u => u = .int .u64 (n : Int)) := by
  obtain ⟨l, hl⟩ : ∃ l, (xs.drop a).take 8 = l := ⟨_, rfl⟩
  have hll : l.length = 8 := by rw [← hl, List.length_take, List.length_drop]; omega
  have HL := Lib.hid hl
  rw [hl]
  have c := kb_cell F.st
  have HF := Lib.hid F
  clear F hl
  go_enter Try.func76, Try.ntmps76
  go_wp2_with fail
  refine (rTake_ok 8 a HF.out h).mono ?_
  rintro e w2 ⟨v2, rfl, hO2, F2, k2⟩
  rw [HL.out] at hO2
  obtain ⟨g2, cp3, hv3, hg2, hgl2, hcc2⟩ := own_cells hO2 (by omega)
  subst hv3
  have HF2 := Lib.hid F2
  have HK2 := Lib.hid k2
  have HCC := Lib.hid hcc2
  clear F2 k2 c hO2 hcc2
  go_wp2_with fail
  go_loopw [3, 5, 12, 13, 14, 15, 16, 17, 18, 19, 20, 21, 22, 23, 24, 25] (fun s3 s5 _ _ _ _ _ _ _ _ _ _ _ _ _ _ wr => ∃ i : Nat, i ≤ 8 ∧ s5 = .int .i64 i ∧ s3 = .int .u64 (bigL (l.take i) : Int) ∧ wr = w2) (fun _ s5 _ _ _ _ _ _ _ _ _ _ _ _ _ _ _ => 8 - (intOf s5).toNat)
  case atStart => exact ⟨0, by omega, rfl, rfl, rfl⟩
  case round =>
    obtain ⟨i, hi, rfl, rfl, rfl⟩ := hrel
    have hlt8 := bigL_lt l i (by omega)
    by_cases hlt : i < 8
    · have hil : ((i : Nat) : Int) < 8 := by omega
      have hli : i < l.length := by omega
      have cc := HCC.out i _ (List.getElem?_eq_getElem hli)
      have h7 : bigL (l.take i) < 72057594037927936 := Nat.lt_of_lt_of_le hlt8 (Nat.le_trans (Nat.pow_le_pow_right (by omega) (show i ≤ 7 by omega)) (by omega))
      have hs := shl8 h7 (l[i].toNat_lt)
      have hT := bigL_take l i hli
      unfold u8v at cc
      generalize hN' : bigL (l.take i) = N at *
      generalize hM : bigL (l.take (i + 1)) = M at *
      clear h7 hlt8
      go_wp2_with fail
      go_roundw
      case rel => exact ⟨i + 1, by omega, by go_num, by rw [hM, hT]; simp, by first | rfl | trivial⟩
      case measure => simp [intOf]; omega
    · obtain rfl : i = 8 := by omega
      rw [List.take_of_length_le (by omega)]
      clear hlt hlt8
      go_wp2_with fail
      go_ret
      exact ⟨_, rfl, rfl, HF2.out, HK2.out⟩
set_option maxHeartbeats 1000000 in
theorem rWord_no {w : World} {B p : Nat} {s : Value} {xs : List UInt8} {st : St} {e f : Nat} (F : RRdO w B p s xs st) (hn : ∀ f', (∀ a, st = .at a → f' = a) → step (fun a => takeP xs 8 a f' id) ([] : List UInt8) st = ([], .bad e f)) :
    Calls Try.prog 76 #[.pointer (some ⟨p, 0, none⟩)] w (RDid w B p s xs (0, .bad e f) fun n _ u => u = .int .u64 (n : Int)) := by
  obtain ⟨a0, e0, f0, c, hat⟩ : ∃ (a0 : Nat) (e0 f0 : Int), (∀ i, w.cell? ⟨p, i, none⟩ = #[s, .int .i64 (a0 : Int), .int .i64 e0, .int .i64 f0][i]?) ∧ ∀ a, st = .at a → a0 = a := by
    cases st with
    | «at» a => exact ⟨a, 0, 0, kb_cell (RRd.st F), fun b h => by injection h⟩
    | bad er fr => obtain ⟨_, a, hF⟩ := F; exact ⟨a, er, fr, kb_cell hF.st, fun b h => by cases h⟩
  have hC := rTake_any 8 a0 (by omega) F
  rw [hn a0 hat] at hC
  have HC := Lib.hid hC
  clear F hC hn hat
  go_enter Try.func76, Try.ntmps76
  go_wp2_with fail
  refine HC.out.mono ?_
  rintro e1 w1 ⟨u, rfl, hO, F1, k1⟩
  obtain ⟨A, cp, rfl⟩ := owns_slice0 hO
  have HF1 := Lib.hid F1
  have HK1 := Lib.hid k1
  clear F1 k1 c hO
  go_wp2_with fail
  go_loopw [3, 5, 12, 13, 14, 15, 16, 17, 18, 19, 20, 21, 22, 23, 24, 25] (fun s3 s5 _ _ _ _ _ _ _ _ _ _ _ _ _ _ wr => s3 = .int .u64 0 ∧ s5 = .int .i64 0 ∧ wr = w1) (fun _ _ _ _ _ _ _ _ _ _ _ _ _ _ _ _ _ => 0)
  case atStart => exact ⟨rfl, rfl, rfl⟩
  case round =>
    obtain ⟨rfl, rfl, rfl⟩ := hrel
    go_wp2_with fail
    go_ret
    exact ⟨_, rfl, rfl, HF1.out, HK1.out⟩
theorem rWord_any' {w : World} {B p : Nat} {s : Value} {xs : List UInt8} {st : St} (F : RRdO w B p s xs st) :
    Calls Try.prog 76 #[.pointer (some ⟨p, 0, none⟩)] w (RDid w B p s xs (step (fun a => takeP xs 8 a a bigL) 0 st) fun n _ u => u = .int .u64 (n : Int)) := by
  cases st with
  | bad er fr => exact rWord_no F fun _ _ => rfl
  | «at» a =>
    by_cases h : a + 8 ≤ xs.length
    · rw [step_ok (word_ok h)]; exact rWord_ok F h
    · rw [step_bad (word_bad h)]
      refine rWord_no F fun f' hf => ?_
      rw [hf a rfl, step_bad (e := 6) (f := a)]
      unfold takeP
      rw [if_neg h]
set_option maxHeartbeats 1000000 in
theorem rBool_ok {w : World} {B p : Nat} {s : Value} {xs : List UInt8} {a : Nat} (k0 : UInt8) (F : RRd w B p s xs a 0 0) (h : a + 1 ≤ xs.length) (hk : (xs.drop a).take 1 = [k0]) (h1 : k0.toNat ≤ 1) :
    Calls Try.prog 79 #[.pointer (some ⟨p, 0, none⟩)] w (RDid w B p s xs (k0.toNat == 1, .at (a + 1)) fun b _ u => u = .bool b) := by
  have c := kb_cell F.st
  have HF := Lib.hid F
  have HK := Lib.hid hk
  have hd : decide ((1 : Int) < (k0.toNat : Int)) = false := decide_eq_false (by omega)
  have hb : ((k0.toNat : Int) == 1) = (k0.toNat == 1) := by rw [Bool.eq_iff_iff]; simp; omega
  have HB := Lib.hid hb
  clear F hk
  go_enter Try.func79, Try.ntmps79
  go_wp2_with fail
  refine (rTake_ok 1 a HF.out h).mono ?_
  rintro e w2 ⟨v2, rfl, hO2, F2, k2⟩
  rw [HK.out] at hO2
  obtain ⟨g2, cp3, hv3, hg2, hgl2, hcc2⟩ := own_cells hO2 (by omega)
  subst hv3
  have cg := hcc2 0 k0 rfl
  unfold u8v at cg
  have HF2 := Lib.hid F2
  have HK2 := Lib.hid k2
  clear F2 k2 c hO2 hcc2
  go_wp2_with fail
  go_ret
  exact ⟨_, rfl, by first | rfl | (rw [HB.out]) | (simp [HB.out]), HF2.out, HK2.out⟩
set_option maxHeartbeats 1000000 in
theorem rBool_form {w : World} {B p : Nat} {s : Value} {xs : List UInt8} {a : Nat} (k0 : UInt8) (F : RRd w B p s xs a 0 0) (h : a + 1 ≤ xs.length) (hk : (xs.drop a).take 1 = [k0]) (h1 : 1 < k0.toNat) :
    Calls Try.prog 79 #[.pointer (some ⟨p, 0, none⟩)] w (RDid w B p s xs (false, .bad 5 a) fun b _ u => u = .bool b) := by
  have c := kb_cell F.st
  have HF := Lib.hid F
  have HK := Lib.hid hk
  have hd : decide ((1 : Int) < (k0.toNat : Int)) = true := decide_eq_true (by omega)
  clear F hk
  go_enter Try.func79, Try.ntmps79
  go_wp2_with fail
  refine (rTake_ok 1 a HF.out h).mono ?_
  rintro e w2 ⟨v2, rfl, hO2, F2, k2⟩
  rw [HK.out] at hO2
  obtain ⟨g2, cp3, hv3, hg2, hgl2, hcc2⟩ := own_cells hO2 (by omega)
  subst hv3
  have cg := hcc2 0 k0 rfl
  unfold u8v at cg
  have HF2 := Lib.hid F2
  have HK2 := Lib.hid k2
  clear F2 k2 c hO2 hcc2
  go_wp2_with fail
  refine (rFails_at 5 a HF2.out).mono ?_
  rintro e w3 ⟨rfl, F3, k3⟩
  have HF3 := Lib.hid F3
  have HK3 := Lib.hid (HK2.out.trans k3 fun _ _ h => h)
  clear F3 k3
  go_wp2_with fail
  go_ret
  exact ⟨_, rfl, rfl, ⟨by omega, _, HF3.out⟩, HK3.out⟩
set_option maxHeartbeats 1000000 in
theorem rBool_no {w : World} {B p : Nat} {s : Value} {xs : List UInt8} {st : St} {e f : Nat} (F : RRdO w B p s xs st) (hn : ∀ f', (∀ a, st = .at a → f' = a) → step (fun a => takeP xs 1 a f' id) ([] : List UInt8) st = ([], .bad e f)) :
    Calls Try.prog 79 #[.pointer (some ⟨p, 0, none⟩)] w (RDid w B p s xs (false, .bad e f) fun b _ u => u = .bool b) := by
  obtain ⟨a0, e0, f0, c, hat⟩ : ∃ (a0 : Nat) (e0 f0 : Int), (∀ i, w.cell? ⟨p, i, none⟩ = #[s, .int .i64 (a0 : Int), .int .i64 e0, .int .i64 f0][i]?) ∧ ∀ a, st = .at a → a0 = a := by
    cases st with
    | «at» a => exact ⟨a, 0, 0, kb_cell (RRd.st F), fun b h => by injection h⟩
    | bad er fr => obtain ⟨_, a, hF⟩ := F; exact ⟨a, er, fr, kb_cell hF.st, fun b h => by cases h⟩
  have hC := rTake_any 1 a0 (by omega) F
  rw [hn a0 hat] at hC
  have HC := Lib.hid hC
  clear F hC hn hat
  go_enter Try.func79, Try.ntmps79
  go_wp2_with fail
  refine HC.out.mono ?_
  rintro e1 w1 ⟨u, rfl, hO, F1, k1⟩
  obtain ⟨A, cp, rfl⟩ := owns_slice0 hO
  have HF1 := Lib.hid F1
  have HK1 := Lib.hid k1
  clear F1 k1 c hO
  go_wp2_with fail
  go_ret
  exact ⟨_, rfl, rfl, HF1.out, HK1.out⟩
theorem rBool_any' {w : World} {B p : Nat} {s : Value} {xs : List UInt8} {st : St} (F : RRdO w B p s xs st) :
    Calls Try.prog 79 #[.pointer (some ⟨p, 0, none⟩)] w (RDid w B p s xs (step (boolP xs) false st) fun b _ u => u = .bool b) := by
  cases st with
  | bad er fr => exact rBool_no F fun _ _ => rfl
  | «at» a =>
    by_cases h : a + 1 ≤ xs.length
    · obtain ⟨k0, hk1, _⟩ := first_byte (xs := xs) (a := a) h
      have ht : takeP xs 1 a a bigL = .ok k0.toNat (a + 1) := by unfold takeP; rw [if_pos h, hk1, bigL_one]
      by_cases h1 : k0.toNat ≤ 1
      · have hb : boolP xs a = .ok (k0.toNat == 1) (a + 1) := by unfold boolP; rw [ht]; simp only; rw [if_pos h1]
        rw [step_ok hb]; exact rBool_ok k0 F h hk1 h1
      · have hb : boolP xs a = .bad 5 a := by unfold boolP; rw [ht]; simp only; rw [if_neg h1]
        rw [step_bad hb]; exact rBool_form k0 F h hk1 (by omega)
    · have ht : takeP xs 1 a a bigL = .bad 6 a := by unfold takeP; rw [if_neg h]
      have hb : boolP xs a = .bad 6 a := by unfold boolP; rw [ht]
      rw [step_bad hb]
      refine rBool_no F fun f' hf => ?_
      rw [hf a rfl, step_bad (e := 6) (f := a)]
      unfold takeP
      rw [if_neg h]
end Go.Proofs.Ytajlcodlaalomaa
