/- The document's reader: Num, whole. Printed by wip/rnums.py. -/
import Derived.Test.YtajlcodlaalomaaWire35
namespace Go.Proofs.Ytajlcodlaalomaa
open Go.RowKit Go.Proofs.Ytajlcodlaalomaa.Wi Go.Proofs.Ytajlcodlaalomaa.Pc
attribute [local go_sem] cell_alloc_some frozen_alloc_some
set_option linter.unusedSimpArgs false
set_option linter.unusedVariables false

set_option maxRecDepth 100000 in
set_option maxHeartbeats 2000000 in
theorem rNum_n0 {w : World} {B p : Nat} {s : Value} {xs : List UInt8} {a : Nat} (F : RRd w B p s xs a 0 0) (h : ¬ xs.length < a + 1) (hk0 : kAt xs a = 0) :
    Calls Try.prog 71 #[.pointer (some ⟨p, 0, none⟩)] w (NumP w B p s xs (0, .at (a + 1))) := by
  obtain ⟨k0, hk1, hk2⟩ := first_byte (xs := xs) (a := a) (by omega)
  have hz : ((k0.toNat : Nat) : Int) = 0 := by omega
  have c := kb_cell F.st
  have HF := Lib.hid F
  have HK := Lib.hid hk1
  have HZ := Lib.hid hz
  clear F hk1 hk2 hk0 hz
  go_enter Try.func71, Try.ntmps71
  go_wp2_with fail
  refine (rTake_ok 1 a HF.out (by omega)).mono ?_
  rintro e w1 ⟨v, rfl, hO, F1, k1⟩
  rw [HK.out] at hO
  obtain ⟨g, cp, rfl, hg, hgl, hcc⟩ := own_cells hO (by omega)
  have cg := hcc 0 k0 rfl
  unfold u8v at cg
  rw [HZ.out] at cg
  have c1 := kb_cell F1.st
  have HF1 := Lib.hid F1
  have HK1 := Lib.hid k1
  have hT := rTake_ok 0 a F1 (by omega)
  rw [show ((0 : Nat) : Int) = 0 from rfl] at hT
  have HT := Lib.hid hT
  clear F1 k1 c hO hcc hT
  go_wp2_with fail
  refine HT.out.mono ?_
  rintro e w2 ⟨v2, rfl, hO2, F2, k2⟩
  obtain ⟨A2, cp2, hv2⟩ := owns_slice0 hO2
  have c2 := kb_cell F2.st
  have HF2 := Lib.hid F2
  have HK2 := Lib.hid (HK1.out.trans k2 fun _ _ h => h)
  clear F2 k2 cg c1 hO2
  subst hv2
  go_wp2_with fail
  go_loopw [6, 7, 40, 41, 42, 43, 44, 45, 46, 47, 48, 49, 50, 51, 52, 53] (fun s6 s7 _ _ _ _ _ _ _ _ _ _ _ _ _ _ wr => s6 = .int .u64 0 ∧ s7 = .int .i64 0 ∧ wr = w2) (fun _ _ _ _ _ _ _ _ _ _ _ _ _ _ _ _ _ => 0)
  case atStart => exact ⟨rfl, rfl, rfl⟩
  case round =>
    obtain ⟨rfl, rfl, rfl⟩ := hrel
    go_wp2_with fail
    go_ret
    exact ⟨_, rfl, rfl, HF2.out, HK2.out⟩

set_option maxRecDepth 100000 in
set_option maxHeartbeats 2000000 in
theorem rNum_nz {w : World} {B p : Nat} {s : Value} {xs : List UInt8} {a : Nat} (F : RRd w B p s xs a 0 0) (h : ¬ xs.length < a + 1) (h2 : ¬ 8 < kAt xs a) (h3 : ¬ xs.length < a + 1 + kAt xs a) (hk0 : 0 < kAt xs a) (hz : zAt xs a (kAt xs a) = true) :
    Calls Try.prog 71 #[.pointer (some ⟨p, 0, none⟩)] w (NumP w B p s xs (0, .bad 5 a)) := by
  obtain ⟨k0, hk1, hk2⟩ := first_byte (xs := xs) (a := a) (by omega)
  obtain ⟨l, hl⟩ : ∃ l, nAt xs a (kAt xs a) = l := ⟨_, rfl⟩
  have hll : l.length = k0.toNat := by rw [← hl, ← hk2]; unfold nAt; rw [List.length_take, List.length_drop]; omega
  have hlt : (xs.drop (a + 1)).take k0.toNat = l := by rw [← hl, hk2]; rfl
  have hzz : zAt xs a (kAt xs a) = (fb l == 0) := by unfold zAt; rw [hl]
  rw [hzz] at hz
  rw [hk2] at h2 h3 hk0
  have c := kb_cell F.st
  have HF := Lib.hid F
  have hd : decide ((8 : Int) < (k0.toNat : Int)) = false := decide_eq_false (by omega)
  have hwr : IntKind.i64.wrap (k0.toNat : Int) = (k0.toNat : Int) := IntWalk.i64_in _ (by omega)
  have HK := Lib.hid hk1
  have HL := Lib.hid hlt
  have H2 := Lib.hid h2
  have H3 := Lib.hid h3
  have HK0 := Lib.hid hk0
  obtain ⟨c0, r0, hcr⟩ : ∃ c0 r0, l = c0 :: r0 := by cases l with
    | nil => simp at hll; omega
    | cons c r => exact ⟨c, r, rfl⟩
  have HCR := Lib.hid hcr
  have hz0 : ((c0.toNat : Int) == 0) = true := by
    rw [hcr] at hz
    simp only [fb] at hz
    rw [← hz, Bool.eq_iff_iff, beq_iff_eq, beq_iff_eq, ← UInt8.toNat_inj]
    have : (0 : UInt8).toNat = 0 := rfl
    omega
  have hz0' : (c0.toNat == 0) = true := by rw [← hz0, Bool.eq_iff_iff]; simp
  have hkp : decide ((0 : Int) < (k0.toNat : Int)) = true := decide_eq_true (by omega)
  have hkp' : decide (0 < k0.toNat) = true := decide_eq_true (by omega)
  clear F hk1 hk2 h2 h3 hl hlt hzz hz hcr
  go_enter Try.func71, Try.ntmps71
  go_wp2_with fail
  refine (rTake_ok 1 a HF.out (by omega)).mono ?_
  rintro e w1 ⟨v, rfl, hO, F1, k1⟩
  rw [HK.out] at hO
  obtain ⟨g, cp, rfl, hg, hgl, hcc⟩ := own_cells hO (by omega)
  have cg := hcc 0 k0 rfl
  unfold u8v at cg
  have c1 := kb_cell F1.st
  have HF1 := Lib.hid F1
  have HK1 := Lib.hid k1
  clear F1 k1 c hO hcc
  go_wp2_with fail
  refine (rTake_ok k0.toNat a HF1.out (by have := H3.out; omega)).mono ?_
  rintro e w2 ⟨v2, rfl, hO2, F2, k2⟩
  rw [HL.out] at hO2
  obtain ⟨A2, cp2, hv2⟩ := owns_slice0 hO2
  have c2 := kb_cell F2.st
  have HF2 := Lib.hid F2
  have HK2 := Lib.hid (HK1.out.trans k2 fun _ _ h => h)
  have HO2 := Lib.hid hO2
  clear F2 k2 cg c1 hO2
  subst hv2
  go_wp2_with fail
  go_loopw [6, 7, 40, 41, 42, 43, 44, 45, 46, 47, 48, 49, 50, 51, 52, 53] (fun s6 s7 _ _ _ _ _ _ _ _ _ _ _ _ _ _ wr => ∃ i : Nat, i ≤ l.length ∧ s7 = .int .i64 i ∧ s6 = .int .u64 (bigL (l.take i) : Int) ∧ wr = w2) (fun _ s7 _ _ _ _ _ _ _ _ _ _ _ _ _ _ _ => l.length - (intOf s7).toNat)
  case atStart => exact ⟨0, by omega, rfl, rfl, rfl⟩
  case round =>
    obtain ⟨i, hi, rfl, rfl, rfl⟩ := hrel
    have h8 : l.length ≤ 8 := by have := H2.out; omega
    have hlt8 := bigL_lt l i hi
    by_cases hlt : i < l.length
    · obtain ⟨g2, cp3, hv3, hg2, hgl2, hcc2⟩ := own_cells HO2.out (by omega)
      simp only [Value.slice.injEq] at hv3
      obtain ⟨rfl, _, rfl⟩ := hv3
      have hil : ((i : Nat) : Int) < (k0.toNat : Int) := by omega
      have cc := hcc2 i _ (List.getElem?_eq_getElem hlt)
      have h7 : bigL (l.take i) < 72057594037927936 := Nat.lt_of_lt_of_le hlt8 (Nat.le_trans (Nat.pow_le_pow_right (by omega) (show i ≤ 7 by omega)) (by omega))
      have hs := shl8 h7 (l[i].toNat_lt)
      have hT := bigL_take l i hlt
      unfold u8v at cc
      generalize hN' : bigL (l.take i) = N at *
      generalize hM : bigL (l.take (i + 1)) = M at *
      clear hcc2 h7 hlt8 c2
      go_wp2_with fail
      go_roundw
      case rel => exact ⟨i + 1, by omega, by go_num, by rw [hM, hT]; simp, by first | rfl | trivial⟩
      case measure => simp [intOf]; omega
    · obtain rfl : i = l.length := by omega
      rw [List.take_length]
      clear hlt hlt8
      obtain ⟨g2, cp3, hv3, hg2, hgl2, hcc2⟩ := own_cells HO2.out (by omega)
      simp only [Value.slice.injEq] at hv3
      obtain ⟨rfl, _, rfl⟩ := hv3
      have cc := hcc2 0 c0 (by rw [HCR.out]; rfl)
      unfold u8v at cc
      clear hcc2
      have hil : (0 : Int) < (k0.toNat : Int) := by omega
      generalize hNN : bigL l = N at *
      go_wp2_with fail
      refine (rFails_at 5 a HF2.out).mono ?_
      rintro e w3 ⟨rfl, F3, k3⟩
      have c3 := kb_cell F3.st
      have HF3 := Lib.hid F3
      have HK3 := Lib.hid (HK2.out.trans k3 fun _ _ h => h)
      clear F3 k3 c2 cc
      go_wp2_with fail
      go_ret
      exact ⟨_, rfl, rfl, ⟨by omega, _, HF3.out⟩, HK3.out⟩

set_option maxRecDepth 100000 in
set_option maxHeartbeats 2000000 in
theorem rNum_nb {w : World} {B p : Nat} {s : Value} {xs : List UInt8} {a : Nat} (F : RRd w B p s xs a 0 0) (h : ¬ xs.length < a + 1) (h2 : ¬ 8 < kAt xs a) (h3 : ¬ xs.length < a + 1 + kAt xs a) (hk0 : 0 < kAt xs a) (hz : zAt xs a (kAt xs a) = false) (hN : 9223372036854775807 < bigL (nAt xs a (kAt xs a))) :
    Calls Try.prog 71 #[.pointer (some ⟨p, 0, none⟩)] w (NumP w B p s xs (0, .bad 5 a)) := by
  obtain ⟨k0, hk1, hk2⟩ := first_byte (xs := xs) (a := a) (by omega)
  obtain ⟨l, hl⟩ : ∃ l, nAt xs a (kAt xs a) = l := ⟨_, rfl⟩
  have hll : l.length = k0.toNat := by rw [← hl, ← hk2]; unfold nAt; rw [List.length_take, List.length_drop]; omega
  have hlt : (xs.drop (a + 1)).take k0.toNat = l := by rw [← hl, hk2]; rfl
  have hzz : zAt xs a (kAt xs a) = (fb l == 0) := by unfold zAt; rw [hl]
  rw [hzz] at hz
  rw [hl] at hN
  rw [hk2] at h2 h3 hk0
  have c := kb_cell F.st
  have HF := Lib.hid F
  have hd : decide ((8 : Int) < (k0.toNat : Int)) = false := decide_eq_false (by omega)
  have hwr : IntKind.i64.wrap (k0.toNat : Int) = (k0.toNat : Int) := IntWalk.i64_in _ (by omega)
  have HK := Lib.hid hk1
  have HL := Lib.hid hlt
  have H2 := Lib.hid h2
  have H3 := Lib.hid h3
  have HK0 := Lib.hid hk0
  obtain ⟨c0, r0, hcr⟩ : ∃ c0 r0, l = c0 :: r0 := by cases l with
    | nil => simp at hll; omega
    | cons c r => exact ⟨c, r, rfl⟩
  have HCR := Lib.hid hcr
  have hz0 : ((c0.toNat : Int) == 0) = false := by
    rw [hcr] at hz
    simp only [fb] at hz
    rw [← hz, Bool.eq_iff_iff, beq_iff_eq, beq_iff_eq, ← UInt8.toNat_inj]
    have : (0 : UInt8).toNat = 0 := rfl
    omega
  have hz0' : (c0.toNat == 0) = false := by rw [← hz0, Bool.eq_iff_iff]; simp
  have hkp : decide ((0 : Int) < (k0.toNat : Int)) = true := decide_eq_true (by omega)
  have hkp' : decide (0 < k0.toNat) = true := decide_eq_true (by omega)
  have hNb := Nat.lt_of_lt_of_le (bigL_lt' l) (Nat.pow_le_pow_right (by omega) (show l.length ≤ 8 by omega))
  have hsh : ((bigL l : Int) / 9223372036854775808 == 1) = true := by rw [beq_iff_eq]; omega
  have hsh' : ((bigL l) / 9223372036854775808 == 1) = true := by rw [beq_iff_eq]; omega
  clear F hk1 hk2 h2 h3 hl hlt hzz hz hcr
  go_enter Try.func71, Try.ntmps71
  go_wp2_with fail
  refine (rTake_ok 1 a HF.out (by omega)).mono ?_
  rintro e w1 ⟨v, rfl, hO, F1, k1⟩
  rw [HK.out] at hO
  obtain ⟨g, cp, rfl, hg, hgl, hcc⟩ := own_cells hO (by omega)
  have cg := hcc 0 k0 rfl
  unfold u8v at cg
  have c1 := kb_cell F1.st
  have HF1 := Lib.hid F1
  have HK1 := Lib.hid k1
  clear F1 k1 c hO hcc
  go_wp2_with fail
  refine (rTake_ok k0.toNat a HF1.out (by have := H3.out; omega)).mono ?_
  rintro e w2 ⟨v2, rfl, hO2, F2, k2⟩
  rw [HL.out] at hO2
  obtain ⟨A2, cp2, hv2⟩ := owns_slice0 hO2
  have c2 := kb_cell F2.st
  have HF2 := Lib.hid F2
  have HK2 := Lib.hid (HK1.out.trans k2 fun _ _ h => h)
  have HO2 := Lib.hid hO2
  clear F2 k2 cg c1 hO2
  subst hv2
  go_wp2_with fail
  go_loopw [6, 7, 40, 41, 42, 43, 44, 45, 46, 47, 48, 49, 50, 51, 52, 53] (fun s6 s7 _ _ _ _ _ _ _ _ _ _ _ _ _ _ wr => ∃ i : Nat, i ≤ l.length ∧ s7 = .int .i64 i ∧ s6 = .int .u64 (bigL (l.take i) : Int) ∧ wr = w2) (fun _ s7 _ _ _ _ _ _ _ _ _ _ _ _ _ _ _ => l.length - (intOf s7).toNat)
  case atStart => exact ⟨0, by omega, rfl, rfl, rfl⟩
  case round =>
    obtain ⟨i, hi, rfl, rfl, rfl⟩ := hrel
    have h8 : l.length ≤ 8 := by have := H2.out; omega
    have hlt8 := bigL_lt l i hi
    by_cases hlt : i < l.length
    · obtain ⟨g2, cp3, hv3, hg2, hgl2, hcc2⟩ := own_cells HO2.out (by omega)
      simp only [Value.slice.injEq] at hv3
      obtain ⟨rfl, _, rfl⟩ := hv3
      have hil : ((i : Nat) : Int) < (k0.toNat : Int) := by omega
      have cc := hcc2 i _ (List.getElem?_eq_getElem hlt)
      have h7 : bigL (l.take i) < 72057594037927936 := Nat.lt_of_lt_of_le hlt8 (Nat.le_trans (Nat.pow_le_pow_right (by omega) (show i ≤ 7 by omega)) (by omega))
      have hs := shl8 h7 (l[i].toNat_lt)
      have hT := bigL_take l i hlt
      unfold u8v at cc
      generalize hN' : bigL (l.take i) = N at *
      generalize hM : bigL (l.take (i + 1)) = M at *
      clear hcc2 h7 hlt8 c2
      go_wp2_with fail
      go_roundw
      case rel => exact ⟨i + 1, by omega, by go_num, by rw [hM, hT]; simp, by first | rfl | trivial⟩
      case measure => simp [intOf]; omega
    · obtain rfl : i = l.length := by omega
      rw [List.take_length]
      clear hlt hlt8
      obtain ⟨g2, cp3, hv3, hg2, hgl2, hcc2⟩ := own_cells HO2.out (by omega)
      simp only [Value.slice.injEq] at hv3
      obtain ⟨rfl, _, rfl⟩ := hv3
      have cc := hcc2 0 c0 (by rw [HCR.out]; rfl)
      unfold u8v at cc
      clear hcc2
      have hil : (0 : Int) < (k0.toNat : Int) := by omega
      generalize hNN : bigL l = N at *
      go_wp2_with fail
      refine (rFails_at 5 a HF2.out).mono ?_
      rintro e w3 ⟨rfl, F3, k3⟩
      have c3 := kb_cell F3.st
      have HF3 := Lib.hid F3
      have HK3 := Lib.hid (HK2.out.trans k3 fun _ _ h => h)
      clear F3 k3 c2 cc
      go_wp2_with fail
      go_ret
      exact ⟨_, rfl, rfl, ⟨by omega, _, HF3.out⟩, HK3.out⟩

set_option maxRecDepth 100000 in
set_option maxHeartbeats 2000000 in
theorem rNum_nok {w : World} {B p : Nat} {s : Value} {xs : List UInt8} {a : Nat} (F : RRd w B p s xs a 0 0) (h : ¬ xs.length < a + 1) (h2 : ¬ 8 < kAt xs a) (h3 : ¬ xs.length < a + 1 + kAt xs a) (hk0 : 0 < kAt xs a) (hz : zAt xs a (kAt xs a) = false) (hN : bigL (nAt xs a (kAt xs a)) ≤ 9223372036854775807) :
    Calls Try.prog 71 #[.pointer (some ⟨p, 0, none⟩)] w (NumP w B p s xs (bigL (nAt xs a (kAt xs a)), .at (a + 1 + kAt xs a))) := by
  obtain ⟨k0, hk1, hk2⟩ := first_byte (xs := xs) (a := a) (by omega)
  obtain ⟨l, hl⟩ : ∃ l, nAt xs a (kAt xs a) = l := ⟨_, rfl⟩
  have hll : l.length = k0.toNat := by rw [← hl, ← hk2]; unfold nAt; rw [List.length_take, List.length_drop]; omega
  have hlt : (xs.drop (a + 1)).take k0.toNat = l := by rw [← hl, hk2]; rfl
  have hzz : zAt xs a (kAt xs a) = (fb l == 0) := by unfold zAt; rw [hl]
  rw [hzz] at hz
  rw [hl] at hN ⊢
  rw [hk2] at h2 h3 hk0 ⊢
  have c := kb_cell F.st
  have HF := Lib.hid F
  have hd : decide ((8 : Int) < (k0.toNat : Int)) = false := decide_eq_false (by omega)
  have hwr : IntKind.i64.wrap (k0.toNat : Int) = (k0.toNat : Int) := IntWalk.i64_in _ (by omega)
  have HK := Lib.hid hk1
  have HL := Lib.hid hlt
  have H2 := Lib.hid h2
  have H3 := Lib.hid h3
  have HK0 := Lib.hid hk0
  obtain ⟨c0, r0, hcr⟩ : ∃ c0 r0, l = c0 :: r0 := by cases l with
    | nil => simp at hll; omega
    | cons c r => exact ⟨c, r, rfl⟩
  have HCR := Lib.hid hcr
  have hz0 : ((c0.toNat : Int) == 0) = false := by
    rw [hcr] at hz
    simp only [fb] at hz
    rw [← hz, Bool.eq_iff_iff, beq_iff_eq, beq_iff_eq, ← UInt8.toNat_inj]
    have : (0 : UInt8).toNat = 0 := rfl
    omega
  have hz0' : (c0.toNat == 0) = false := by rw [← hz0, Bool.eq_iff_iff]; simp
  have hkp : decide ((0 : Int) < (k0.toNat : Int)) = true := decide_eq_true (by omega)
  have hkp' : decide (0 < k0.toNat) = true := decide_eq_true (by omega)
  have hsh : ((bigL l : Int) / 9223372036854775808 == 1) = false := by rw [beq_eq_false_iff_ne]; omega
  have hsh' : ((bigL l) / 9223372036854775808 == 1) = false := by rw [beq_eq_false_iff_ne]; omega
  have hwn : IntKind.i64.wrap (bigL l : Int) = (bigL l : Int) := IntWalk.i64_in _ (by omega)
  clear F hk1 hk2 h2 h3 hl hlt hzz hz hcr
  go_enter Try.func71, Try.ntmps71
  go_wp2_with fail
  refine (rTake_ok 1 a HF.out (by omega)).mono ?_
  rintro e w1 ⟨v, rfl, hO, F1, k1⟩
  rw [HK.out] at hO
  obtain ⟨g, cp, rfl, hg, hgl, hcc⟩ := own_cells hO (by omega)
  have cg := hcc 0 k0 rfl
  unfold u8v at cg
  have c1 := kb_cell F1.st
  have HF1 := Lib.hid F1
  have HK1 := Lib.hid k1
  clear F1 k1 c hO hcc
  go_wp2_with fail
  refine (rTake_ok k0.toNat a HF1.out (by have := H3.out; omega)).mono ?_
  rintro e w2 ⟨v2, rfl, hO2, F2, k2⟩
  rw [HL.out] at hO2
  obtain ⟨A2, cp2, hv2⟩ := owns_slice0 hO2
  have c2 := kb_cell F2.st
  have HF2 := Lib.hid F2
  have HK2 := Lib.hid (HK1.out.trans k2 fun _ _ h => h)
  have HO2 := Lib.hid hO2
  clear F2 k2 cg c1 hO2
  subst hv2
  go_wp2_with fail
  go_loopw [6, 7, 40, 41, 42, 43, 44, 45, 46, 47, 48, 49, 50, 51, 52, 53] (fun s6 s7 _ _ _ _ _ _ _ _ _ _ _ _ _ _ wr => ∃ i : Nat, i ≤ l.length ∧ s7 = .int .i64 i ∧ s6 = .int .u64 (bigL (l.take i) : Int) ∧ wr = w2) (fun _ s7 _ _ _ _ _ _ _ _ _ _ _ _ _ _ _ => l.length - (intOf s7).toNat)
  case atStart => exact ⟨0, by omega, rfl, rfl, rfl⟩
  case round =>
    obtain ⟨i, hi, rfl, rfl, rfl⟩ := hrel
    have h8 : l.length ≤ 8 := by have := H2.out; omega
    have hlt8 := bigL_lt l i hi
    by_cases hlt : i < l.length
    · obtain ⟨g2, cp3, hv3, hg2, hgl2, hcc2⟩ := own_cells HO2.out (by omega)
      simp only [Value.slice.injEq] at hv3
      obtain ⟨rfl, _, rfl⟩ := hv3
      have hil : ((i : Nat) : Int) < (k0.toNat : Int) := by omega
      have cc := hcc2 i _ (List.getElem?_eq_getElem hlt)
      have h7 : bigL (l.take i) < 72057594037927936 := Nat.lt_of_lt_of_le hlt8 (Nat.le_trans (Nat.pow_le_pow_right (by omega) (show i ≤ 7 by omega)) (by omega))
      have hs := shl8 h7 (l[i].toNat_lt)
      have hT := bigL_take l i hlt
      unfold u8v at cc
      generalize hN' : bigL (l.take i) = N at *
      generalize hM : bigL (l.take (i + 1)) = M at *
      clear hcc2 h7 hlt8 c2
      go_wp2_with fail
      go_roundw
      case rel => exact ⟨i + 1, by omega, by go_num, by rw [hM, hT]; simp, by first | rfl | trivial⟩
      case measure => simp [intOf]; omega
    · obtain rfl : i = l.length := by omega
      rw [List.take_length]
      clear hlt hlt8
      obtain ⟨g2, cp3, hv3, hg2, hgl2, hcc2⟩ := own_cells HO2.out (by omega)
      simp only [Value.slice.injEq] at hv3
      obtain ⟨rfl, _, rfl⟩ := hv3
      have cc := hcc2 0 c0 (by rw [HCR.out]; rfl)
      unfold u8v at cc
      clear hcc2
      have hil : (0 : Int) < (k0.toNat : Int) := by omega
      generalize hNN : bigL l = N at *
      go_wp2_with fail
      go_ret
      exact ⟨_, rfl, rfl, HF2.out, HK2.out⟩

theorem rNum_any {w : World} {B p : Nat} {s : Value} {xs : List UInt8} {st : St} (F : RRdO w B p s xs st) :
    Calls Try.prog 71 #[.pointer (some ⟨p, 0, none⟩)] w (NumP w B p s xs (step (numP xs) 0 st)) := by
  cases st with
  | bad er fr => obtain ⟨he, a, hF⟩ := F; exact rNum_bad hF he
  | «at» a =>
    have F' : RRd w B p s xs a 0 0 := F
    by_cases h1 : xs.length < a + 1
    · rw [step_bad (num_p1 h1)]; exact rNum_1 F' h1
    by_cases h2 : 8 < kAt xs a
    · rw [step_bad (num_p2 h1 h2)]; exact rNum_2 F' h1 h2
    by_cases h3 : xs.length < a + 1 + kAt xs a
    · rw [step_bad (num_p3 h1 h2 h3)]; exact rNum_3 F' h1 h2 h3
    by_cases hk : kAt xs a = 0
    · have hn : nAt xs a (kAt xs a) = [] := by rw [hk]; rfl
      have h4 : ¬ (zAt xs a (kAt xs a) = true ∨ 9223372036854775807 < bigL (nAt xs a (kAt xs a))) := by
        unfold zAt; rw [hn, bigL_nil]; simp [fb]
      rw [step_ok (num_p5 h1 h2 h3 h4), hn, bigL_nil, hk]; exact rNum_n0 F' h1 hk
    · by_cases h4 : zAt xs a (kAt xs a) = true ∨ 9223372036854775807 < bigL (nAt xs a (kAt xs a))
      · rw [step_bad (num_p4 h1 h2 h3 h4)]
        cases hz : zAt xs a (kAt xs a)
        · exact rNum_nb F' h1 h2 h3 (by omega) hz (h4.resolve_left (by rw [hz]; simp))
        · exact rNum_nz F' h1 h2 h3 (by omega) hz
      · rw [step_ok (num_p5 h1 h2 h3 h4)]
        have h5 : zAt xs a (kAt xs a) = false := by
          cases hz : zAt xs a (kAt xs a)
          · rfl
          · exact absurd (.inl hz) h4
        exact rNum_nok F' h1 h2 h3 (by omega) h5 (Nat.le_of_not_lt fun h => h4 (.inr h))
end Go.Proofs.Ytajlcodlaalomaa
