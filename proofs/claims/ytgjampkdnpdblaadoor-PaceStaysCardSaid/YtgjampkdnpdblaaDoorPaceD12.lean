/- PaceBack: forms and texts are read as they were; the walk. -/
import Derived.Test.YtgjampkdnpdblaaDoorPaceD11
namespace Go.Proofs.YtgjampkdnpdblaaDoor
open Go.RowKit Go.Proofs.YtgjampkdnpdblaaDoor.Pc BigFrame
set_option linter.unusedSimpArgs false
set_option linter.unusedVariables false

/-- A digit, as a byte. -/
def digC (d : Nat) : UInt8 := (hexD d).toNat.toUInt8
theorem dig_all : ∀ d : Fin 16, (isHex (digC d.val) && idxH (digC d.val) == d.val) = true := by decide +kernel
theorem dig_hex {d : Nat} (h : d < 16) : isHex (digC d) = true ∧ idxH (digC d) = d := by
  have := dig_all ⟨d, h⟩
  simpa using this
theorem dig_back_all : ∀ n : Fin 256, (!isHex (UInt8.ofNat n.val) || digC (idxH (UInt8.ofNat n.val)) == UInt8.ofNat n.val) = true := by decide +kernel
theorem dig_back {b : UInt8} (h : isHex b = true) : digC (idxH b) = b := by
  have := dig_back_all ⟨b.toNat, b.toNat_lt⟩
  rw [show UInt8.ofNat b.toNat = b from UInt8.ofNat_toNat] at this
  rw [h] at this
  simpa using this
/-- The last k digits of a number. -/
def hexG (k n : Nat) : List UInt8 := (List.range k).map fun i => digC (n / 16 ^ (k - 1 - i) % 16)
theorem hexG_all (n : Nat) : hexT n = hexG 16 n := rfl
theorem hexG_len (k n : Nat) : (hexG k n).length = k := by simp [hexG]
theorem hexG_succ (k n : Nat) : hexG (k + 1) n = hexG k (n / 16) ++ [digC (n % 16)] := by
  unfold hexG
  rw [List.range_succ, List.map_append]
  congr 1
  · refine List.map_congr_left fun i hi => ?_
    have hi' : i < k := by simpa using hi
    rw [show k + 1 - 1 - i = (k - 1 - i) + 1 by omega, Nat.pow_succ, Nat.mul_comm, ← Nat.div_div_eq_div_mul]
  · simp
theorem hexG_hex : (k n : Nat) → (hexG k n).all isHex = true
  | 0, n => rfl
  | k + 1, n => by
    rw [hexG_succ, List.all_append, hexG_hex k]
    simp [(dig_hex (Nat.mod_lt n (show 0 < 16 by omega))).1]
theorem readN_hexG : (k n : Nat) → readN (hexG k n) = n % 16 ^ k
  | 0, n => by simp [hexG, readN]; omega
  | k + 1, n => by
    rw [hexG_succ, readN_snoc, readN_hexG k, (dig_hex (Nat.mod_lt n (show 0 < 16 by omega))).2, Nat.pow_succ, Nat.mul_comm (16 ^ k) 16, Nat.mod_mul]
    omega
theorem hexG_readN : (k : Nat) → (l : List UInt8) → l.length = k → l.all isHex = true → hexG k (readN l) = l
  | 0, l, h, _ => by rw [List.eq_nil_of_length_eq_zero h]; rfl
  | k + 1, l, h, ha => by
    have hne : l ≠ [] := by intro e; rw [e] at h; cases h
    have hl := List.dropLast_concat_getLast hne
    have hlen : l.dropLast.length = k := by rw [List.length_dropLast, h]; rfl
    generalize l.dropLast = r at *
    generalize l.getLast hne = b at *
    subst hl
    rw [List.all_append, Bool.and_eq_true] at ha
    have hb : isHex b = true := by simpa using ha.2
    have h16 := (idx_hex hb).2.1
    rw [readN_snoc, hexG_succ, show (readN r * 16 + idxH b) / 16 = readN r by omega, show (readN r * 16 + idxH b) % 16 = idxH b by omega, hexG_readN k r hlen ha.1, dig_back hb]
theorem back_num {m : Nat} (h : m < 18446744073709551616) : okR (hexT m) = true ∧ readN (hexT m) = m := by
  refine ⟨?_, ?_⟩
  · unfold okR
    rw [hexG_all, hexG_hex, hexG_len]; rfl
  · rw [hexG_all, readN_hexG]
    exact Nat.mod_eq_of_lt (Nat.lt_of_lt_of_le h (by decide))
theorem back_text {l : List UInt8} (h : okR l = true) : hexT (readN l) = l ∧ readN l < 18446744073709551616 := by
  unfold okR at h
  rw [Bool.and_eq_true, beq_iff_eq] at h
  refine ⟨?_, ?_⟩
  · rw [hexG_all, hexG_readN 16 l h.1 h.2]
  · have := readN_lt l h.2
    rw [h.1] at this
    exact Nat.lt_of_lt_of_le this (by decide)
theorem bad_canon (n : Nat) : badF (canon n) = false := by
  unfold canon badF
  cases h : nanB n
  · simp only [Bool.false_eq_true, if_false]
    rw [h]; rfl
  · simp only [if_true]
    rfl
theorem not_bad {n : Nat} (h : badF n = false) : canon n = n := by
  unfold badF at h
  cases e : nanB n
  · exact canon_num e
  · rw [e] at h
    have : n = 9221120237041090560 := by simpa using h
    rw [canon_nan e, this]; rfl

set_option maxRecDepth 100000 in
set_option maxHeartbeats 8000000 in
theorem PaceBack_walk (a : Int) (s : ByteArray) (w : World) (h0 : 0 ≤ a) (ha : a.toNat < 18446744073709551616) :
    Calls Tryd.prog 6 #[.int .u64 a, .string s] w fun e w' => e = .returned (.bool true) ∧ Below w.heap.size w w' := by
  obtain ⟨n, rfl⟩ : ∃ n : Nat, a = n := ⟨a.toNat, by omega⟩
  have hn : n < 18446744073709551616 := by omega
  by_cases hl : 40 < s.size
  · have hl' : (40 : Int) < (s.size : Int) := by omega
    go_enter Tryd.func6, Tryd.ntmps6
    go_wp2_with (go_at_call 4; (with_reducible refine (PaceKnown_any _).mono ?_); rintro e w1 ⟨rfl, hb1⟩; have hz1 := hb1.size)
    go_ret
    exact ⟨rfl, hb1⟩
  · have hl' : ¬ (40 : Int) < (s.size : Int) := by omega
    have hc := canon_lt hn
    have HOf := Lib.hid (show ∀ W : World, Calls Tryd.prog 9 #[.int .u64 (n : Int)] W fun e w' => e = .returned (.float .f64 n) ∧ W = w' from fun W => of_any (n : Int) W)
    have HB := Lib.hid (fun W => Bits_any n W)
    have HO1 := Lib.hid (show ∀ W : World, Calls Tryd.prog 10 #[.int .u64 (canon n : Int)] W fun e w' => e = .returned (.tuple #[.float .f64 (canon n), .int .i64 0]) ∧ W = w' from fun W => by
      have := Of_any (canon n) W
      unfold ofV ofE at this
      rw [bad_canon] at this
      exact this)
    have HT := Lib.hid (fun W => Text_any n W hn)
    have HR1 := Lib.hid (fun W => Read_t ⟨(hexT (canon n)).toArray⟩ (canon n) 0 (by
      obtain ⟨e1, e2⟩ := back_num hc
      show readV (hexT (canon n)).toArray.toList = _ ∧ readE (hexT (canon n)).toArray.toList = _
      rw [List.toList_toArray]
      unfold readV readE ofV ofE
      rw [e1, e2, bad_canon]
      exact ⟨rfl, rfl⟩) W)
    have HC := Lib.hid (fun W => Compare_t (canon n) n 0 hc hn (cmp_eq' hc hn ((key_canon hc hn).2 (canon_canon n))) W)
    have HOX : Hid (∃ oe : Int, (∀ W : World, Calls Tryd.prog 10 #[.int .u64 (n : Int)] W fun e w' => e = .returned (.tuple #[.float .f64 (ofV n), .int .i64 oe]) ∧ W = w') ∧ (oe = 5 ∨ (oe = 0 ∧ canon n = n))) := Lib.hid ⟨ofE n, fun W => Of_any n W, by
      cases hb : badF n
      · exact .inr ⟨by unfold ofE; rw [hb]; rfl, not_bad hb⟩
      · exact .inl (by unfold ofE; rw [hb]; rfl)⟩
    have HRX : Hid (∃ re : Int, (∀ W : World, Calls Tryd.prog 12 #[.string s] W fun e w' => e = .returned (.tuple #[.float .f64 (readV s.data.toList), .int .i64 re]) ∧ Below W.heap.size W w') ∧ (re = 5 ∨ (re = 0 ∧ ∀ W : World, Calls Tryd.prog 16 #[.float .f64 (readV s.data.toList)] W fun e w' => e = .returned (.string s) ∧ Below W.heap.size W w'))) := Lib.hid ⟨readE s.data.toList, fun W => Read_any s W, by
      cases ho : okR s.data.toList
      · exact .inl (by unfold readE; rw [ho]; rfl)
      · cases hb : badF (readN s.data.toList)
        · refine .inr ⟨by unfold readE ofE; rw [ho, hb]; rfl, fun W => ?_⟩
          obtain ⟨e1, e2⟩ := back_text ho
          have hv : readV s.data.toList = readN s.data.toList := by unfold readV ofV; rw [ho, hb]; rfl
          rw [hv]
          have := Text_any (readN s.data.toList) W e2
          rw [not_bad hb, e1] at this
          rw [show (⟨s.data.toList.toArray⟩ : ByteArray) = s by rw [Array.toArray_toList]] at this
          exact this
        · exact .inl (by unfold readE ofE; rw [ho, hb]; rfl)⟩
    obtain ⟨oe, HO2, ho⟩ := HOX.out
    obtain ⟨re, HR2, hr⟩ := HRX.out
    clear HOX HRX
    have HO2 := Lib.hid HO2
    have HR2 := Lib.hid HR2
    generalize readV s.data.toList = rv at *
    generalize ofV n = ov at *
    generalize (⟨(hexT (canon n)).toArray⟩ : ByteArray) = t at *
    rcases ho with rfl | ⟨rfl, hcn⟩ <;> rcases hr with rfl | ⟨rfl, HT2⟩
    all_goals
      try have HT2 := Lib.hid HT2
      try rw [hcn] at HB HO1 HR1 HC hc
      try clear hcn
      try generalize canon n = cn at *
      have e1 : ((n : Int) == (n : Int)) = true := by simp
      go_enter Tryd.func6, Tryd.ntmps6
      go_wp2_with fail
      refine (PaceKnown_any w).mono ?_
      rintro e w1 ⟨rfl, b1⟩
      go_wp2_with (first | (go_at_call 9; (with_reducible refine (HOf.out _).mono ?_); rintro e w1 ⟨rfl, rfl⟩) | (go_at_call 14; (with_reducible refine (HB.out _).mono ?_); rintro e w1 ⟨rfl, rfl⟩) | (go_at_call 10; (with_reducible refine (HO1.out _).mono ?_); rintro e w1 ⟨rfl, rfl⟩))
      refine (HT.out _).mono ?_
      rintro e w2 ⟨rfl, b2⟩
      have b02 := bl_then b1 b2
      go_wp2_with fail
      refine (HR1.out _).mono ?_
      rintro e w3 ⟨rfl, b3⟩
      have b03 := bl_then b02 b3
      go_wp2_with fail
      refine (HC.out _).mono ?_
      rintro e w4 ⟨rfl, b4⟩
      have b04 := bl_then b03 b4
      go_wp2_with fail
      refine (HC.out _).mono ?_
      rintro e w5 ⟨rfl, b5⟩
      have b05 := bl_then b04 b5
      clear b1 b2 b3 b4 b5 b02 b03 b04
      go_wp2_with fail
      refine (HO2.out _).mono ?_
      rintro e w6 ⟨rfl, rfl⟩
      go_wp2_with fail
      refine (HR2.out _).mono ?_
      rintro e w7 ⟨rfl, b7⟩
      have b07 := bl_then b05 b7
      clear b05 b7
      first
        | (go_wp2_with (go_at_call 14; (with_reducible refine (HB.out _).mono ?_); rintro e w1 ⟨rfl, rfl⟩); refine (HT2.out _).mono ?_; rintro e w8 ⟨rfl, b8⟩; go_wp2; go_ret; exact ⟨rfl, bl_then b07 b8⟩)
        | (go_wp2_with (go_at_call 14; (with_reducible refine (HB.out _).mono ?_); rintro e w1 ⟨rfl, rfl⟩); go_ret; exact ⟨rfl, b07⟩)
end Go.Proofs.YtgjampkdnpdblaaDoor
