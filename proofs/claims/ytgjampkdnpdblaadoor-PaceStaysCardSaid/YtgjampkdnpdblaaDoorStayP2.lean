/- Sums, differences and eighths of finite paces: plain facts. -/
import Derived.Test.YtgjampkdnpdblaaDoorStayP
import Derived.Test.YtgjampkdnpdblaaDoorInfP
namespace Go.Proofs.YtgjampkdnpdblaaDoor.Pc
open Go Ieee

/-- A finite pace as the machine reads it; its digits are few. -/
theorem read_fin2 {b : Nat} (h : b % 9223372036854775808 < 9218868437227405312) :
    ∃ (m k : Nat), double.read b = .number (b / 9223372036854775808 % 2 == 1) m (double.leastPlace + (k : Int)) ∧ (∀ s, signed s m k = sv s (b % 9223372036854775808)) ∧ m < 9007199254740992 := by
  have e1 : double.signWeight = 9223372036854775808 := by decide
  have e2 : double.binade = 4503599627370496 := by decide
  have e3 : double.infRung = 9218868437227405312 := by decide
  unfold Format.read
  simp only [e1, e2, e3]
  by_cases hl : b % 9223372036854775808 < 4503599627370496
  · rw [if_pos hl]
    exact ⟨b % 9223372036854775808, 0, by simp, fun s => signed_low hl, by omega⟩
  · rw [if_neg hl, if_pos h]
    exact ⟨_, _, rfl, fun s => signed_high hl, by omega⟩
/-- The value of a finite pace, in units of the least place. -/
def val (b : Nat) : Int := sv (b / 9223372036854775808 % 2 == 1) (b % 9223372036854775808)
def sgn (b : Nat) : Bool := b / 9223372036854775808 % 2 == 1
/-- What a rounded number is: never beyond a pace that the number is not beyond. -/
def Near (S : Nat) (R : Nat) : Prop := ∀ r, (S ≤ magR r → R ≤ r) ∧ (magR r ≤ S → r ≤ R)
theorem signed_mul (s : Bool) (m k d : Nat) (h : d ≤ k) : signed s m k = signed s m (k - d) * ((2 ^ d : Nat) : Int) := by
  rw [← signed_up, Nat.sub_add_cancel h]
/-- The sum of two numbers of the format, rounded. -/
theorem sum_near (s t : Bool) (m n k l : Nat) :
    ∃ neg R, ((Datum.number s m (double.leastPlace + (k : Int))).sum (.number t n (double.leastPlace + (l : Int)))).map double.write = some (double.word neg (min R 9218868437227405312)) ∧
      Near (signed s m k + signed t n l).natAbs R ∧ (signed s m k + signed t n l < 0 → neg = true) ∧ (0 < signed s m k + signed t n l → neg = false) := by
  have h1 := signed_mul s m k (min k l) (by omega)
  have h2 := signed_mul t n l (min k l) (by omega)
  obtain ⟨b, hb⟩ : ∃ b, min k l = b := ⟨_, rfl⟩
  have hsum : (Datum.number s m (double.leastPlace + (k : Int))).sum (.number t n (double.leastPlace + (l : Int))) = some (.number (if signed s m (k - b) + signed t n (l - b) = 0 then s && t else decide (signed s m (k - b) + signed t n (l - b) < 0)) (signed s m (k - b) + signed t n (l - b)).natAbs (double.leastPlace + (b : Int))) := by
    unfold Datum.sum
    generalize double.leastPlace = lp
    simp only
    rw [show min (lp + (k : Int)) (lp + (l : Int)) = lp + (b : Int) by omega, show (lp + (k : Int) - (lp + (b : Int))).toNat = k - b by omega, show (lp + (l : Int) - (lp + (b : Int))).toNat = l - b by omega]
  rw [hb] at h1 h2
  have htot : signed s m k + signed t n l = (signed s m (k - b) + signed t n (l - b)) * ((2 ^ b : Nat) : Int) := by rw [h1, h2, Int.add_mul]
  generalize signed s m (k - b) + signed t n (l - b) = T at *
  obtain ⟨R, hR, hN⟩ := nearest_not_beyond (if T = 0 then s && t else decide (T < 0)) T.natAbs b 0
  have hp : (0 : Int) < ((2 ^ b : Nat) : Int) := by have := Nat.two_pow_pos b; omega
  refine ⟨if T = 0 then s && t else decide (T < 0), R, ?_, ?_, ?_, ?_⟩
  · rw [hsum]
    show some (double.nearest _ _ _) = _
    rw [show double.leastPlace + (b : Int) = double.leastPlace - ((0 : Nat) : Int) + (b : Int) by simp, hR]
  · intro r
    rw [htot, Int.natAbs_mul, Int.natAbs_natCast]
    have := hN r
    rw [Nat.pow_zero, Nat.mul_one] at this
    exact this
  · intro h
    rw [htot] at h
    have hT : T < 0 := by
      by_cases h0 : T < 0
      · exact h0
      · have := Int.mul_nonneg (show 0 ≤ T by omega) (Int.le_of_lt hp); omega
    rw [if_neg (by omega), decide_eq_true hT]
  · intro h
    rw [htot] at h
    have hT : 0 < T := by
      by_cases h0 : 0 < T
      · exact h0
      · have := Int.mul_nonneg (show 0 ≤ -T by omega) (Int.le_of_lt hp); rw [Int.neg_mul] at this; omega
    rw [if_neg (by omega), decide_eq_false (by omega)]
/-- A rounded word. -/
def Rnd (S : Int) (z : Nat) : Prop := ∃ neg R, z = double.word neg (min R 9218868437227405312) ∧ Near S.natAbs R ∧ (S < 0 → neg = true) ∧ (0 < S → neg = false)
theorem add_rnd {a b : Nat} (ha : finF a) (hb : finF b) : ∃ z, double.add a b = some z ∧ Rnd (val a + val b) z := by
  obtain ⟨m, k, e1, v1, -⟩ := read_fin2 ha
  obtain ⟨n, l, e2, v2, -⟩ := read_fin2 hb
  obtain ⟨neg, R, h, hn, h1, h2⟩ := sum_near (a / 9223372036854775808 % 2 == 1) (b / 9223372036854775808 % 2 == 1) m n k l
  rw [v1, v2] at hn h1 h2
  refine ⟨_, ?_, neg, R, rfl, hn, h1, h2⟩
  unfold Format.add
  rw [e1, e2]
  exact h
theorem sub_rnd {a b : Nat} (ha : finF a) (hb : finF b) : ∃ z, double.sub a b = some z ∧ Rnd (val a - val b) z := by
  obtain ⟨m, k, e1, v1, -⟩ := read_fin2 ha
  obtain ⟨n, l, e2, v2, -⟩ := read_fin2 hb
  obtain ⟨neg, R, h, hn, h1, h2⟩ := sum_near (a / 9223372036854775808 % 2 == 1) (!(b / 9223372036854775808 % 2 == 1)) m n k l
  rw [v1, v2] at hn h1 h2
  have e : sv (a / 9223372036854775808 % 2 == 1) (a % 9223372036854775808) + sv (!(b / 9223372036854775808 % 2 == 1)) (b % 9223372036854775808) = val a - val b := by
    unfold val sv
    cases (b / 9223372036854775808 % 2 == 1) <;> simp <;> omega
  rw [e] at hn h1 h2
  refine ⟨_, ?_, neg, R, rfl, hn, h1, h2⟩
  unfold Format.sub
  rw [e1, e2]
  exact h

/-- Eight, as the machine reads it. -/
theorem eight_is : double.read 4620693217682128896 = .number false 4503599627370496 (-49) := by decide +kernel
theorem div_rnd {d : Nat} (hd : finF d) : ∃ e neg R, double.div d 4620693217682128896 = some e ∧ e = double.word neg (min R 9218868437227405312) ∧ neg = sgn d ∧ ∀ r, (magR (d % 9223372036854775808) ≤ 8 * magR r → R ≤ r) ∧ (8 * magR r ≤ magR (d % 9223372036854775808) → r ≤ R) := by
  obtain ⟨m, k, e1, v1, hm⟩ := read_fin2 hd
  have hmk : m * 2 ^ k = magR (d % 9223372036854775808) := by
    have := v1 false
    unfold signed sv at this
    rw [Nat.shiftLeft_eq] at this
    simp only [Bool.false_eq_true, if_false] at this
    exact Int.ofNat_inj.1 this
  have hl : m.log2 ≤ 52 := by
    by_cases h0 : m = 0
    · subst h0; decide
    · have := (Nat.log2_lt h0).2 (show m < 2 ^ 53 by rw [show (2 : Nat) ^ 53 = 9007199254740992 by decide]; exact hm)
      omega
  obtain ⟨more, hmore⟩ : ∃ x, 106 - m.log2 = x := ⟨_, rfl⟩
  have hlp : double.leastPlace = -1074 := by decide
  have hquo : (Datum.number (d / 9223372036854775808 % 2 == 1) m (double.leastPlace + (k : Int))).quotient (double.fractionBits + 2) (.number false 4503599627370496 (-49)) = some (.number (d / 9223372036854775808 % 2 == 1) (2 * (m * 2 ^ (more - 52))) (double.leastPlace - ((106 : Nat) : Int) + ((k + 154 - more : Nat) : Int))) := by
    unfold Datum.quotient
    simp only
    rw [if_neg (by decide), show Nat.log2 4503599627370496 = 52 by decide +kernel, show double.fractionBits + 2 + 52 - m.log2 = more by rw [← hmore]; rfl, Nat.shiftLeft_eq]
    have hp : m * 2 ^ more = m * 2 ^ (more - 52) * 4503599627370496 := by
      rw [Nat.mul_assoc]
      congr 1
      rw [show (4503599627370496 : Nat) = 2 ^ 52 by decide, ← Nat.pow_add]
      congr 1
      omega
    rw [hp, Nat.mul_div_cancel _ (by decide), Nat.mul_mod_left]
    simp only [bne_self_eq_false, Bool.toNat_false, Nat.add_zero, Bool.xor_false]
    rw [show double.leastPlace + (k : Int) - -49 - (more : Int) - 1 = double.leastPlace - ((106 : Nat) : Int) + ((k + 154 - more : Nat) : Int) by omega]
  obtain ⟨R, hR, hN⟩ := nearest_not_beyond (d / 9223372036854775808 % 2 == 1) (2 * (m * 2 ^ (more - 52))) (k + 154 - more) 106
  refine ⟨_, _, R, ?_, rfl, rfl, fun r => ?_⟩
  · unfold Format.div
    rw [e1, eight_is, hquo]
    show some (double.nearest _ _ _) = _
    rw [hR]
    rfl
  · have h := hN r
    have e : 2 * (m * 2 ^ (more - 52)) * 2 ^ (k + 154 - more) = magR (d % 9223372036854775808) * 2 ^ 103 := by
      rw [← hmk, Nat.mul_assoc, Nat.mul_assoc, Nat.mul_assoc, ← Nat.pow_add, ← Nat.pow_add, Nat.mul_left_comm, show (2 : Nat) * 2 ^ (more - 52 + (k + 154 - more)) = 2 ^ (more - 52 + (k + 154 - more) + 1) by rw [Nat.pow_succ, Nat.mul_comm]]
      congr 2
      omega
    have e' : magR r * 2 ^ 106 = 8 * magR r * 2 ^ 103 := by
      rw [show (2 : Nat) ^ 106 = 8 * 2 ^ 103 by decide, ← Nat.mul_assoc, Nat.mul_comm (magR r) 8]
    rw [e, e'] at h
    have hp : 0 < 2 ^ 103 := by decide
    exact ⟨fun x => h.1 (Nat.mul_le_mul_right _ x), fun x => h.2 (Nat.mul_le_mul_right _ x)⟩
end Go.Proofs.YtgjampkdnpdblaaDoor.Pc
