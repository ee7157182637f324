/- The order of paces is that of one whole number: plain facts. -/
import Derived.Test.YtgjampkdnpdblaaDoorPaceP
namespace Go.Proofs.YtgjampkdnpdblaaDoor.Pc
open Go Ieee

/-- The magnitude of a rung, in units of the least place. -/
def magR (r : Nat) : Nat := if r < 4503599627370496 then r else (4503599627370496 + r % 4503599627370496) * 2 ^ (r / 4503599627370496 - 1)
theorem magR_lt {r s : Nat} (h : r < s) : magR r < magR s := by
  unfold magR
  by_cases hs : s < 4503599627370496
  · rw [if_pos (by omega), if_pos hs]; exact h
  · rw [if_neg hs]
    have p1 : 1 ≤ 2 ^ (s / 4503599627370496 - 1) := Nat.one_le_two_pow
    by_cases hr : r < 4503599627370496
    · rw [if_pos hr]
      have : (4503599627370496 + s % 4503599627370496) * 1 ≤ (4503599627370496 + s % 4503599627370496) * 2 ^ (s / 4503599627370496 - 1) := Nat.mul_le_mul_left _ p1
      omega
    · rw [if_neg hr]
      rcases Nat.lt_or_ge (r / 4503599627370496) (s / 4503599627370496) with hlt | hge
      · have e : 2 ^ (r / 4503599627370496 - 1) * 2 = 2 ^ (r / 4503599627370496) := by
          rw [← Nat.pow_succ]
          congr 1
          omega
        have hle : 2 ^ (r / 4503599627370496) ≤ 2 ^ (s / 4503599627370496 - 1) := Nat.pow_le_pow_right (by omega) (by omega)
        have h1 : (4503599627370496 + r % 4503599627370496) * 2 ^ (r / 4503599627370496 - 1) < (4503599627370496 * 2) * 2 ^ (r / 4503599627370496 - 1) := Nat.mul_lt_mul_of_pos_right (by omega) (Nat.two_pow_pos _)
        have h2 : (4503599627370496 * 2) * 2 ^ (r / 4503599627370496 - 1) = 4503599627370496 * 2 ^ (r / 4503599627370496) := by rw [← e, Nat.mul_assoc, Nat.mul_comm 2]
        have h3 : 4503599627370496 * 2 ^ (r / 4503599627370496) ≤ 4503599627370496 * 2 ^ (s / 4503599627370496 - 1) := Nat.mul_le_mul_left _ hle
        have h4 : 4503599627370496 * 2 ^ (s / 4503599627370496 - 1) ≤ (4503599627370496 + s % 4503599627370496) * 2 ^ (s / 4503599627370496 - 1) := Nat.mul_le_mul_right _ (by omega)
        omega
      · have e : r / 4503599627370496 = s / 4503599627370496 := by omega
        rw [e]
        exact Nat.mul_lt_mul_of_pos_right (by omega) (Nat.two_pow_pos _)
theorem magR_inj {r s : Nat} : magR r < magR s ↔ r < s := by
  refine ⟨fun h => ?_, magR_lt⟩
  rcases Nat.lt_trichotomy r s with h1 | rfl | h1
  · exact h1
  · omega
  · have := magR_lt h1
    omega

/-- How two whole numbers stand. -/
def ordI (x y : Int) : Ordering := if x < y then .lt else if y < x then .gt else .eq
theorem compare_ordI (x y : Int) : compare x y = ordI x y := by
  show compareOfLessAndEq x y = _
  unfold compareOfLessAndEq ordI
  by_cases h1 : x < y
  · rw [if_pos h1, if_pos h1]
  · rw [if_neg h1, if_neg h1]
    by_cases h2 : x = y
    · subst h2; rw [if_pos rfl, if_neg (by omega)]
    · rw [if_neg h2, if_pos (by omega)]
theorem ordI_scale (x y : Int) (d : Int) (hd : 0 < d) : ordI (x * d) (y * d) = ordI x y := by
  unfold ordI
  have h1 : x * d < y * d ↔ x < y := ⟨fun h => Int.lt_of_mul_lt_mul_right h (Int.le_of_lt hd), fun h => Int.mul_lt_mul_of_pos_right h hd⟩
  have h2 : y * d < x * d ↔ y < x := ⟨fun h => Int.lt_of_mul_lt_mul_right h (Int.le_of_lt hd), fun h => Int.mul_lt_mul_of_pos_right h hd⟩
  simp only [h1, h2]
theorem signed_up (s : Bool) (m k d : Nat) : signed s m (k + d) = signed s m k * ((2 ^ d : Nat) : Int) := by
  unfold signed
  have e : m <<< (k + d) = (m <<< k) * 2 ^ d := by rw [Nat.shiftLeft_eq, Nat.shiftLeft_eq, Nat.pow_add, Nat.mul_assoc]
  rw [e]
  cases s
  · simp
  · simp [Int.neg_mul]
theorem ord_places (s t : Bool) (m n k l : Nat) (c : Int) :
    compare (signed s m ((c + k) - min (c + (k : Int)) (c + (l : Int))).toNat) (signed t n ((c + l) - min (c + (k : Int)) (c + (l : Int))).toNat) = ordI (signed s m k) (signed t n l) := by
  rw [compare_ordI]
  have e1 : ((c + (k : Int)) - min (c + (k : Int)) (c + (l : Int))).toNat = k - min k l := by omega
  have e2 : ((c + (l : Int)) - min (c + (k : Int)) (c + (l : Int))).toNat = l - min k l := by omega
  rw [e1, e2]
  have h := ordI_scale (signed s m (k - min k l)) (signed t n (l - min k l)) ((2 ^ min k l : Nat) : Int) (by have := Nat.two_pow_pos (min k l); omega)
  rw [← signed_up, ← signed_up, show k - min k l + min k l = k by omega, show l - min k l + min k l = l by omega] at h
  exact h.symm

/-- The number of a sign and a rung. -/
def sv (s : Bool) (r : Nat) : Int := if s then -(magR r : Int) else magR r
theorem signed_low {s : Bool} {r : Nat} (h : r < 4503599627370496) : signed s r 0 = sv s r := by
  unfold signed sv magR
  rw [if_pos h]
  simp
theorem signed_high {s : Bool} {r : Nat} (h : ¬ r < 4503599627370496) : signed s (4503599627370496 + r % 4503599627370496) (r / 4503599627370496 - 1) = sv s r := by
  unfold signed sv magR
  rw [if_neg h, Nat.shiftLeft_eq]

/-- A finite pace as the machine reads it. -/
theorem read_fin {b : Nat} (h : b % 9223372036854775808 < 9218868437227405312) :
    ∃ (m k : Nat), double.read b = .number (b / 9223372036854775808 % 2 == 1) m (double.leastPlace + (k : Int)) ∧ ∀ s, signed s m k = sv s (b % 9223372036854775808) := by
  have e1 : double.signWeight = 9223372036854775808 := by decide
  have e2 : double.binade = 4503599627370496 := by decide
  have e3 : double.infRung = 9218868437227405312 := by decide
  unfold Format.read
  simp only [e1, e2, e3]
  by_cases hl : b % 9223372036854775808 < 4503599627370496
  · rw [if_pos hl]
    exact ⟨b % 9223372036854775808, 0, by simp, fun s => signed_low hl⟩
  · rw [if_neg hl, if_pos h]
    exact ⟨_, _, rfl, fun s => signed_high hl⟩
theorem read_inf {b : Nat} (h : b % 9223372036854775808 = 9218868437227405312) : double.read b = .infinity (b / 9223372036854775808 % 2 == 1) := by
  have e1 : double.signWeight = 9223372036854775808 := by decide
  have e2 : double.binade = 4503599627370496 := by decide
  have e3 : double.infRung = 9218868437227405312 := by decide
  unfold Format.read
  simp only [e1, e2, e3]
  rw [if_neg (by omega), if_neg (by omega), if_pos h]
theorem rung_le {b : Nat} (h : nanB b = false) : b % 9223372036854775808 ≤ 9218868437227405312 := by
  rw [nanB_read] at h
  have e1 : double.signWeight = 9223372036854775808 := by decide
  have e2 : double.binade = 4503599627370496 := by decide
  have e3 : double.infRung = 9218868437227405312 := by decide
  unfold Format.read at h
  simp only [e1, e2, e3] at h
  by_cases h1 : b % 9223372036854775808 < 4503599627370496
  · omega
  · rw [if_neg h1] at h
    by_cases h2 : b % 9223372036854775808 < 9218868437227405312
    · omega
    · rw [if_neg h2] at h
      by_cases h3 : b % 9223372036854775808 = 9218868437227405312
      · omega
      · rw [if_neg h3] at h
        cases h
theorem sv_bd (s : Bool) {r : Nat} (h : r < 9218868437227405312) : -(magR 9218868437227405312 : Int) < sv s r ∧ sv s r < magR 9218868437227405312 := by
  have := magR_lt h
  unfold sv
  cases s
  · simp only [Bool.false_eq_true, if_false]; omega
  · simp only [if_true]; omega
/-- How two paces stand, as the machine has it. -/
theorem order_sv {a b : Nat} (ha : nanB a = false) (hb : nanB b = false) :
    FloatKind.f64.format.order a b = some (ordI (sv (a / 9223372036854775808 % 2 == 1) (a % 9223372036854775808)) (sv (b / 9223372036854775808 % 2 == 1) (b % 9223372036854775808))) := by
  show (double.read a).order (double.read b) = _
  have ra := rung_le ha
  have rb := rung_le hb
  have hM : 0 < magR 9218868437227405312 := by have := @magR_lt 0 9218868437227405312 (by decide); omega
  rcases Nat.lt_or_eq_of_le ra with la | ea <;> rcases Nat.lt_or_eq_of_le rb with lb | eb
  · obtain ⟨m, k, e, h⟩ := read_fin la
    obtain ⟨n, l, e', h'⟩ := read_fin lb
    rw [e, e']
    show some (compare _ _) = _
    rw [ord_places, h, h']
  · obtain ⟨m, k, e, h⟩ := read_fin la
    rw [e, read_inf eb, eb]
    have h1 := sv_bd (a / 9223372036854775808 % 2 == 1) la
    generalize sv (a / 9223372036854775808 % 2 == 1) (a % 9223372036854775808) = x at *
    show some (if (b / 9223372036854775808 % 2 == 1) = true then Ordering.gt else .lt) = _
    unfold ordI sv
    cases (b / 9223372036854775808 % 2 == 1)
    · simp only [Bool.false_eq_true, if_false]
      rw [if_pos h1.2]
    · simp only [if_true]
      rw [if_neg (by omega), if_pos h1.1]
  · obtain ⟨m, k, e, h⟩ := read_fin lb
    rw [e, read_inf ea, ea]
    have h1 := sv_bd (b / 9223372036854775808 % 2 == 1) lb
    generalize sv (b / 9223372036854775808 % 2 == 1) (b % 9223372036854775808) = x at *
    show some (if (a / 9223372036854775808 % 2 == 1) = true then Ordering.lt else .gt) = _
    unfold ordI sv
    cases (a / 9223372036854775808 % 2 == 1)
    · simp only [Bool.false_eq_true, if_false]
      rw [if_neg (by omega), if_pos h1.2]
    · simp only [if_true]
      rw [if_pos h1.1]
  · rw [read_inf ea, read_inf eb, ea, eb]
    show some (compare (b / 9223372036854775808 % 2 == 1).toNat (a / 9223372036854775808 % 2 == 1).toNat) = _
    unfold ordI sv
    cases (a / 9223372036854775808 % 2 == 1) <;> cases (b / 9223372036854775808 % 2 == 1) <;> simp only [Bool.false_eq_true, if_false, if_true]
    · rw [if_neg (by omega), if_neg (by omega)]; rfl
    · rw [if_neg (by omega), if_pos (by omega)]; rfl
    · rw [if_pos (by omega)]; rfl
    · rw [if_neg (by omega), if_neg (by omega)]; rfl

/-- A whole number that stands as a pace does: NaN above all, -0 below 0. -/
def keyF (b : Nat) : Int := if nanB b then 36893488147419103232 else if minusB b then 9223372036854775807 - (b : Int) else b
theorem minus_sign {b : Nat} (h : b < 18446744073709551616) : (b / 9223372036854775808 % 2 == 1) = minusB b := by
  rw [minusB, Bool.eq_iff_iff]
  simp only [beq_iff_eq, decide_eq_true_eq]
  omega
theorem sv_lt {s t : Bool} {r q : Nat} : sv s r < sv t q ↔ if s then (if t then q < r else (r ≠ 0 ∨ q ≠ 0)) else (if t then False else r < q) := by
  have h0 : magR 0 = 0 := rfl
  unfold sv
  cases s <;> cases t <;> simp only [Bool.false_eq_true, if_false, if_true]
  · rw [← @magR_inj r q]; omega
  · constructor
    · intro h; omega
    · exact False.elim
  · constructor
    · intro h
      by_cases hr : r = 0
      · right
        rintro rfl
        subst hr
        omega
      · exact .inl hr
    · rintro (h | h)
      · have := @magR_lt 0 r (by omega)
        omega
      · have := @magR_lt 0 q (by omega)
        omega
  · rw [← @magR_inj q r]; omega
/-- Which of two paces is less: which number is. -/
theorem cmpF_key {a b : Nat} (ha : a < 18446744073709551616) (hb : b < 18446744073709551616) : cmpF a b = if keyF a < keyF b then -1 else if keyF b < keyF a then 1 else 0 := by
  unfold cmpF keyF
  cases na : nanB a <;> cases nb : nanB b <;> simp only [Bool.false_eq_true, if_false, if_true]
  · rw [order_sv na nb, minus_sign ha, minus_sign hb]
    have ra := rung_le na
    have rb := rung_le nb
    have h1 := @sv_lt (minusB a) (minusB b) (a % 9223372036854775808) (b % 9223372036854775808)
    have h2 := @sv_lt (minusB b) (minusB a) (b % 9223372036854775808) (a % 9223372036854775808)
    have e1 : (some (ordI (sv (minusB a) (a % 9223372036854775808)) (sv (minusB b) (b % 9223372036854775808))) == some .lt) = decide (sv (minusB a) (a % 9223372036854775808) < sv (minusB b) (b % 9223372036854775808)) := by
      unfold ordI
      split
      · rename_i h; simp [h]
      · rename_i h; split <;> simp [h]
    have e2 : (some (ordI (sv (minusB a) (a % 9223372036854775808)) (sv (minusB b) (b % 9223372036854775808))) == some .gt) = decide (sv (minusB b) (b % 9223372036854775808) < sv (minusB a) (a % 9223372036854775808)) := by
      unfold ordI
      split
      · rename_i h
        have : ¬ sv (minusB b) (b % 9223372036854775808) < sv (minusB a) (a % 9223372036854775808) := by omega
        simp [this]
      · rename_i h; split
        · rename_i h'; simp [h']
        · rename_i h'; simp [h']
    rw [e1, e2]
    simp only [h1, h2, decide_eq_true_eq]
    have ma : minusB a = decide (9223372036854775808 ≤ a) := rfl
    have mb : minusB b = decide (9223372036854775808 ≤ b) := rfl
    by_cases pa : 9223372036854775808 ≤ a <;> by_cases pb : 9223372036854775808 ≤ b <;> simp only [ma, mb, pa, pb, decide_true, decide_false, Bool.false_eq_true, if_false, if_true]
    · by_cases c1 : b % 9223372036854775808 < a % 9223372036854775808
      · rw [if_pos c1, if_pos (by omega)]
      · rw [if_neg c1]
        by_cases c2 : a % 9223372036854775808 < b % 9223372036854775808
        · rw [if_pos c2, if_neg (show ¬ (9223372036854775807 - (a : Int) < 9223372036854775807 - (b : Int)) by omega), if_pos (show 9223372036854775807 - (b : Int) < 9223372036854775807 - (a : Int) by omega)]
        · rw [if_neg c2, if_neg (show ¬ (9223372036854775807 - (a : Int) < 9223372036854775807 - (b : Int)) by omega), if_neg (show ¬ (9223372036854775807 - (b : Int) < 9223372036854775807 - (a : Int)) by omega)]
    · rw [if_pos (show (9223372036854775807 - (a : Int)) < b by omega)]
      by_cases c1 : a % 9223372036854775808 ≠ 0 ∨ b % 9223372036854775808 ≠ 0
      · rw [if_pos c1]
      · rw [if_neg c1]
    · rw [if_neg (show ¬ ((a : Int) < 9223372036854775807 - (b : Int)) by omega), if_pos (show (9223372036854775807 - (b : Int)) < a by omega)]
      by_cases c1 : b % 9223372036854775808 ≠ 0 ∨ a % 9223372036854775808 ≠ 0
      · rw [if_pos c1]
      · rw [if_neg c1]
    · by_cases c1 : a % 9223372036854775808 < b % 9223372036854775808
      · rw [if_pos c1, if_pos (by omega)]
      · rw [if_neg c1]
        by_cases c2 : b % 9223372036854775808 < a % 9223372036854775808
        · rw [if_pos c2, if_neg (show ¬ ((a : Int) < (b : Int)) by omega), if_pos (show (b : Int) < (a : Int) by omega)]
        · rw [if_neg c2, if_neg (show ¬ ((a : Int) < (b : Int)) by omega), if_neg (show ¬ ((b : Int) < (a : Int)) by omega)]
  · rw [if_pos]
    split <;> omega
  · rw [if_neg, if_pos]
    · split <;> omega
    · split <;> omega
  · rfl
end Go.Proofs.YtgjampkdnpdblaaDoor.Pc
