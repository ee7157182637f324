/- Rounding to the nearest is never beyond a pace: plain facts. -/
import Derived.Test.YtgjampkdnpdblaaDoorKeyF
namespace Go.Proofs.YtgjampkdnpdblaaDoor.Pc
open Go Ieee

theorem magR_grid {c q : Nat} (h : c = 0 ∨ 4503599627370496 ≤ q) (h' : q ≤ 9007199254740992) : magR (c * 4503599627370496 + q) = q * 2 ^ c := by
  unfold magR
  by_cases h1 : c * 4503599627370496 + q < 4503599627370496
  · rw [if_pos h1]
    have hc : c = 0 := by omega
    subst hc
    simp
  · rw [if_neg h1]
    by_cases h2 : q = 9007199254740992
    · subst h2
      rw [show (c * 4503599627370496 + 9007199254740992) / 4503599627370496 - 1 = c + 1 by omega, show (c * 4503599627370496 + 9007199254740992) % 4503599627370496 = 0 by omega, Nat.pow_succ]
      omega
    · have hq : 4503599627370496 ≤ q := by
        rcases h with rfl | h
        · omega
        · exact h
      rw [show (c * 4503599627370496 + q) / 4503599627370496 - 1 = c by omega, show 4503599627370496 + (c * 4503599627370496 + q) % 4503599627370496 = q by omega]
theorem magR_le {r s : Nat} (h : r ≤ s) : magR r ≤ magR s := by
  rcases Nat.lt_or_eq_of_le h with h | h
  · exact Nat.le_of_lt (magR_lt h)
  · rw [h]; exact Nat.le_refl _
/-- What is kept of a number cut at a place: what is whole in it, or one more where something is left over. -/
theorem cut_or (neg : Bool) (n drop : Nat) : Toward.even.cut neg n drop = n / 2 ^ drop ∨ (Toward.even.cut neg n drop = n / 2 ^ drop + 1 ∧ n % 2 ^ drop ≠ 0) := by
  unfold Toward.cut
  simp only [Nat.shiftLeft_eq, Nat.one_mul]
  by_cases hd : drop ≤ n.log2 + 2
  · rw [Nat.min_eq_left hd]
    by_cases hr : n % 2 ^ drop = 0
    · left
      rw [hr]
      have hp := Nat.two_pow_pos drop
      have e1 : decide (2 ^ drop < 2 * 0) = false := by simp
      have e2 : (2 ^ drop == 2 * 0) = false := by simp
      rw [e1, e2]; simp
    · cases (decide (2 ^ drop < 2 * (n % 2 ^ drop)) || (2 ^ drop == 2 * (n % 2 ^ drop) && n / 2 ^ drop % 2 == 1))
      · left; simp
      · right; exact ⟨by simp, hr⟩
  · rw [Nat.min_eq_right (by omega)]
    left
    have h1 : n < 2 ^ (n.log2 + 1) := Nat.lt_log2_self
    have h2 : 2 ^ (n.log2 + 2) = 2 * 2 ^ (n.log2 + 1) := by rw [Nat.pow_succ]; omega
    have h3 : 2 ^ (n.log2 + 2) ≤ 2 ^ drop := Nat.pow_le_pow_right (by omega) (by omega)
    have e0 : n / 2 ^ (n.log2 + 2) = 0 := Nat.div_eq_of_lt (by omega)
    have e1 : n / 2 ^ drop = 0 := Nat.div_eq_of_lt (by omega)
    have e2 : n % 2 ^ (n.log2 + 2) = n := Nat.mod_eq_of_lt (by omega)
    rw [e0, e1, e2]
    have e3 : decide (2 ^ (n.log2 + 2) < 2 * n) = false := by simp; omega
    have e4 : (2 ^ (n.log2 + 2) == 2 * n) = false := by simp; omega
    rw [e3, e4]; rfl

theorem mul_div_pow {m k P : Nat} (h : k ≤ P) : m * 2 ^ k / 2 ^ P = m / 2 ^ (P - k) := by
  rw [show (2 : Nat) ^ P = 2 ^ (P - k) * 2 ^ k by rw [← Nat.pow_add]; congr 1; omega, Nat.mul_div_mul_right _ _ (Nat.two_pow_pos k)]
theorem mul_mod_pow {m k P : Nat} (h : k ≤ P) : m * 2 ^ k % 2 ^ P = m % 2 ^ (P - k) * 2 ^ k := by
  rw [show (2 : Nat) ^ P = 2 ^ (P - k) * 2 ^ k by rw [← Nat.pow_add]; congr 1; omega, Nat.mul_mod_mul_right]

/-- The rung of the nearest pace: never beyond a pace that the number is not beyond. In units of '2 ^ -t' of the least place. -/
theorem nearest_not_beyond (neg : Bool) (mag k t : Nat) :
    ∃ R, double.nearest neg mag (double.leastPlace - (t : Int) + (k : Int)) = double.word neg (min R 9218868437227405312) ∧
      ∀ r, (mag * 2 ^ k ≤ magR r * 2 ^ t → R ≤ r) ∧ (magR r * 2 ^ t ≤ mag * 2 ^ k → r ≤ R) := by
  have b1 : double.binade = 4503599627370496 := by decide
  have b2 : double.infRung = 9218868437227405312 := by decide
  have b3 : (double.fractionBits : Int) = 52 := rfl
  by_cases hm : mag = 0
  · subst hm
    refine ⟨0, by unfold Format.nearest; simp, fun r => ⟨fun _ => Nat.zero_le _, fun h => ?_⟩⟩
    have hp := Nat.two_pow_pos t
    rw [Nat.zero_mul] at h
    have : magR r = 0 := by
      rcases Nat.eq_zero_or_pos (magR r) with h0 | h0
      · exact h0
      · have := Nat.mul_pos h0 hp; omega
    rcases Nat.eq_zero_or_pos r with h0 | h0
    · omega
    · have := magR_lt h0
      omega
  · obtain ⟨c, hc⟩ : ∃ c, k + mag.log2 - (t + 52) = c := ⟨_, rfl⟩
    obtain ⟨kept, hkept⟩ : ∃ K, Toward.even.cut neg (mag <<< (k - (t + c))) ((t + c) - k) = K := ⟨_, rfl⟩
    have hnear : double.nearest neg mag (double.leastPlace - (t : Int) + (k : Int)) = double.word neg (min (c * 4503599627370496 + kept) 9218868437227405312) := by
      unfold Format.nearest
      rw [if_neg hm]
      simp only [b1, b2, b3]
      generalize double.leastPlace = lp
      have e1 : max (lp - (t : Int) + (k : Int) + (mag.log2 : Int) - 52) lp = lp + (c : Int) := by omega
      rw [e1, show (lp - (t : Int) + (k : Int) - (lp + (c : Int))).toNat = k - (t + c) by omega, show (lp + (c : Int) - (lp - (t : Int) + (k : Int))).toNat = (t + c) - k by omega, show (lp + (c : Int) - lp).toNat = c by omega, hkept]
    have hlo : 2 ^ mag.log2 ≤ mag := Nat.log2_self_le hm
    have hhi : mag < 2 ^ (mag.log2 + 1) := Nat.lt_log2_self
    have hP := Nat.two_pow_pos (t + c)
    have hq : kept = mag * 2 ^ k / 2 ^ (t + c) ∨ (kept = mag * 2 ^ k / 2 ^ (t + c) + 1 ∧ mag * 2 ^ k % 2 ^ (t + c) ≠ 0) := by
      by_cases hk : t + c ≤ k
      · left
        rw [← hkept, show (t + c) - k = 0 by omega, Nat.shiftLeft_eq]
        have : mag * 2 ^ k / 2 ^ (t + c) = mag * 2 ^ (k - (t + c)) := by
          rw [show (2 : Nat) ^ k = 2 ^ (k - (t + c)) * 2 ^ (t + c) by rw [← Nat.pow_add]; congr 1; omega, ← Nat.mul_assoc, Nat.mul_div_cancel _ hP]
        rw [this]
        rcases cut_or neg (mag * 2 ^ (k - (t + c))) 0 with h | ⟨_, h⟩
        · rw [h]; simp
        · simp at h
          omega
      · have hk' : k ≤ t + c := by omega
        rw [show k - (t + c) = 0 by omega, Nat.shiftLeft_eq, Nat.pow_zero, Nat.mul_one] at hkept
        rw [mul_div_pow hk', mul_mod_pow hk', ← hkept]
        rcases cut_or neg mag (t + c - k) with h | ⟨h, h'⟩
        · exact .inl h
        · exact .inr ⟨h, Nat.mul_ne_zero h' (Nat.ne_of_gt (Nat.two_pow_pos k))⟩
    have hM1 : mag * 2 ^ k < 9007199254740992 * 2 ^ (t + c) := by
      have h1 : mag * 2 ^ k < 2 ^ (mag.log2 + 1) * 2 ^ k := Nat.mul_lt_mul_of_pos_right hhi (Nat.two_pow_pos k)
      rw [← Nat.pow_add] at h1
      have h2 : (2 : Nat) ^ (mag.log2 + 1 + k) ≤ 2 ^ (53 + (t + c)) := Nat.pow_le_pow_right (by omega) (by omega)
      rw [Nat.pow_add 2 53 (t + c), show (2 : Nat) ^ 53 = 9007199254740992 by decide] at h2
      omega
    have hM2 : c = 0 ∨ 4503599627370496 * 2 ^ (t + c) ≤ mag * 2 ^ k := by
      rcases Nat.eq_zero_or_pos c with h | h
      · exact .inl h
      · right
        have h1 : 2 ^ mag.log2 * 2 ^ k ≤ mag * 2 ^ k := Nat.mul_le_mul_right _ hlo
        rw [← Nat.pow_add] at h1
        have h2 : (2 : Nat) ^ (mag.log2 + k) = 2 ^ (52 + (t + c)) := by congr 1; omega
        rw [h2, Nat.pow_add 2 52 (t + c), show (2 : Nat) ^ 52 = 4503599627370496 by decide] at h1
        exact h1
    generalize mag * 2 ^ k = M at *
    obtain ⟨q, hqd⟩ : ∃ q, M / 2 ^ (t + c) = q := ⟨_, rfl⟩
    have hdm := Nat.div_add_mod M (2 ^ (t + c))
    have hrm := Nat.mod_lt M hP
    rw [hqd] at hq hdm
    generalize M % 2 ^ (t + c) = rem at *
    have hpc : (2 : Nat) ^ (t + c) = 2 ^ c * 2 ^ t := by rw [Nat.pow_add, Nat.mul_comm]
    have q1 : q < 9007199254740992 := by
      rw [← hqd]
      exact (Nat.div_lt_iff_lt_mul hP).2 hM1
    have q2 : c = 0 ∨ 4503599627370496 ≤ q := by
      rcases hM2 with h | h
      · exact .inl h
      · right
        rw [← hqd]
        exact (Nat.le_div_iff_mul_le hP).2 h
    have g1 := magR_grid (c := c) (q := q) q2 (by omega)
    have g2 := magR_grid (c := c) (q := q + 1) (by omega) (by omega)
    have v1 : magR (c * 4503599627370496 + q) * 2 ^ t = 2 ^ (t + c) * q := by rw [g1, Nat.mul_assoc, ← hpc, Nat.mul_comm]
    have v2 : magR (c * 4503599627370496 + (q + 1)) * 2 ^ t = 2 ^ (t + c) * q + 2 ^ (t + c) := by rw [g2, Nat.mul_assoc, ← hpc, Nat.mul_comm, Nat.mul_succ]
    have hle : ∀ {a b : Nat}, a ≤ b → magR a * 2 ^ t ≤ magR b * 2 ^ t := fun h => Nat.mul_le_mul_right _ (magR_le h)
    have hlt : ∀ {a b : Nat}, a < b → magR a * 2 ^ t < magR b * 2 ^ t := fun h => Nat.mul_lt_mul_of_pos_right (magR_lt h) (Nat.two_pow_pos t)
    refine ⟨c * 4503599627370496 + kept, hnear, fun r => ⟨fun h => ?_, fun h => ?_⟩⟩
    · rcases Nat.lt_or_ge r (c * 4503599627370496 + kept) with hr | hr
      · exfalso
        rcases hq with rfl | ⟨rfl, hne⟩
        · have := hlt hr
          omega
        · have := hle (show r ≤ c * 4503599627370496 + q by omega)
          omega
      · exact hr
    · rcases Nat.lt_or_ge (c * 4503599627370496 + kept) r with hr | hr
      · exfalso
        rcases hq with rfl | ⟨rfl, hne⟩
        · have := hle (show c * 4503599627370496 + (kept + 1) ≤ r by omega)
          omega
        · have := hlt hr
          omega
      · exact hr
end Go.Proofs.YtgjampkdnpdblaaDoor.Pc
