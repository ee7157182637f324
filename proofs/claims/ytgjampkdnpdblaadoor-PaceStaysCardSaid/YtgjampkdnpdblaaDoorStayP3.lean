/- A mean that forgets is never outside of both: the plain law. -/
import Derived.Test.YtgjampkdnpdblaaDoorStayP2
namespace Go.Proofs.YtgjampkdnpdblaaDoor.Pc
open Go Ieee

theorem word_is (neg : Bool) {r : Nat} (h : r < 9218868437227405312) : double.word neg r % 9223372036854775808 = r ∧ sgn (double.word neg r) = neg ∧ double.word neg r < 18446744073709551616 := by
  have e1 : double.signWeight = 9223372036854775808 := by decide
  unfold Format.word sgn
  rw [e1]
  cases neg
  · simp only [Bool.false_eq_true, if_false]
    refine ⟨by omega, ?_, by omega⟩
    rw [show r / 9223372036854775808 = 0 by omega]; rfl
  · simp only [if_true]
    refine ⟨by omega, ?_, by omega⟩
    rw [show (9223372036854775808 + r) / 9223372036854775808 = 1 by omega]; rfl
theorem magR_zero : magR 0 = 0 := rfl
/-- A rounded number that is within the format: it is finite, and stands to each pace as the number does. -/
theorem rnd_val {S : Int} {z : Nat} (h : Rnd S z) {r : Nat} (hr : r < 9218868437227405312) (hS : S.natAbs ≤ magR r) : finF z ∧ z < 18446744073709551616 ∧ ∀ u, (S ≤ val u → val z ≤ val u) ∧ (val u ≤ S → val u ≤ val z) := by
  obtain ⟨neg, R, rfl, hn, h1, h2⟩ := h
  have hR : R ≤ r := (hn r).1 hS
  rw [Nat.min_eq_left (by omega)]
  obtain ⟨w1, w2, w3⟩ := word_is neg (show R < 9218868437227405312 by omega)
  have hv : val (double.word neg R) = sv neg R := by
    unfold val
    rw [w1]
    have : (double.word neg R / 9223372036854775808 % 2 == 1) = neg := w2
    rw [this]
  refine ⟨by unfold finF; rw [w1]; omega, w3, fun u => ?_⟩
  rw [hv]
  obtain ⟨su, hsu⟩ : ∃ s, (u / 9223372036854775808 % 2 == 1) = s := ⟨_, rfl⟩
  have hu : val u = sv su (u % 9223372036854775808) := by unfold val; rw [hsu]
  rw [hu]
  generalize u % 9223372036854775808 = ru
  have n1 := (hn ru).1
  have n2 := (hn ru).2
  have m1 : ∀ {a b : Nat}, a ≤ b → magR a ≤ magR b := magR_le
  rcases Int.lt_trichotomy S 0 with hs | hs | hs
  · rw [h1 hs]
    unfold sv
    cases su <;> simp only [Bool.false_eq_true, if_false, if_true]
    · exact ⟨fun _ => by omega, fun k => by omega⟩
    · refine ⟨fun k => ?_, fun k => ?_⟩
      · have := m1 (n2 (by omega)); omega
      · have := m1 (n1 (by omega)); omega
  · subst hs
    have h0 : R ≤ 0 := (hn 0).1 (by simp)
    have h0' : R = 0 := by omega
    subst h0'
    have e : sv neg 0 = 0 := by unfold sv; rw [magR_zero]; cases neg <;> rfl
    rw [e]
    exact ⟨id, id⟩
  · rw [h2 hs]
    unfold sv
    cases su <;> simp only [Bool.false_eq_true, if_false, if_true]
    · refine ⟨fun k => ?_, fun k => ?_⟩
      · have := m1 (n1 (by omega)); omega
      · have := m1 (n2 (by omega)); omega
    · exact ⟨fun k => by omega, fun _ => by omega⟩
theorem magR_ge (r : Nat) : r ≤ magR r := by
  induction r with
  | zero => exact Nat.zero_le _
  | succ r ih => have := @magR_lt r (r + 1) (by omega); omega
/-- The greatest rung that a number is not below. -/
theorem floorR (M : Nat) : ∃ r, magR r ≤ M ∧ M < magR (r + 1) := by
  suffices h : ∀ n, M < magR n → ∃ r, magR r ≤ M ∧ M < magR (r + 1) from h (M + 1) (by have := magR_ge (M + 1); omega)
  intro n
  induction n with
  | zero => intro h; rw [magR_zero] at h; omega
  | succ n ih =>
    intro h
    by_cases hn : magR n ≤ M
    · exact ⟨n, hn, h⟩
    · exact ih (by omega)
theorem magR_double {r : Nat} (h : 1 ≤ r) : magR (r + 1) ≤ 2 * magR r := by
  unfold magR
  by_cases h1 : r + 1 < 4503599627370496
  · rw [if_pos h1, if_pos (by omega)]; omega
  · rw [if_neg h1]
    by_cases h2 : r < 4503599627370496
    · rw [if_pos h2]
      have : r + 1 = 4503599627370496 := by omega
      rw [this]
      simp
      omega
    · rw [if_neg h2]
      by_cases h3 : r % 4503599627370496 = 4503599627370495
      · have a1 : (r + 1) % 4503599627370496 = 0 := by omega
        have a2 : (r + 1) / 4503599627370496 - 1 = (r / 4503599627370496 - 1) + 1 := by omega
        rw [a1, a2, h3, Nat.pow_succ]
        generalize 2 ^ (r / 4503599627370496 - 1) = p
        omega
      · have a1 : (r + 1) % 4503599627370496 = r % 4503599627370496 + 1 := by omega
        have a2 : (r + 1) / 4503599627370496 - 1 = r / 4503599627370496 - 1 := by omega
        rw [a1, a2]
        rw [← Nat.mul_assoc]
        exact Nat.mul_le_mul_right _ (by omega)
theorem rung_lt {b : Nat} (h : finF b) : b % 9223372036854775808 < 9218868437227405312 := h
theorem val_abs (b : Nat) : (val b).natAbs = magR (b % 9223372036854775808) := by
  unfold val sv
  cases (b / 9223372036854775808 % 2 == 1) <;> simp
/-- Smooth of two finite paces whose difference is finite. -/
theorem smooth_stays {x y d : Nat} (hx : finF x) (hy : finF y) (hd : double.sub y x = some d) (hf : finF d) :
    ∃ z, smoothF x y = z ∧ finF z ∧ z < 18446744073709551616 ∧ (∀ u, (val x ≤ val u ∧ val y ≤ val u → val z ≤ val u) ∧ (val u ≤ val x ∧ val u ≤ val y → val u ≤ val z)) := by
  obtain ⟨d', e1, negd, Rd, hde, hnd, s1, s2⟩ := sub_rnd hy hx
  rw [hd] at e1
  injection e1 with e1
  subst e1
  have hRd : Rd < 9218868437227405312 := by
    rcases Nat.lt_or_ge Rd 9218868437227405312 with h | h
    · exact h
    · exfalso
      rw [Nat.min_eq_right h] at hde
      have e0 : double.signWeight = 9223372036854775808 := by decide
      have : d % 9223372036854775808 = 9218868437227405312 := by
        rw [hde]
        unfold Format.word
        rw [e0]
        cases negd <;> decide
      have := rung_lt hf
      omega
  rw [Nat.min_eq_left (by omega)] at hde
  obtain ⟨w1, w2, w3⟩ := word_is negd hRd
  rw [← hde] at w1 w2 w3
  obtain ⟨e, nege, Re, he, hee, hne, h8⟩ := div_rnd hf
  rw [w1] at h8
  rw [w2] at hne
  subst hne
  have hRe : Re ≤ Rd := (h8 Rd).1 (by omega)
  rw [Nat.min_eq_left (by omega)] at hee
  obtain ⟨x1, x2, x3⟩ := word_is nege (show Re < 9218868437227405312 by omega)
  rw [← hee] at x1 x2 x3
  have hfe : finF e := by unfold finF; rw [x1]; omega
  have hve : val e = sv nege Re := by
    unfold val
    rw [x1]
    have : (e / 9223372036854775808 % 2 == 1) = nege := x2
    rw [this]
  have hmag : magR Re ≤ (val y - val x).natAbs := by
    obtain ⟨r0, f1, f2⟩ := floorR (val y - val x).natAbs
    rcases Nat.eq_zero_or_pos r0 with h0 | h0
    · subst h0
      have hM : (val y - val x).natAbs = 0 := by
        have : magR (0 + 1) = 1 := by decide +kernel
        omega
      have : Rd ≤ 0 := (hnd 0).1 (by omega)
      have : Re = 0 := by omega
      rw [this, magR_zero]; omega
    · have g1 : Rd ≤ r0 + 1 := (hnd (r0 + 1)).1 (by omega)
      have g2 := magR_le g1
      have g3 := magR_double h0
      have g4 : Re ≤ r0 := (h8 r0).1 (by omega)
      have g5 := magR_le g4
      omega
  have hE : (val y - val x ≤ 0 → val y - val x ≤ val e ∧ val e ≤ 0) ∧ (0 ≤ val y - val x → 0 ≤ val e ∧ val e ≤ val y - val x) := by
    rw [hve]
    rcases Int.lt_trichotomy (val y - val x) 0 with h | h | h
    · rw [s1 h]
      unfold sv
      simp only [if_true]
      exact ⟨fun _ => by omega, fun k => by omega⟩
    · rw [h] at hmag
      have h0 : magR Re = 0 := by simpa using hmag
      have : sv nege Re = 0 := by unfold sv; rw [h0]; cases nege <;> rfl
      rw [this, h]
      exact ⟨fun _ => by omega, fun _ => by omega⟩
    · rw [s2 h]
      unfold sv
      simp only [Bool.false_eq_true, if_false]
      exact ⟨fun k => by omega, fun _ => by omega⟩
  obtain ⟨z, hz, hrz⟩ := add_rnd hx hfe
  have hsm : smoothF x y = z := by
    unfold smoothF
    rw [fin_nan hx]
    simp only [Bool.false_eq_true, if_false]
    unfold fadd fdiv fsub
    rw [hd]
    simp only [Option.getD_some]
    rw [he]
    simp only [Option.getD_some]
    rw [hz]; rfl
  have hax := val_abs x
  have hay := val_abs y
  have hrx := rung_lt hx
  have hry := rung_lt hy
  obtain ⟨k1, k2, k3⟩ := rnd_val hrz (r := max (x % 9223372036854775808) (y % 9223372036854775808)) (by omega) (by
    have l1 := magR_le (Nat.le_max_left (x % 9223372036854775808) (y % 9223372036854775808))
    have l2 := magR_le (Nat.le_max_right (x % 9223372036854775808) (y % 9223372036854775808))
    rcases Int.le_total (val y - val x) 0 with h | h
    · have := hE.1 h; omega
    · have := hE.2 h; omega)
  refine ⟨z, hsm, k1, k2, fun u => ⟨fun ⟨p1, p2⟩ => (k3 u).1 ?_, fun ⟨p1, p2⟩ => (k3 u).2 ?_⟩⟩
  · rcases Int.le_total (val y - val x) 0 with h | h
    · have := hE.1 h; omega
    · have := hE.2 h; omega
  · rcases Int.le_total (val y - val x) 0 with h | h
    · have := hE.1 h; omega
    · have := hE.2 h; omega
/-- The difference of a finite pace with itself is finite. -/
theorem sub_self_fin {x : Nat} (hx : finF x) : ∃ d, double.sub x x = some d ∧ finF d := by
  obtain ⟨d, h, hr⟩ := sub_rnd hx hx
  exact ⟨d, h, (rnd_val hr (r := 0) (by decide) (by simp)).1⟩
end Go.Proofs.YtgjampkdnpdblaaDoor.Pc
