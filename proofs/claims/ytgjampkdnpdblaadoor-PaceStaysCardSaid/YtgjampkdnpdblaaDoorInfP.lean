/- Plain facts on infinite paces and on ticks as paces. -/
import Derived.Test.YtgjampkdnpdblaaDoorKeyF
import Derived.Laws.Cover2
namespace Go.Proofs.YtgjampkdnpdblaaDoor.Pc
open Go Ieee

/-- Is a pace finite? -/
def finF (b : Nat) : Prop := b % 9223372036854775808 < 9218868437227405312
theorem fin_read {b : Nat} (h : finF b) : ∃ s m i, double.read b = .number s m i := by
  obtain ⟨m, k, e, _⟩ := read_fin h
  exact ⟨_, _, _, e⟩
theorem fin_nan {b : Nat} (h : finF b) : nanB b = false := by
  obtain ⟨s, m, i, e⟩ := fin_read h
  rw [nanB_read, e]
  rfl
theorem inf_read : double.read 9218868437227405312 = .infinity false := by decide +kernel
theorem minf_read : double.read 18442240474082181120 = .infinity true := by decide +kernel
theorem eight_read : ∃ m i, double.read 4620693217682128896 = .number false m i ∧ m ≠ 0 := ⟨_, _, rfl, by decide +kernel⟩
/-- Behind a bad answer a finite pace is infinite. -/
theorem smooth_inf {p : Nat} (h : finF p) : smoothF p 9218868437227405312 = 9218868437227405312 := by
  obtain ⟨s, m, i, e⟩ := fin_read h
  have h1 : fsub 9218868437227405312 p = 9218868437227405312 := by
    unfold fsub Format.sub
    rw [inf_read, e]
    rfl
  have h2 : fdiv 9218868437227405312 4620693217682128896 = 9218868437227405312 := by decide +kernel
  have h3 : fadd p 9218868437227405312 = 9218868437227405312 := by
    unfold fadd Format.add
    rw [inf_read, e]
    rfl
  unfold smoothF
  rw [fin_nan h, if_neg (by decide), h1, h2, h3]
/-- Behind a good answer then it is NaN. -/
theorem smooth_mid {t : Nat} (h : finF t) : smoothF 9218868437227405312 t = theNaN := by
  obtain ⟨s, m, i, e⟩ := fin_read h
  have h1 : fsub t 9218868437227405312 = 18442240474082181120 := by
    unfold fsub Format.sub
    rw [inf_read, e]
    rfl
  have h2 : fdiv 18442240474082181120 4620693217682128896 = 18442240474082181120 := by decide +kernel
  have h3 : fadd 9218868437227405312 18442240474082181120 = theNaN := by decide +kernel
  unfold smoothF
  rw [show nanB 9218868437227405312 = false by decide +kernel, if_neg (by decide), h1, h2, h3]

theorem p53 : (2 : Nat) ^ 53 = 9007199254740992 := by decide
theorem fin_small (L q : Nat) (hL : L ≤ 40) (hq : q < 9007199254740992) : double.word false (min ((L + 1022) * 4503599627370496 + q) 9218868437227405312) % 9223372036854775808 < 9218868437227405312 := by
  unfold Format.word
  rw [if_neg (by decide)]
  omega
theorem tick_fin {n : Int} (h0 : 0 ≤ n) (h1 : n ≤ 1099511627776) : finF (floatOfInt .f64 n) := by
  have e : floatOfInt .f64 n = double.nearest (decide (n < 0)) n.natAbs 0 := rfl
  rw [e, show decide (n < 0) = false from decide_eq_false (by omega)]
  obtain ⟨k, rfl⟩ := Int.eq_ofNat_of_zero_le h0
  rw [Int.natAbs_natCast]
  unfold finF Format.nearest
  by_cases hk : k = 0
  · subst hk; decide +kernel
  · rw [if_neg hk]
    have hl : k.log2 ≤ 40 := by
      have : k.log2 < 41 := (Nat.log2_lt hk).2 (by omega)
      omega
    have hlt : k < 2 ^ (k.log2 + 1) := Nat.lt_log2_self
    have el : double.leastPlace = -1074 := by decide
    have eb : double.binade = 4503599627370496 := by decide
    have ei : double.infRung = 9218868437227405312 := by decide
    have ef : (double.fractionBits : Int) = 52 := rfl
    have elast : max ((0 : Int) + (k.log2 : Int) - (double.fractionBits : Int)) double.leastPlace = (k.log2 : Int) - 52 := by rw [el, ef]; omega
    simp only [elast]
    simp only [eb, ei, el]
    have e1 : ((k.log2 : Int) - 52 - 0).toNat = 0 := by omega
    have e2 : ((0 : Int) - ((k.log2 : Int) - 52)).toNat = 52 - k.log2 := by omega
    have e3 : ((k.log2 : Int) - 52 - -1074).toNat = k.log2 + 1022 := by omega
    rw [e1, e2, e3]
    have hcut : Toward.even.cut false (k <<< (52 - k.log2)) 0 = k <<< (52 - k.log2) := by
      unfold Toward.cut
      simp [Nat.mod_one]
    rw [hcut]
    have hb : k <<< (52 - k.log2) < 9007199254740992 := by
      rw [Nat.shiftLeft_eq]
      have : k * 2 ^ (52 - k.log2) < 2 ^ (k.log2 + 1) * 2 ^ (52 - k.log2) := Nat.mul_lt_mul_of_pos_right hlt (Nat.two_pow_pos _)
      rw [← Nat.pow_add, show k.log2 + 1 + (52 - k.log2) = 53 by omega, p53] at this
      exact this
    exact fin_small _ _ hl hb
end Go.Proofs.YtgjampkdnpdblaaDoor.Pc
