/- The walk of ClockGoes, joined. -/
import Derived.Test.YtocibljkmgffeaaClock7a
import Derived.Test.YtocibljkmgffeaaClock7b
namespace Go.Proofs.Ytocibljkmgffeaa
open Go.RowKit Go.Proofs.Ytocibljkmgffeaa.Ck

theorem goes_core (a now n m p d nu de A NOW N M X Y P D NU DE : Int) (pb qb rb sb : Bool) (b1 b2 : Bool) (w : World)
    (hA : timN a = A) (hNOW : timN now = NOW) (hN : timN n = N) (hM : timN m = M) (hP : finP p = P) (hD : finD d = D) (hNU : finN nu de = NU) (hDE : finM de = DE)
    (hX : laterN NOW N = X) (hXe : laterE NOW N = 0) (hY : laterN X M = Y) (hYe : laterE X M = 0) (hZ : laterN NOW (N + M) = Y) (hZe : laterE NOW (N + M) = 0)
    (hc : chkT P D NU DE = 0) (k1 : askT A NOW P D NU DE = 0) (k2 : askT A X P D NU DE = 0)
    (hp : expdB A NOW P D NU DE = pb) (hq : expdB A X P D NU DE = qb) (hr : ahdB A NOW P D NU DE = rb) (hs : ahdB A X P D NU DE = sb)
    (hl : lookT A NOW P D NU DE = if pb then 16 else if rb then 17 else 0)
    (n0 : 0 ≤ NOW) (n1 : NOW ≤ 1099511627776) (N0 : 0 ≤ N) (N1 : N ≤ 1099511627776) (M0 : 0 ≤ M) (M1 : M ≤ 1099511627776) (x0 : NOW ≤ X) (x1 : X ≤ 1099511627776)
    (e1 : (X != NOW + N) = b1) (e2 : (X != 1099511627776) = b2) (hb : (b1 && b2) = false)
    (hpq : (pb && !qb) = false) (hsr : (sb && !rb) = false) (hpr : (pb && rb) = false) :
    Calls Try.prog 11 #[.int .i64 a, .int .i64 now, .int .i64 n, .int .i64 m, .agg #[.int .i64 p, .int .i64 d, .int .i64 nu, .int .i64 de]] w fun e w' => e = .returned (.bool true) ∧ Below w.heap.size w w' := by
  cases b1
  · cases pb <;> cases qb <;> cases sb <;> cases rb
    · exact goes_0_0000 a now n m p d nu de A NOW N M X Y P D NU DE w hA hNOW hN hM hP hD hNU hDE hX hXe hY hYe hZ hZe hc k1 k2 hp hq hr hs hl n0 n1 N0 N1 M0 M1 x0 x1 e1
    · exact goes_0_0001 a now n m p d nu de A NOW N M X Y P D NU DE w hA hNOW hN hM hP hD hNU hDE hX hXe hY hYe hZ hZe hc k1 k2 hp hq hr hs hl n0 n1 N0 N1 M0 M1 x0 x1 e1
    · exact absurd hsr (by decide)
    · exact goes_0_0011 a now n m p d nu de A NOW N M X Y P D NU DE w hA hNOW hN hM hP hD hNU hDE hX hXe hY hYe hZ hZe hc k1 k2 hp hq hr hs hl n0 n1 N0 N1 M0 M1 x0 x1 e1
    · exact goes_0_0100 a now n m p d nu de A NOW N M X Y P D NU DE w hA hNOW hN hM hP hD hNU hDE hX hXe hY hYe hZ hZe hc k1 k2 hp hq hr hs hl n0 n1 N0 N1 M0 M1 x0 x1 e1
    · exact goes_0_0101 a now n m p d nu de A NOW N M X Y P D NU DE w hA hNOW hN hM hP hD hNU hDE hX hXe hY hYe hZ hZe hc k1 k2 hp hq hr hs hl n0 n1 N0 N1 M0 M1 x0 x1 e1
    · exact absurd hsr (by decide)
    · exact goes_0_0111 a now n m p d nu de A NOW N M X Y P D NU DE w hA hNOW hN hM hP hD hNU hDE hX hXe hY hYe hZ hZe hc k1 k2 hp hq hr hs hl n0 n1 N0 N1 M0 M1 x0 x1 e1
    · exact absurd hpq (by decide)
    · exact absurd hpq (by decide)
    · exact absurd hpq (by decide)
    · exact absurd hpq (by decide)
    · exact goes_0_1100 a now n m p d nu de A NOW N M X Y P D NU DE w hA hNOW hN hM hP hD hNU hDE hX hXe hY hYe hZ hZe hc k1 k2 hp hq hr hs hl n0 n1 N0 N1 M0 M1 x0 x1 e1
    · exact absurd hpr (by decide)
    · exact absurd hsr (by decide)
    · exact absurd hpr (by decide)
  · cases b2
    · cases pb <;> cases qb <;> cases sb <;> cases rb
      · exact goes_1_0000 a now n m p d nu de A NOW N M X Y P D NU DE w hA hNOW hN hM hP hD hNU hDE hX hXe hY hYe hZ hZe hc k1 k2 hp hq hr hs hl n0 n1 N0 N1 M0 M1 x0 x1 e1 e2
      · exact goes_1_0001 a now n m p d nu de A NOW N M X Y P D NU DE w hA hNOW hN hM hP hD hNU hDE hX hXe hY hYe hZ hZe hc k1 k2 hp hq hr hs hl n0 n1 N0 N1 M0 M1 x0 x1 e1 e2
      · exact absurd hsr (by decide)
      · exact goes_1_0011 a now n m p d nu de A NOW N M X Y P D NU DE w hA hNOW hN hM hP hD hNU hDE hX hXe hY hYe hZ hZe hc k1 k2 hp hq hr hs hl n0 n1 N0 N1 M0 M1 x0 x1 e1 e2
      · exact goes_1_0100 a now n m p d nu de A NOW N M X Y P D NU DE w hA hNOW hN hM hP hD hNU hDE hX hXe hY hYe hZ hZe hc k1 k2 hp hq hr hs hl n0 n1 N0 N1 M0 M1 x0 x1 e1 e2
      · exact goes_1_0101 a now n m p d nu de A NOW N M X Y P D NU DE w hA hNOW hN hM hP hD hNU hDE hX hXe hY hYe hZ hZe hc k1 k2 hp hq hr hs hl n0 n1 N0 N1 M0 M1 x0 x1 e1 e2
      · exact absurd hsr (by decide)
      · exact goes_1_0111 a now n m p d nu de A NOW N M X Y P D NU DE w hA hNOW hN hM hP hD hNU hDE hX hXe hY hYe hZ hZe hc k1 k2 hp hq hr hs hl n0 n1 N0 N1 M0 M1 x0 x1 e1 e2
      · exact absurd hpq (by decide)
      · exact absurd hpq (by decide)
      · exact absurd hpq (by decide)
      · exact absurd hpq (by decide)
      · exact goes_1_1100 a now n m p d nu de A NOW N M X Y P D NU DE w hA hNOW hN hM hP hD hNU hDE hX hXe hY hYe hZ hZe hc k1 k2 hp hq hr hs hl n0 n1 N0 N1 M0 M1 x0 x1 e1 e2
      · exact absurd hpr (by decide)
      · exact absurd hsr (by decide)
      · exact absurd hpr (by decide)
    · exact absurd hb (by decide)

theorem laterN_in {a n : Int} (h1 : 0 ≤ a) (h2 : a ≤ 1099511627776) (h3 : 0 ≤ n) : laterN a n = a + min n (1099511627776 - a) := by
  have : timeB a = true := fineB_iff.2 ⟨h1, h2⟩
  simp [laterN, this, h3]
theorem laterE_in {a n : Int} (h1 : 0 ≤ a) (h2 : a ≤ 1099511627776) (h3 : 0 ≤ n) : laterE a n = 0 := by
  have : timeB a = true := fineB_iff.2 ⟨h1, h2⟩
  simp [laterE, this, h3]

theorem ClockGoes_walk (a now n m p d nu de : Int) (w : World) :
    Calls Try.prog 11 #[.int .i64 a, .int .i64 now, .int .i64 n, .int .i64 m, .agg #[.int .i64 p, .int .i64 d, .int .i64 nu, .int .i64 de]] w fun e w' => e = .returned (.bool true) ∧ Below w.heap.size w w' := by
  obtain ⟨A0, A1⟩ := timN_bd a
  obtain ⟨W0, W1⟩ := timN_bd now
  obtain ⟨N0, N1⟩ := timN_bd n
  obtain ⟨M0, M1⟩ := timN_bd m
  have hc := fin_chk p d nu de
  obtain ⟨P1, P2, D1, D2, _⟩ := chk_bounds hc
  have hX := laterN_in W0 W1 N0
  have hx0 : timN now ≤ laterN (timN now) (timN n) := by rw [hX]; omega
  have hx1 : laterN (timN now) (timN n) ≤ 1099511627776 := by rw [hX]; omega
  have hY := laterN_in (Int.le_trans W0 hx0) hx1 M0
  have hZ := laterN_in W0 W1 (show 0 ≤ timN n + timN m by omega)
  have k1 := ask_ok hc A0 A1 W0 W1
  have k2 := ask_ok hc A0 A1 (Int.le_trans W0 hx0) hx1
  refine goes_core a now n m p d nu de _ _ _ _ _ (laterN (laterN (timN now) (timN n)) (timN m)) _ _ _ _ _ _ _ _ _ _ w rfl rfl rfl rfl rfl rfl rfl rfl rfl
    (laterE_in W0 W1 N0) rfl (laterE_in (Int.le_trans W0 hx0) hx1 M0) ?_ (laterE_in W0 W1 (by omega)) hc k1 k2 rfl rfl rfl rfl ?_ W0 W1 N0 N1 M0 M1 hx0 hx1 rfl rfl ?_ ?_ ?_ ?_
  · rw [hZ, hY, hX]; omega
  · simp [lookT, k1, expdB, ahdB]
  · rw [hX]
    by_cases h : timN n ≤ 1099511627776 - timN now
    · rw [Int.min_eq_left h]; simp
    · rw [Int.min_eq_right (by omega)]
      have : timN now + (1099511627776 - timN now) = 1099511627776 := by omega
      rw [this]; simp
  · simp only [expdB, k1, k2, decide_true, Bool.true_and, Bool.and_eq_false_iff, Bool.not_eq_false', expB, decide_eq_true_eq, decide_eq_false_iff_not]
    omega
  · simp only [ahdB, k1, k2, decide_true, Bool.true_and, Bool.and_eq_false_iff, Bool.not_eq_false', aheadB, decide_eq_true_eq, decide_eq_false_iff_not]
    omega
  · simp only [expdB, ahdB, k1, decide_true, Bool.true_and, Bool.and_eq_false_iff, expB, aheadB, decide_eq_true_eq, decide_eq_false_iff_not]
    omega
end Go.Proofs.Ytocibljkmgffeaa
