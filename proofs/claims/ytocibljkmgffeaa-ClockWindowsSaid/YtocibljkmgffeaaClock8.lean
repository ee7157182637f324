/- The walk of ClockWindows, joined. -/
import Derived.Test.YtocibljkmgffeaaClock8a
import Derived.Test.YtocibljkmgffeaaClock8b
namespace Go.Proofs.Ytocibljkmgffeaa
open Go.RowKit Go.Proofs.Ytocibljkmgffeaa.Ck

theorem ClockWindows_walk (a b now p d nu de : Int) (w : World) :
    Calls Try.prog 12 #[.int .i64 a, .int .i64 b, .int .i64 now, .agg #[.int .i64 p, .int .i64 d, .int .i64 nu, .int .i64 de]] w fun e w' => e = .returned (.bool true) ∧ Below w.heap.size w w' := by
  obtain ⟨A0, A1⟩ := timN_bd a
  obtain ⟨B0, B1⟩ := timN_bd b
  obtain ⟨W0, W1⟩ := timN_bd now
  have hc := fin_chk p d nu de
  obtain ⟨P1, P2, D1, D2, _⟩ := chk_bounds hc
  have hk := ask_ok hc A0 A1 B0 B1
  obtain ⟨f1, f2⟩ := first_bd (d := finD d) B0 B1
  obtain ⟨l1, l2⟩ := last_bd A0 P1
  have hI := fun x h0 h1 => @ins_eq (timN a) (timN b) x (finP p) (finD d) (finN nu de) (finM de) hc A0 A1 B0 B1 h0 h1
  by_cases hle : firstN (timN b) (finD d) ≤ lastN (timN a) (finP p)
  · have e1 : winE (timN a) (timN b) (finP p) (finD d) (finN nu de) (finM de) = 0 := by simp [winE, hk, hle]
    have e2 : winF (timN a) (timN b) (finP p) (finD d) (finN nu de) (finM de) = firstN (timN b) (finD d) := by simp [winF, e1]
    have e3 : winL (timN a) (timN b) (finP p) (finD d) (finN nu de) (finM de) = lastN (timN a) (finP p) := by simp [winL, e1]
    have iF := hI (firstN (timN b) (finD d)) f1 f2
    have iL := hI (lastN (timN a) (finP p)) l1 l2
    have iN := hI (timN now) W0 W1
    have iF' := hI (firstN (timN b) (finD d) - 1)
    have iL' := hI (lastN (timN a) (finP p) + 1)
    generalize firstN (timN b) (finD d) = F at *
    generalize lastN (timN a) (finP p) = L at *
    have jF : insB (timN a) (timN b) F (finP p) (finD d) (finN nu de) (finM de) = true := by rw [iF]; simp; omega
    have jL : insB (timN a) (timN b) L (finP p) (finD d) (finN nu de) (finM de) = true := by rw [iL]; simp; omega
    have jF' : 0 < F → insB (timN a) (timN b) (F - 1) (finP p) (finD d) (finN nu de) (finM de) = false := fun h => by rw [iF' (by omega) (by omega)]; simp; omega
    have jL' : L < 1099511627776 → insB (timN a) (timN b) (L + 1) (finP p) (finD d) (finN nu de) (finM de) = false := fun h => by rw [iL' (by omega) (by omega)]; simp; omega
    have c1 : timN now < F → insB (timN a) (timN b) (timN now) (finP p) (finD d) (finN nu de) (finM de) = false := fun h => by rw [iN]; simp; omega
    have c2 : F ≤ timN now → timN now ≤ L → insB (timN a) (timN b) (timN now) (finP p) (finD d) (finN nu de) (finM de) = true := fun h k => by rw [iN]; simp [h, k]
    have c3 : L < timN now → insB (timN a) (timN b) (timN now) (finP p) (finD d) (finN nu de) (finM de) = false := fun h => by rw [iN]; simp; omega
    clear iF iL iN iF' iL' hI hc hk
    by_cases g1 : F = 0
    · subst g1
      by_cases g2 : L = 1099511627776
      · subst g2
        exact win_a a b now p d nu de _ _ _ _ _ _ _ w rfl rfl rfl rfl rfl rfl rfl e2 e3 e1 jF jL (c2 W0 W1) W0 W1
      · have g3 : L < 1099511627776 := by omega
        by_cases g4 : timN now ≤ L
        · exact win_b a b now p d nu de _ _ _ _ _ _ _ w rfl rfl rfl rfl rfl rfl rfl L e2 e3 e1 jF jL (c2 W0 g4) (jL' g3) g3 hle W0 g4
        · exact win_c a b now p d nu de _ _ _ _ _ _ _ w rfl rfl rfl rfl rfl rfl rfl L e2 e3 e1 jF jL (c3 (by omega)) (jL' g3) g3 hle (by omega) W0
    · have g0 : 0 < F := by omega
      by_cases g2 : L = 1099511627776
      · subst g2
        by_cases g4 : F ≤ timN now
        · exact win_d a b now p d nu de _ _ _ _ _ _ _ w rfl rfl rfl rfl rfl rfl rfl F e2 e3 e1 jF jL (c2 g4 W1) (jF' g0) g0 hle g4 W1
        · exact win_e a b now p d nu de _ _ _ _ _ _ _ w rfl rfl rfl rfl rfl rfl rfl F e2 e3 e1 jF jL (c1 (by omega)) (jF' g0) g0 hle (by omega)
      · have g3 : L < 1099511627776 := by omega
        by_cases g4 : F ≤ timN now
        · by_cases g5 : timN now ≤ L
          · exact win_f a b now p d nu de _ _ _ _ _ _ _ w rfl rfl rfl rfl rfl rfl rfl F L e2 e3 e1 jF jL (c2 g4 g5) (jF' g0) g0 (jL' g3) g3 hle g4 g5
          · exact win_h a b now p d nu de _ _ _ _ _ _ _ w rfl rfl rfl rfl rfl rfl rfl F L e2 e3 e1 jF jL (c3 (by omega)) (jF' g0) g0 (jL' g3) g3 hle (by omega) g4
        · exact win_g a b now p d nu de _ _ _ _ _ _ _ w rfl rfl rfl rfl rfl rfl rfl F L e2 e3 e1 jF jL (c1 (by omega)) (jF' g0) g0 (jL' g3) g3 hle (by omega)
  · have e1 : winE (timN a) (timN b) (finP p) (finD d) (finN nu de) (finM de) = 16 := by simp [winE, hk, hle]
    have e2 : winF (timN a) (timN b) (finP p) (finD d) (finN nu de) (finM de) = 0 := by simp [winF, e1]
    have e3 : winL (timN a) (timN b) (finP p) (finD d) (finN nu de) (finM de) = 0 := by simp [winL, e1]
    have iN := hI (timN now) W0 W1
    refine win_none a b now p d nu de _ _ _ _ _ _ _ w rfl rfl rfl rfl rfl rfl rfl e2 e3 e1 ?_
    rw [iN]
    simp
    omega
end Go.Proofs.Ytocibljkmgffeaa
