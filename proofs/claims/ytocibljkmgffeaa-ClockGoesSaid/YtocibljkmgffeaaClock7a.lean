/- The walk of ClockGoes. -/
import Derived.Test.YtocibljkmgffeaaClock6
namespace Go.Proofs.Ytocibljkmgffeaa
open Go.RowKit Go.Proofs.Ytocibljkmgffeaa.Ck BigFrame
attribute [local go_sem] cell_alloc_some frozen_alloc_some

set_option maxRecDepth 100000 in
set_option maxHeartbeats 1000000 in
theorem goes_0_1100 (a now n m p d nu de A NOW N M X Y P D NU DE : Int) (w : World)
    (hA : timN a = A) (hNOW : timN now = NOW) (hN : timN n = N) (hM : timN m = M) (hP : finP p = P) (hD : finD d = D) (hNU : finN nu de = NU) (hDE : finM de = DE)
    (hX : laterN NOW N = X) (hXe : laterE NOW N = 0) (hY : laterN X M = Y) (hYe : laterE X M = 0) (hZ : laterN NOW (N + M) = Y) (hZe : laterE NOW (N + M) = 0)
    (hc : chkT P D NU DE = 0) (k1 : askT A NOW P D NU DE = 0) (k2 : askT A X P D NU DE = 0)
    (hp : expdB A NOW P D NU DE = true) (hq : expdB A X P D NU DE = true) (hr : ahdB A NOW P D NU DE = false) (hs : ahdB A X P D NU DE = false)
    (hl : lookT A NOW P D NU DE = if true then 16 else if false then 17 else 0)
    (n0 : 0 ≤ NOW) (n1 : NOW ≤ 1099511627776) (N0 : 0 ≤ N) (N1 : N ≤ 1099511627776) (M0 : 0 ≤ M) (M1 : M ≤ 1099511627776) (x0 : NOW ≤ X) (x1 : X ≤ 1099511627776)
    (e1 : (X != NOW + N) = false)
:
    Calls Try.prog 11 #[.int .i64 a, .int .i64 now, .int .i64 n, .int .i64 m, .agg #[.int .i64 p, .int .i64 d, .int .i64 nu, .int .i64 de]] w fun e w' => e = .returned (.bool true) ∧ Below w.heap.size w w' := by
  have T1 := fun W => time_t a A hA W
  have T2 := fun W => time_t now NOW hNOW W
  have T3 := fun W => time_t n N hN W
  have T4 := fun W => time_t m M hM W
  have F1 := fun W => fine_t p d nu de P D NU DE hP hD hNU hDE W
  have L1 := fun W => Later_t NOW N X 0 hX hXe W
  have L2 := fun W => Later_t X M Y 0 hY hYe W
  have L3 := fun W => Later_t NOW (N + M) Y 0 hZ hZe W
  have E1 := fun W => Expired_t A NOW P D NU DE true hp k1 W
  have E2 := fun W => Expired_t A X P D NU DE true hq k2 W
  have A1 := fun W => Ahead_t A NOW P D NU DE false hr k1 W
  have A2 := fun W => Ahead_t A X P D NU DE false hs k2 W
  have C1 := fun W => check_t P D NU DE 0 hc W
  have K1 := fun W => look_t A NOW P D NU DE _ hl W
  have HT1 := Lib.hid T1
  have HT2 := Lib.hid T2
  have HT3 := Lib.hid T3
  have HT4 := Lib.hid T4
  have HF1 := Lib.hid F1
  have HL1 := Lib.hid L1
  have HL2 := Lib.hid L2
  have HL3 := Lib.hid L3
  have HE1 := Lib.hid E1
  have HE2 := Lib.hid E2
  have HA1 := Lib.hid A1
  have HA2 := Lib.hid A2
  have HC1 := Lib.hid C1
  have HK1 := Lib.hid K1
  clear T1 T2 T3 T4 F1 L1 L2 L3 E1 E2 A1 A2 C1 K1 hA hNOW hN hM hP hD hNU hDE hX hXe hY hYe hZ hZe hc k1 k2 hp hq hr hs hl
  go_enter Try.func11, Try.ntmps11
  go_wp2_with (first | (go_at_call 10; (with_reducible refine (Known_any _).mono ?_); rintro e w1 ⟨rfl, hb1⟩; have hz1 := hb1.size; have B0 : w1.heap[w.heap.size]? = some _ := kb_below hb1 (by (repeat (with_reducible (first | assumption | (apply kb_new; (focus (simp; done))) | apply kb_alloc | apply kb_drew | apply kb_drewN | apply kb_set | (apply kb_far; (focus (first | (simp; done) | (simp; omega)))))))); have c0 := kb_cell B0; have z0 := kb_frozen B0) | (go_at_call 49; (with_reducible refine (HF1.out _).mono ?_); rintro e w1 ⟨rfl, hb1⟩; have hz1 := hb1.size; have B0 : w1.heap[w.heap.size]? = some _ := kb_below hb1 (by (repeat (with_reducible (first | assumption | (apply kb_new; (focus (simp; done))) | apply kb_alloc | apply kb_drew | apply kb_drewN | apply kb_set | (apply kb_far; (focus (first | (simp; done) | (simp; omega)))))))); have c0 := kb_cell B0; have z0 := kb_frozen B0) | (go_at_call 50; (with_reducible refine (HT1.out _).mono ?_); rintro e w1 ⟨rfl, rfl⟩) | (go_at_call 50; (with_reducible refine (HT2.out _).mono ?_); rintro e w1 ⟨rfl, rfl⟩) | (go_at_call 50; (with_reducible refine (HT3.out _).mono ?_); rintro e w1 ⟨rfl, rfl⟩) | (go_at_call 50; (with_reducible refine (HT4.out _).mono ?_); rintro e w1 ⟨rfl, rfl⟩) | (go_at_call 20; (with_reducible refine (HL1.out _).mono ?_); rintro e w1 ⟨rfl, hb1⟩; have hz1 := hb1.size; have B0 : w1.heap[w.heap.size]? = some _ := kb_below hb1 (by (repeat (with_reducible (first | assumption | (apply kb_new; (focus (simp; done))) | apply kb_alloc | apply kb_drew | apply kb_drewN | apply kb_set | (apply kb_far; (focus (first | (simp; done) | (simp; omega)))))))); have c0 := kb_cell B0; have z0 := kb_frozen B0) | (go_at_call 20; (with_reducible refine (HL2.out _).mono ?_); rintro e w1 ⟨rfl, hb1⟩; have hz1 := hb1.size; have B0 : w1.heap[w.heap.size]? = some _ := kb_below hb1 (by (repeat (with_reducible (first | assumption | (apply kb_new; (focus (simp; done))) | apply kb_alloc | apply kb_drew | apply kb_drewN | apply kb_set | (apply kb_far; (focus (first | (simp; done) | (simp; omega)))))))); have c0 := kb_cell B0; have z0 := kb_frozen B0) | (go_at_call 20; (with_reducible refine (HL3.out _).mono ?_); rintro e w1 ⟨rfl, hb1⟩; have hz1 := hb1.size; have B0 : w1.heap[w.heap.size]? = some _ := kb_below hb1 (by (repeat (with_reducible (first | assumption | (apply kb_new; (focus (simp; done))) | apply kb_alloc | apply kb_drew | apply kb_drewN | apply kb_set | (apply kb_far; (focus (first | (simp; done) | (simp; omega)))))))); have c0 := kb_cell B0; have z0 := kb_frozen B0) | (go_at_call 41; (with_reducible refine (HC1.out _).mono ?_); rintro e w1 ⟨rfl, hb1⟩; have hz1 := hb1.size; have B0 : w1.heap[w.heap.size]? = some _ := kb_below hb1 (by (repeat (with_reducible (first | assumption | (apply kb_new; (focus (simp; done))) | apply kb_alloc | apply kb_drew | apply kb_drewN | apply kb_set | (apply kb_far; (focus (first | (simp; done) | (simp; omega)))))))); have c0 := kb_cell B0; have z0 := kb_frozen B0) | (go_at_call 35; (with_reducible refine (HE1.out _).mono ?_); rintro e w1 ⟨rfl, hb1⟩; have hz1 := hb1.size; have B0 : w1.heap[w.heap.size]? = some _ := kb_below hb1 (by (repeat (with_reducible (first | assumption | (apply kb_new; (focus (simp; done))) | apply kb_alloc | apply kb_drew | apply kb_drewN | apply kb_set | (apply kb_far; (focus (first | (simp; done) | (simp; omega)))))))); have c0 := kb_cell B0; have z0 := kb_frozen B0) | (go_at_call 35; (with_reducible refine (HE2.out _).mono ?_); rintro e w1 ⟨rfl, hb1⟩; have hz1 := hb1.size; have B0 : w1.heap[w.heap.size]? = some _ := kb_below hb1 (by (repeat (with_reducible (first | assumption | (apply kb_new; (focus (simp; done))) | apply kb_alloc | apply kb_drew | apply kb_drewN | apply kb_set | (apply kb_far; (focus (first | (simp; done) | (simp; omega)))))))); have c0 := kb_cell B0; have z0 := kb_frozen B0) | (go_at_call 37; (with_reducible refine (HA1.out _).mono ?_); rintro e w1 ⟨rfl, hb1⟩; have hz1 := hb1.size; have B0 : w1.heap[w.heap.size]? = some _ := kb_below hb1 (by (repeat (with_reducible (first | assumption | (apply kb_new; (focus (simp; done))) | apply kb_alloc | apply kb_drew | apply kb_drewN | apply kb_set | (apply kb_far; (focus (first | (simp; done) | (simp; omega)))))))); have c0 := kb_cell B0; have z0 := kb_frozen B0) | (go_at_call 37; (with_reducible refine (HA2.out _).mono ?_); rintro e w1 ⟨rfl, hb1⟩; have hz1 := hb1.size; have B0 : w1.heap[w.heap.size]? = some _ := kb_below hb1 (by (repeat (with_reducible (first | assumption | (apply kb_new; (focus (simp; done))) | apply kb_alloc | apply kb_drew | apply kb_drewN | apply kb_set | (apply kb_far; (focus (first | (simp; done) | (simp; omega)))))))); have c0 := kb_cell B0; have z0 := kb_frozen B0) | (go_at_call 39; (with_reducible refine (HK1.out _).mono ?_); rintro e w1 ⟨rfl, hb1⟩; have hz1 := hb1.size; have B0 : w1.heap[w.heap.size]? = some _ := kb_below hb1 (by (repeat (with_reducible (first | assumption | (apply kb_new; (focus (simp; done))) | apply kb_alloc | apply kb_drew | apply kb_drewN | apply kb_set | (apply kb_far; (focus (first | (simp; done) | (simp; omega)))))))); have c0 := kb_cell B0; have z0 := kb_frozen B0))
  go_ret
  exact ⟨rfl, by (repeat (with_reducible (first | exact Below.refl _ _ | assumption | refine bl_alloc ?_ _ | refine bl_drew ?_ | refine bl_drewN ?_ _ | (refine bl_set ?_ ?_ _; (focus (first | (simp; done) | (simp; omega) | omega))) | refine bl_then ?_ (by assumption))))⟩

set_option maxRecDepth 100000 in
set_option maxHeartbeats 1000000 in
theorem goes_0_0000 (a now n m p d nu de A NOW N M X Y P D NU DE : Int) (w : World)
    (hA : timN a = A) (hNOW : timN now = NOW) (hN : timN n = N) (hM : timN m = M) (hP : finP p = P) (hD : finD d = D) (hNU : finN nu de = NU) (hDE : finM de = DE)
    (hX : laterN NOW N = X) (hXe : laterE NOW N = 0) (hY : laterN X M = Y) (hYe : laterE X M = 0) (hZ : laterN NOW (N + M) = Y) (hZe : laterE NOW (N + M) = 0)
    (hc : chkT P D NU DE = 0) (k1 : askT A NOW P D NU DE = 0) (k2 : askT A X P D NU DE = 0)
    (hp : expdB A NOW P D NU DE = false) (hq : expdB A X P D NU DE = false) (hr : ahdB A NOW P D NU DE = false) (hs : ahdB A X P D NU DE = false)
    (hl : lookT A NOW P D NU DE = if false then 16 else if false then 17 else 0)
    (n0 : 0 ≤ NOW) (n1 : NOW ≤ 1099511627776) (N0 : 0 ≤ N) (N1 : N ≤ 1099511627776) (M0 : 0 ≤ M) (M1 : M ≤ 1099511627776) (x0 : NOW ≤ X) (x1 : X ≤ 1099511627776)
    (e1 : (X != NOW + N) = false)
:
    Calls Try.prog 11 #[.int .i64 a, .int .i64 now, .int .i64 n, .int .i64 m, .agg #[.int .i64 p, .int .i64 d, .int .i64 nu, .int .i64 de]] w fun e w' => e = .returned (.bool true) ∧ Below w.heap.size w w' := by
  have T1 := fun W => time_t a A hA W
  have T2 := fun W => time_t now NOW hNOW W
  have T3 := fun W => time_t n N hN W
  have T4 := fun W => time_t m M hM W
  have F1 := fun W => fine_t p d nu de P D NU DE hP hD hNU hDE W
  have L1 := fun W => Later_t NOW N X 0 hX hXe W
  have L2 := fun W => Later_t X M Y 0 hY hYe W
  have L3 := fun W => Later_t NOW (N + M) Y 0 hZ hZe W
  have E1 := fun W => Expired_t A NOW P D NU DE false hp k1 W
  have E2 := fun W => Expired_t A X P D NU DE false hq k2 W
  have A1 := fun W => Ahead_t A NOW P D NU DE false hr k1 W
  have A2 := fun W => Ahead_t A X P D NU DE false hs k2 W
  have C1 := fun W => check_t P D NU DE 0 hc W
  have K1 := fun W => look_t A NOW P D NU DE _ hl W
  have HT1 := Lib.hid T1
  have HT2 := Lib.hid T2
  have HT3 := Lib.hid T3
  have HT4 := Lib.hid T4
  have HF1 := Lib.hid F1
  have HL1 := Lib.hid L1
  have HL2 := Lib.hid L2
  have HL3 := Lib.hid L3
  have HE1 := Lib.hid E1
  have HE2 := Lib.hid E2
  have HA1 := Lib.hid A1
  have HA2 := Lib.hid A2
  have HC1 := Lib.hid C1
  have HK1 := Lib.hid K1
  clear T1 T2 T3 T4 F1 L1 L2 L3 E1 E2 A1 A2 C1 K1 hA hNOW hN hM hP hD hNU hDE hX hXe hY hYe hZ hZe hc k1 k2 hp hq hr hs hl
  go_enter Try.func11, Try.ntmps11
  go_wp2_with (first | (go_at_call 10; (with_reducible refine (Known_any _).mono ?_); rintro e w1 ⟨rfl, hb1⟩; have hz1 := hb1.size; have B0 : w1.heap[w.heap.size]? = some _ := kb_below hb1 (by (repeat (with_reducible (first | assumption | (apply kb_new; (focus (simp; done))) | apply kb_alloc | apply kb_drew | apply kb_drewN | apply kb_set | (apply kb_far; (focus (first | (simp; done) | (simp; omega)))))))); have c0 := kb_cell B0; have z0 := kb_frozen B0) | (go_at_call 49; (with_reducible refine (HF1.out _).mono ?_); rintro e w1 ⟨rfl, hb1⟩; have hz1 := hb1.size; have B0 : w1.heap[w.heap.size]? = some _ := kb_below hb1 (by (repeat (with_reducible (first | assumption | (apply kb_new; (focus (simp; done))) | apply kb_alloc | apply kb_drew | apply kb_drewN | apply kb_set | (apply kb_far; (focus (first | (simp; done) | (simp; omega)))))))); have c0 := kb_cell B0; have z0 := kb_frozen B0) | (go_at_call 50; (with_reducible refine (HT1.out _).mono ?_); rintro e w1 ⟨rfl, rfl⟩) | (go_at_call 50; (with_reducible refine (HT2.out _).mono ?_); rintro e w1 ⟨rfl, rfl⟩) | (go_at_call 50; (with_reducible refine (HT3.out _).mono ?_); rintro e w1 ⟨rfl, rfl⟩) | (go_at_call 50; (with_reducible refine (HT4.out _).mono ?_); rintro e w1 ⟨rfl, rfl⟩) | (go_at_call 20; (with_reducible refine (HL1.out _).mono ?_); rintro e w1 ⟨rfl, hb1⟩; have hz1 := hb1.size; have B0 : w1.heap[w.heap.size]? = some _ := kb_below hb1 (by (repeat (with_reducible (first | assumption | (apply kb_new; (focus (simp; done))) | apply kb_alloc | apply kb_drew | apply kb_drewN | apply kb_set | (apply kb_far; (focus (first | (simp; done) | (simp; omega)))))))); have c0 := kb_cell B0; have z0 := kb_frozen B0) | (go_at_call 20; (with_reducible refine (HL2.out _).mono ?_); rintro e w1 ⟨rfl, hb1⟩; have hz1 := hb1.size; have B0 : w1.heap[w.heap.size]? = some _ := kb_below hb1 (by (repeat (with_reducible (first | assumption | (apply kb_new; (focus (simp; done))) | apply kb_alloc | apply kb_drew | apply kb_drewN | apply kb_set | (apply kb_far; (focus (first | (simp; done) | (simp; omega)))))))); have c0 := kb_cell B0; have z0 := kb_frozen B0) | (go_at_call 20; (with_reducible refine (HL3.out _).mono ?_); rintro e w1 ⟨rfl, hb1⟩; have hz1 := hb1.size; have B0 : w1.heap[w.heap.size]? = some _ := kb_below hb1 (by (repeat (with_reducible (first | assumption | (apply kb_new; (focus (simp; done))) | apply kb_alloc | apply kb_drew | apply kb_drewN | apply kb_set | (apply kb_far; (focus (first | (simp; done) | (simp; omega)))))))); have c0 := kb_cell B0; have z0 := kb_frozen B0) | (go_at_call 41; (with_reducible refine (HC1.out _).mono ?_); rintro e w1 ⟨rfl, hb1⟩; have hz1 := hb1.size; have B0 : w1.heap[w.heap.size]? = some _ := kb_below hb1 (by (repeat (with_reducible (first | assumption | (apply kb_new; (focus (simp; done))) | apply kb_alloc | apply kb_drew | apply kb_drewN | apply kb_set | (apply kb_far; (focus (first | (simp; done) | (simp; omega)))))))); have c0 := kb_cell B0; have z0 := kb_frozen B0) | (go_at_call 35; (with_reducible refine (HE1.out _).mono ?_); rintro e w1 ⟨rfl, hb1⟩; have hz1 := hb1.size; have B0 : w1.heap[w.heap.size]? = some _ := kb_below hb1 (by (repeat (with_reducible (first | assumption | (apply kb_new; (focus (simp; done))) | apply kb_alloc | apply kb_drew | apply kb_drewN | apply kb_set | (apply kb_far; (focus (first | (simp; done) | (simp; omega)))))))); have c0 := kb_cell B0; have z0 := kb_frozen B0) | (go_at_call 35; (with_reducible refine (HE2.out _).mono ?_); rintro e w1 ⟨rfl, hb1⟩; have hz1 := hb1.size; have B0 : w1.heap[w.heap.size]? = some _ := kb_below hb1 (by (repeat (with_reducible (first | assumption | (apply kb_new; (focus (simp; done))) | apply kb_alloc | apply kb_drew | apply kb_drewN | apply kb_set | (apply kb_far; (focus (first | (simp; done) | (simp; omega)))))))); have c0 := kb_cell B0; have z0 := kb_frozen B0) | (go_at_call 37; (with_reducible refine (HA1.out _).mono ?_); rintro e w1 ⟨rfl, hb1⟩; have hz1 := hb1.size; have B0 : w1.heap[w.heap.size]? = some _ := kb_below hb1 (by (repeat (with_reducible (first | assumption | (apply kb_new; (focus (simp; done))) | apply kb_alloc | apply kb_drew | apply kb_drewN | apply kb_set | (apply kb_far; (focus (first | (simp; done) | (simp; omega)))))))); have c0 := kb_cell B0; have z0 := kb_frozen B0) | (go_at_call 37; (with_reducible refine (HA2.out _).mono ?_); rintro e w1 ⟨rfl, hb1⟩; have hz1 := hb1.size; have B0 : w1.heap[w.heap.size]? = some _ := kb_below hb1 (by (repeat (with_reducible (first | assumption | (apply kb_new; (focus (simp; done))) | apply kb_alloc | apply kb_drew | apply kb_drewN | apply kb_set | (apply kb_far; (focus (first | (simp; done) | (simp; omega)))))))); have c0 := kb_cell B0; have z0 := kb_frozen B0) | (go_at_call 39; (with_reducible refine (HK1.out _).mono ?_); rintro e w1 ⟨rfl, hb1⟩; have hz1 := hb1.size; have B0 : w1.heap[w.heap.size]? = some _ := kb_below hb1 (by (repeat (with_reducible (first | assumption | (apply kb_new; (focus (simp; done))) | apply kb_alloc | apply kb_drew | apply kb_drewN | apply kb_set | (apply kb_far; (focus (first | (simp; done) | (simp; omega)))))))); have c0 := kb_cell B0; have z0 := kb_frozen B0))
  go_ret
  exact ⟨rfl, by (repeat (with_reducible (first | exact Below.refl _ _ | assumption | refine bl_alloc ?_ _ | refine bl_drew ?_ | refine bl_drewN ?_ _ | (refine bl_set ?_ ?_ _; (focus (first | (simp; done) | (simp; omega) | omega))) | refine bl_then ?_ (by assumption))))⟩

set_option maxRecDepth 100000 in
set_option maxHeartbeats 1000000 in
theorem goes_0_0001 (a now n m p d nu de A NOW N M X Y P D NU DE : Int) (w : World)
    (hA : timN a = A) (hNOW : timN now = NOW) (hN : timN n = N) (hM : timN m = M) (hP : finP p = P) (hD : finD d = D) (hNU : finN nu de = NU) (hDE : finM de = DE)
    (hX : laterN NOW N = X) (hXe : laterE NOW N = 0) (hY : laterN X M = Y) (hYe : laterE X M = 0) (hZ : laterN NOW (N + M) = Y) (hZe : laterE NOW (N + M) = 0)
    (hc : chkT P D NU DE = 0) (k1 : askT A NOW P D NU DE = 0) (k2 : askT A X P D NU DE = 0)
    (hp : expdB A NOW P D NU DE = false) (hq : expdB A X P D NU DE = false) (hr : ahdB A NOW P D NU DE = true) (hs : ahdB A X P D NU DE = false)
    (hl : lookT A NOW P D NU DE = if false then 16 else if true then 17 else 0)
    (n0 : 0 ≤ NOW) (n1 : NOW ≤ 1099511627776) (N0 : 0 ≤ N) (N1 : N ≤ 1099511627776) (M0 : 0 ≤ M) (M1 : M ≤ 1099511627776) (x0 : NOW ≤ X) (x1 : X ≤ 1099511627776)
    (e1 : (X != NOW + N) = false)
:
    Calls Try.prog 11 #[.int .i64 a, .int .i64 now, .int .i64 n, .int .i64 m, .agg #[.int .i64 p, .int .i64 d, .int .i64 nu, .int .i64 de]] w fun e w' => e = .returned (.bool true) ∧ Below w.heap.size w w' := by
  have T1 := fun W => time_t a A hA W
  have T2 := fun W => time_t now NOW hNOW W
  have T3 := fun W => time_t n N hN W
  have T4 := fun W => time_t m M hM W
  have F1 := fun W => fine_t p d nu de P D NU DE hP hD hNU hDE W
  have L1 := fun W => Later_t NOW N X 0 hX hXe W
  have L2 := fun W => Later_t X M Y 0 hY hYe W
  have L3 := fun W => Later_t NOW (N + M) Y 0 hZ hZe W
  have E1 := fun W => Expired_t A NOW P D NU DE false hp k1 W
  have E2 := fun W => Expired_t A X P D NU DE false hq k2 W
  have A1 := fun W => Ahead_t A NOW P D NU DE true hr k1 W
  have A2 := fun W => Ahead_t A X P D NU DE false hs k2 W
  have C1 := fun W => check_t P D NU DE 0 hc W
  have K1 := fun W => look_t A NOW P D NU DE _ hl W
  have HT1 := Lib.hid T1
  have HT2 := Lib.hid T2
  have HT3 := Lib.hid T3
  have HT4 := Lib.hid T4
  have HF1 := Lib.hid F1
  have HL1 := Lib.hid L1
  have HL2 := Lib.hid L2
  have HL3 := Lib.hid L3
  have HE1 := Lib.hid E1
  have HE2 := Lib.hid E2
  have HA1 := Lib.hid A1
  have HA2 := Lib.hid A2
  have HC1 := Lib.hid C1
  have HK1 := Lib.hid K1
  clear T1 T2 T3 T4 F1 L1 L2 L3 E1 E2 A1 A2 C1 K1 hA hNOW hN hM hP hD hNU hDE hX hXe hY hYe hZ hZe hc k1 k2 hp hq hr hs hl
  go_enter Try.func11, Try.ntmps11
  go_wp2_with (first | (go_at_call 10; (with_reducible refine (Known_any _).mono ?_); rintro e w1 ⟨rfl, hb1⟩; have hz1 := hb1.size; have B0 : w1.heap[w.heap.size]? = some _ := kb_below hb1 (by (repeat (with_reducible (first | assumption | (apply kb_new; (focus (simp; done))) | apply kb_alloc | apply kb_drew | apply kb_drewN | apply kb_set | (apply kb_far; (focus (first | (simp; done) | (simp; omega)))))))); have c0 := kb_cell B0; have z0 := kb_frozen B0) | (go_at_call 49; (with_reducible refine (HF1.out _).mono ?_); rintro e w1 ⟨rfl, hb1⟩; have hz1 := hb1.size; have B0 : w1.heap[w.heap.size]? = some _ := kb_below hb1 (by (repeat (with_reducible (first | assumption | (apply kb_new; (focus (simp; done))) | apply kb_alloc | apply kb_drew | apply kb_drewN | apply kb_set | (apply kb_far; (focus (first | (simp; done) | (simp; omega)))))))); have c0 := kb_cell B0; have z0 := kb_frozen B0) | (go_at_call 50; (with_reducible refine (HT1.out _).mono ?_); rintro e w1 ⟨rfl, rfl⟩) | (go_at_call 50; (with_reducible refine (HT2.out _).mono ?_); rintro e w1 ⟨rfl, rfl⟩) | (go_at_call 50; (with_reducible refine (HT3.out _).mono ?_); rintro e w1 ⟨rfl, rfl⟩) | (go_at_call 50; (with_reducible refine (HT4.out _).mono ?_); rintro e w1 ⟨rfl, rfl⟩) | (go_at_call 20; (with_reducible refine (HL1.out _).mono ?_); rintro e w1 ⟨rfl, hb1⟩; have hz1 := hb1.size; have B0 : w1.heap[w.heap.size]? = some _ := kb_below hb1 (by (repeat (with_reducible (first | assumption | (apply kb_new; (focus (simp; done))) | apply kb_alloc | apply kb_drew | apply kb_drewN | apply kb_set | (apply kb_far; (focus (first | (simp; done) | (simp; omega)))))))); have c0 := kb_cell B0; have z0 := kb_frozen B0) | (go_at_call 20; (with_reducible refine (HL2.out _).mono ?_); rintro e w1 ⟨rfl, hb1⟩; have hz1 := hb1.size; have B0 : w1.heap[w.heap.size]? = some _ := kb_below hb1 (by (repeat (with_reducible (first | assumption | (apply kb_new; (focus (simp; done))) | apply kb_alloc | apply kb_drew | apply kb_drewN | apply kb_set | (apply kb_far; (focus (first | (simp; done) | (simp; omega)))))))); have c0 := kb_cell B0; have z0 := kb_frozen B0) | (go_at_call 20; (with_reducible refine (HL3.out _).mono ?_); rintro e w1 ⟨rfl, hb1⟩; have hz1 := hb1.size; have B0 : w1.heap[w.heap.size]? = some _ := kb_below hb1 (by (repeat (with_reducible (first | assumption | (apply kb_new; (focus (simp; done))) | apply kb_alloc | apply kb_drew | apply kb_drewN | apply kb_set | (apply kb_far; (focus (first | (simp; done) | (simp; omega)))))))); have c0 := kb_cell B0; have z0 := kb_frozen B0) | (go_at_call 41; (with_reducible refine (HC1.out _).mono ?_); rintro e w1 ⟨rfl, hb1⟩; have hz1 := hb1.size; have B0 : w1.heap[w.heap.size]? = some _ := kb_below hb1 (by (repeat (with_reducible (first | assumption | (apply kb_new; (focus (simp; done))) | apply kb_alloc | apply kb_drew | apply kb_drewN | apply kb_set | (apply kb_far; (focus (first | (simp; done) | (simp; omega)))))))); have c0 := kb_cell B0; have z0 := kb_frozen B0) | (go_at_call 35; (with_reducible refine (HE1.out _).mono ?_); rintro e w1 ⟨rfl, hb1⟩; have hz1 := hb1.size; have B0 : w1.heap[w.heap.size]? = some _ := kb_below hb1 (by (repeat (with_reducible (first | assumption | (apply kb_new; (focus (simp; done))) | apply kb_alloc | apply kb_drew | apply kb_drewN | apply kb_set | (apply kb_far; (focus (first | (simp; done) | (simp; omega)))))))); have c0 := kb_cell B0; have z0 := kb_frozen B0) | (go_at_call 35; (with_reducible refine (HE2.out _).mono ?_); rintro e w1 ⟨rfl, hb1⟩; have hz1 := hb1.size; have B0 : w1.heap[w.heap.size]? = some _ := kb_below hb1 (by (repeat (with_reducible (first | assumption | (apply kb_new; (focus (simp; done))) | apply kb_alloc | apply kb_drew | apply kb_drewN | apply kb_set | (apply kb_far; (focus (first | (simp; done) | (simp; omega)))))))); have c0 := kb_cell B0; have z0 := kb_frozen B0) | (go_at_call 37; (with_reducible refine (HA1.out _).mono ?_); rintro e w1 ⟨rfl, hb1⟩; have hz1 := hb1.size; have B0 : w1.heap[w.heap.size]? = some _ := kb_below hb1 (by (repeat (with_reducible (first | assumption | (apply kb_new; (focus (simp; done))) | apply kb_alloc | apply kb_drew | apply kb_drewN | apply kb_set | (apply kb_far; (focus (first | (simp; done) | (simp; omega)))))))); have c0 := kb_cell B0; have z0 := kb_frozen B0) | (go_at_call 37; (with_reducible refine (HA2.out _).mono ?_); rintro e w1 ⟨rfl, hb1⟩; have hz1 := hb1.size; have B0 : w1.heap[w.heap.size]? = some _ := kb_below hb1 (by (repeat (with_reducible (first | assumption | (apply kb_new; (focus (simp; done))) | apply kb_alloc | apply kb_drew | apply kb_drewN | apply kb_set | (apply kb_far; (focus (first | (simp; done) | (simp; omega)))))))); have c0 := kb_cell B0; have z0 := kb_frozen B0) | (go_at_call 39; (with_reducible refine (HK1.out _).mono ?_); rintro e w1 ⟨rfl, hb1⟩; have hz1 := hb1.size; have B0 : w1.heap[w.heap.size]? = some _ := kb_below hb1 (by (repeat (with_reducible (first | assumption | (apply kb_new; (focus (simp; done))) | apply kb_alloc | apply kb_drew | apply kb_drewN | apply kb_set | (apply kb_far; (focus (first | (simp; done) | (simp; omega)))))))); have c0 := kb_cell B0; have z0 := kb_frozen B0))
  go_ret
  exact ⟨rfl, by (repeat (with_reducible (first | exact Below.refl _ _ | assumption | refine bl_alloc ?_ _ | refine bl_drew ?_ | refine bl_drewN ?_ _ | (refine bl_set ?_ ?_ _; (focus (first | (simp; done) | (simp; omega) | omega))) | refine bl_then ?_ (by assumption))))⟩

set_option maxRecDepth 100000 in
set_option maxHeartbeats 1000000 in
theorem goes_0_0011 (a now n m p d nu de A NOW N M X Y P D NU DE : Int) (w : World)
    (hA : timN a = A) (hNOW : timN now = NOW) (hN : timN n = N) (hM : timN m = M) (hP : finP p = P) (hD : finD d = D) (hNU : finN nu de = NU) (hDE : finM de = DE)
    (hX : laterN NOW N = X) (hXe : laterE NOW N = 0) (hY : laterN X M = Y) (hYe : laterE X M = 0) (hZ : laterN NOW (N + M) = Y) (hZe : laterE NOW (N + M) = 0)
    (hc : chkT P D NU DE = 0) (k1 : askT A NOW P D NU DE = 0) (k2 : askT A X P D NU DE = 0)
    (hp : expdB A NOW P D NU DE = false) (hq : expdB A X P D NU DE = false) (hr : ahdB A NOW P D NU DE = true) (hs : ahdB A X P D NU DE = true)
    (hl : lookT A NOW P D NU DE = if false then 16 else if true then 17 else 0)
    (n0 : 0 ≤ NOW) (n1 : NOW ≤ 1099511627776) (N0 : 0 ≤ N) (N1 : N ≤ 1099511627776) (M0 : 0 ≤ M) (M1 : M ≤ 1099511627776) (x0 : NOW ≤ X) (x1 : X ≤ 1099511627776)
    (e1 : (X != NOW + N) = false)
:
    Calls Try.prog 11 #[.int .i64 a, .int .i64 now, .int .i64 n, .int .i64 m, .agg #[.int .i64 p, .int .i64 d, .int .i64 nu, .int .i64 de]] w fun e w' => e = .returned (.bool true) ∧ Below w.heap.size w w' := by
  have T1 := fun W => time_t a A hA W
  have T2 := fun W => time_t now NOW hNOW W
  have T3 := fun W => time_t n N hN W
  have T4 := fun W => time_t m M hM W
  have F1 := fun W => fine_t p d nu de P D NU DE hP hD hNU hDE W
  have L1 := fun W => Later_t NOW N X 0 hX hXe W
  have L2 := fun W => Later_t X M Y 0 hY hYe W
  have L3 := fun W => Later_t NOW (N + M) Y 0 hZ hZe W
  have E1 := fun W => Expired_t A NOW P D NU DE false hp k1 W
  have E2 := fun W => Expired_t A X P D NU DE false hq k2 W
  have A1 := fun W => Ahead_t A NOW P D NU DE true hr k1 W
  have A2 := fun W => Ahead_t A X P D NU DE true hs k2 W
  have C1 := fun W => check_t P D NU DE 0 hc W
  have K1 := fun W => look_t A NOW P D NU DE _ hl W
  have HT1 := Lib.hid T1
  have HT2 := Lib.hid T2
  have HT3 := Lib.hid T3
  have HT4 := Lib.hid T4
  have HF1 := Lib.hid F1
  have HL1 := Lib.hid L1
  have HL2 := Lib.hid L2
  have HL3 := Lib.hid L3
  have HE1 := Lib.hid E1
  have HE2 := Lib.hid E2
  have HA1 := Lib.hid A1
  have HA2 := Lib.hid A2
  have HC1 := Lib.hid C1
  have HK1 := Lib.hid K1
  clear T1 T2 T3 T4 F1 L1 L2 L3 E1 E2 A1 A2 C1 K1 hA hNOW hN hM hP hD hNU hDE hX hXe hY hYe hZ hZe hc k1 k2 hp hq hr hs hl
  go_enter Try.func11, Try.ntmps11
  go_wp2_with (first | (go_at_call 10; (with_reducible refine (Known_any _).mono ?_); rintro e w1 ⟨rfl, hb1⟩; have hz1 := hb1.size; have B0 : w1.heap[w.heap.size]? = some _ := kb_below hb1 (by (repeat (with_reducible (first | assumption | (apply kb_new; (focus (simp; done))) | apply kb_alloc | apply kb_drew | apply kb_drewN | apply kb_set | (apply kb_far; (focus (first | (simp; done) | (simp; omega)))))))); have c0 := kb_cell B0; have z0 := kb_frozen B0) | (go_at_call 49; (with_reducible refine (HF1.out _).mono ?_); rintro e w1 ⟨rfl, hb1⟩; have hz1 := hb1.size; have B0 : w1.heap[w.heap.size]? = some _ := kb_below hb1 (by (repeat (with_reducible (first | assumption | (apply kb_new; (focus (simp; done))) | apply kb_alloc | apply kb_drew | apply kb_drewN | apply kb_set | (apply kb_far; (focus (first | (simp; done) | (simp; omega)))))))); have c0 := kb_cell B0; have z0 := kb_frozen B0) | (go_at_call 50; (with_reducible refine (HT1.out _).mono ?_); rintro e w1 ⟨rfl, rfl⟩) | (go_at_call 50; (with_reducible refine (HT2.out _).mono ?_); rintro e w1 ⟨rfl, rfl⟩) | (go_at_call 50; (with_reducible refine (HT3.out _).mono ?_); rintro e w1 ⟨rfl, rfl⟩) | (go_at_call 50; (with_reducible refine (HT4.out _).mono ?_); rintro e w1 ⟨rfl, rfl⟩) | (go_at_call 20; (with_reducible refine (HL1.out _).mono ?_); rintro e w1 ⟨rfl, hb1⟩; have hz1 := hb1.size; have B0 : w1.heap[w.heap.size]? = some _ := kb_below hb1 (by (repeat (with_reducible (first | assumption | (apply kb_new; (focus (simp; done))) | apply kb_alloc | apply kb_drew | apply kb_drewN | apply kb_set | (apply kb_far; (focus (first | (simp; done) | (simp; omega)))))))); have c0 := kb_cell B0; have z0 := kb_frozen B0) | (go_at_call 20; (with_reducible refine (HL2.out _).mono ?_); rintro e w1 ⟨rfl, hb1⟩; have hz1 := hb1.size; have B0 : w1.heap[w.heap.size]? = some _ := kb_below hb1 (by (repeat (with_reducible (first | assumption | (apply kb_new; (focus (simp; done))) | apply kb_alloc | apply kb_drew | apply kb_drewN | apply kb_set | (apply kb_far; (focus (first | (simp; done) | (simp; omega)))))))); have c0 := kb_cell B0; have z0 := kb_frozen B0) | (go_at_call 20; (with_reducible refine (HL3.out _).mono ?_); rintro e w1 ⟨rfl, hb1⟩; have hz1 := hb1.size; have B0 : w1.heap[w.heap.size]? = some _ := kb_below hb1 (by (repeat (with_reducible (first | assumption | (apply kb_new; (focus (simp; done))) | apply kb_alloc | apply kb_drew | apply kb_drewN | apply kb_set | (apply kb_far; (focus (first | (simp; done) | (simp; omega)))))))); have c0 := kb_cell B0; have z0 := kb_frozen B0) | (go_at_call 41; (with_reducible refine (HC1.out _).mono ?_); rintro e w1 ⟨rfl, hb1⟩; have hz1 := hb1.size; have B0 : w1.heap[w.heap.size]? = some _ := kb_below hb1 (by (repeat (with_reducible (first | assumption | (apply kb_new; (focus (simp; done))) | apply kb_alloc | apply kb_drew | apply kb_drewN | apply kb_set | (apply kb_far; (focus (first | (simp; done) | (simp; omega)))))))); have c0 := kb_cell B0; have z0 := kb_frozen B0) | (go_at_call 35; (with_reducible refine (HE1.out _).mono ?_); rintro e w1 ⟨rfl, hb1⟩; have hz1 := hb1.size; have B0 : w1.heap[w.heap.size]? = some _ := kb_below hb1 (by (repeat (with_reducible (first | assumption | (apply kb_new; (focus (simp; done))) | apply kb_alloc | apply kb_drew | apply kb_drewN | apply kb_set | (apply kb_far; (focus (first | (simp; done) | (simp; omega)))))))); have c0 := kb_cell B0; have z0 := kb_frozen B0) | (go_at_call 35; (with_reducible refine (HE2.out _).mono ?_); rintro e w1 ⟨rfl, hb1⟩; have hz1 := hb1.size; have B0 : w1.heap[w.heap.size]? = some _ := kb_below hb1 (by (repeat (with_reducible (first | assumption | (apply kb_new; (focus (simp; done))) | apply kb_alloc | apply kb_drew | apply kb_drewN | apply kb_set | (apply kb_far; (focus (first | (simp; done) | (simp; omega)))))))); have c0 := kb_cell B0; have z0 := kb_frozen B0) | (go_at_call 37; (with_reducible refine (HA1.out _).mono ?_); rintro e w1 ⟨rfl, hb1⟩; have hz1 := hb1.size; have B0 : w1.heap[w.heap.size]? = some _ := kb_below hb1 (by (repeat (with_reducible (first | assumption | (apply kb_new; (focus (simp; done))) | apply kb_alloc | apply kb_drew | apply kb_drewN | apply kb_set | (apply kb_far; (focus (first | (simp; done) | (simp; omega)))))))); have c0 := kb_cell B0; have z0 := kb_frozen B0) | (go_at_call 37; (with_reducible refine (HA2.out _).mono ?_); rintro e w1 ⟨rfl, hb1⟩; have hz1 := hb1.size; have B0 : w1.heap[w.heap.size]? = some _ := kb_below hb1 (by (repeat (with_reducible (first | assumption | (apply kb_new; (focus (simp; done))) | apply kb_alloc | apply kb_drew | apply kb_drewN | apply kb_set | (apply kb_far; (focus (first | (simp; done) | (simp; omega)))))))); have c0 := kb_cell B0; have z0 := kb_frozen B0) | (go_at_call 39; (with_reducible refine (HK1.out _).mono ?_); rintro e w1 ⟨rfl, hb1⟩; have hz1 := hb1.size; have B0 : w1.heap[w.heap.size]? = some _ := kb_below hb1 (by (repeat (with_reducible (first | assumption | (apply kb_new; (focus (simp; done))) | apply kb_alloc | apply kb_drew | apply kb_drewN | apply kb_set | (apply kb_far; (focus (first | (simp; done) | (simp; omega)))))))); have c0 := kb_cell B0; have z0 := kb_frozen B0))
  go_ret
  exact ⟨rfl, by (repeat (with_reducible (first | exact Below.refl _ _ | assumption | refine bl_alloc ?_ _ | refine bl_drew ?_ | refine bl_drewN ?_ _ | (refine bl_set ?_ ?_ _; (focus (first | (simp; done) | (simp; omega) | omega))) | refine bl_then ?_ (by assumption))))⟩

set_option maxRecDepth 100000 in
set_option maxHeartbeats 1000000 in
theorem goes_0_0100 (a now n m p d nu de A NOW N M X Y P D NU DE : Int) (w : World)
    (hA : timN a = A) (hNOW : timN now = NOW) (hN : timN n = N) (hM : timN m = M) (hP : finP p = P) (hD : finD d = D) (hNU : finN nu de = NU) (hDE : finM de = DE)
    (hX : laterN NOW N = X) (hXe : laterE NOW N = 0) (hY : laterN X M = Y) (hYe : laterE X M = 0) (hZ : laterN NOW (N + M) = Y) (hZe : laterE NOW (N + M) = 0)
    (hc : chkT P D NU DE = 0) (k1 : askT A NOW P D NU DE = 0) (k2 : askT A X P D NU DE = 0)
    (hp : expdB A NOW P D NU DE = false) (hq : expdB A X P D NU DE = true) (hr : ahdB A NOW P D NU DE = false) (hs : ahdB A X P D NU DE = false)
    (hl : lookT A NOW P D NU DE = if false then 16 else if false then 17 else 0)
    (n0 : 0 ≤ NOW) (n1 : NOW ≤ 1099511627776) (N0 : 0 ≤ N) (N1 : N ≤ 1099511627776) (M0 : 0 ≤ M) (M1 : M ≤ 1099511627776) (x0 : NOW ≤ X) (x1 : X ≤ 1099511627776)
    (e1 : (X != NOW + N) = false)
:
    Calls Try.prog 11 #[.int .i64 a, .int .i64 now, .int .i64 n, .int .i64 m, .agg #[.int .i64 p, .int .i64 d, .int .i64 nu, .int .i64 de]] w fun e w' => e = .returned (.bool true) ∧ Below w.heap.size w w' := by
  have T1 := fun W => time_t a A hA W
  have T2 := fun W => time_t now NOW hNOW W
  have T3 := fun W => time_t n N hN W
  have T4 := fun W => time_t m M hM W
  have F1 := fun W => fine_t p d nu de P D NU DE hP hD hNU hDE W
  have L1 := fun W => Later_t NOW N X 0 hX hXe W
  have L2 := fun W => Later_t X M Y 0 hY hYe W
  have L3 := fun W => Later_t NOW (N + M) Y 0 hZ hZe W
  have E1 := fun W => Expired_t A NOW P D NU DE false hp k1 W
  have E2 := fun W => Expired_t A X P D NU DE true hq k2 W
  have A1 := fun W => Ahead_t A NOW P D NU DE false hr k1 W
  have A2 := fun W => Ahead_t A X P D NU DE false hs k2 W
  have C1 := fun W => check_t P D NU DE 0 hc W
  have K1 := fun W => look_t A NOW P D NU DE _ hl W
  have HT1 := Lib.hid T1
  have HT2 := Lib.hid T2
  have HT3 := Lib.hid T3
  have HT4 := Lib.hid T4
  have HF1 := Lib.hid F1
  have HL1 := Lib.hid L1
  have HL2 := Lib.hid L2
  have HL3 := Lib.hid L3
  have HE1 := Lib.hid E1
  have HE2 := Lib.hid E2
  have HA1 := Lib.hid A1
  have HA2 := Lib.hid A2
  have HC1 := Lib.hid C1
  have HK1 := Lib.hid K1
  clear T1 T2 T3 T4 F1 L1 L2 L3 E1 E2 A1 A2 C1 K1 hA hNOW hN hM hP hD hNU hDE hX hXe hY hYe hZ hZe hc k1 k2 hp hq hr hs hl
  go_enter Try.func11, Try.ntmps11
  go_wp2_with (first | (go_at_call 10; (with_reducible refine (Known_any _).mono ?_); rintro e w1 ⟨rfl, hb1⟩; have hz1 := hb1.size; have B0 : w1.heap[w.heap.size]? = some _ := kb_below hb1 (by (repeat (with_reducible (first | assumption | (apply kb_new; (focus (simp; done))) | apply kb_alloc | apply kb_drew | apply kb_drewN | apply kb_set | (apply kb_far; (focus (first | (simp; done) | (simp; omega)))))))); have c0 := kb_cell B0; have z0 := kb_frozen B0) | (go_at_call 49; (with_reducible refine (HF1.out _).mono ?_); rintro e w1 ⟨rfl, hb1⟩; have hz1 := hb1.size; have B0 : w1.heap[w.heap.size]? = some _ := kb_below hb1 (by (repeat (with_reducible (first | assumption | (apply kb_new; (focus (simp; done))) | apply kb_alloc | apply kb_drew | apply kb_drewN | apply kb_set | (apply kb_far; (focus (first | (simp; done) | (simp; omega)))))))); have c0 := kb_cell B0; have z0 := kb_frozen B0) | (go_at_call 50; (with_reducible refine (HT1.out _).mono ?_); rintro e w1 ⟨rfl, rfl⟩) | (go_at_call 50; (with_reducible refine (HT2.out _).mono ?_); rintro e w1 ⟨rfl, rfl⟩) | (go_at_call 50; (with_reducible refine (HT3.out _).mono ?_); rintro e w1 ⟨rfl, rfl⟩) | (go_at_call 50; (with_reducible refine (HT4.out _).mono ?_); rintro e w1 ⟨rfl, rfl⟩) | (go_at_call 20; (with_reducible refine (HL1.out _).mono ?_); rintro e w1 ⟨rfl, hb1⟩; have hz1 := hb1.size; have B0 : w1.heap[w.heap.size]? = some _ := kb_below hb1 (by (repeat (with_reducible (first | assumption | (apply kb_new; (focus (simp; done))) | apply kb_alloc | apply kb_drew | apply kb_drewN | apply kb_set | (apply kb_far; (focus (first | (simp; done) | (simp; omega)))))))); have c0 := kb_cell B0; have z0 := kb_frozen B0) | (go_at_call 20; (with_reducible refine (HL2.out _).mono ?_); rintro e w1 ⟨rfl, hb1⟩; have hz1 := hb1.size; have B0 : w1.heap[w.heap.size]? = some _ := kb_below hb1 (by (repeat (with_reducible (first | assumption | (apply kb_new; (focus (simp; done))) | apply kb_alloc | apply kb_drew | apply kb_drewN | apply kb_set | (apply kb_far; (focus (first | (simp; done) | (simp; omega)))))))); have c0 := kb_cell B0; have z0 := kb_frozen B0) | (go_at_call 20; (with_reducible refine (HL3.out _).mono ?_); rintro e w1 ⟨rfl, hb1⟩; have hz1 := hb1.size; have B0 : w1.heap[w.heap.size]? = some _ := kb_below hb1 (by (repeat (with_reducible (first | assumption | (apply kb_new; (focus (simp; done))) | apply kb_alloc | apply kb_drew | apply kb_drewN | apply kb_set | (apply kb_far; (focus (first | (simp; done) | (simp; omega)))))))); have c0 := kb_cell B0; have z0 := kb_frozen B0) | (go_at_call 41; (with_reducible refine (HC1.out _).mono ?_); rintro e w1 ⟨rfl, hb1⟩; have hz1 := hb1.size; have B0 : w1.heap[w.heap.size]? = some _ := kb_below hb1 (by (repeat (with_reducible (first | assumption | (apply kb_new; (focus (simp; done))) | apply kb_alloc | apply kb_drew | apply kb_drewN | apply kb_set | (apply kb_far; (focus (first | (simp; done) | (simp; omega)))))))); have c0 := kb_cell B0; have z0 := kb_frozen B0) | (go_at_call 35; (with_reducible refine (HE1.out _).mono ?_); rintro e w1 ⟨rfl, hb1⟩; have hz1 := hb1.size; have B0 : w1.heap[w.heap.size]? = some _ := kb_below hb1 (by (repeat (with_reducible (first | assumption | (apply kb_new; (focus (simp; done))) | apply kb_alloc | apply kb_drew | apply kb_drewN | apply kb_set | (apply kb_far; (focus (first | (simp; done) | (simp; omega)))))))); have c0 := kb_cell B0; have z0 := kb_frozen B0) | (go_at_call 35; (with_reducible refine (HE2.out _).mono ?_); rintro e w1 ⟨rfl, hb1⟩; have hz1 := hb1.size; have B0 : w1.heap[w.heap.size]? = some _ := kb_below hb1 (by (repeat (with_reducible (first | assumption | (apply kb_new; (focus (simp; done))) | apply kb_alloc | apply kb_drew | apply kb_drewN | apply kb_set | (apply kb_far; (focus (first | (simp; done) | (simp; omega)))))))); have c0 := kb_cell B0; have z0 := kb_frozen B0) | (go_at_call 37; (with_reducible refine (HA1.out _).mono ?_); rintro e w1 ⟨rfl, hb1⟩; have hz1 := hb1.size; have B0 : w1.heap[w.heap.size]? = some _ := kb_below hb1 (by (repeat (with_reducible (first | assumption | (apply kb_new; (focus (simp; done))) | apply kb_alloc | apply kb_drew | apply kb_drewN | apply kb_set | (apply kb_far; (focus (first | (simp; done) | (simp; omega)))))))); have c0 := kb_cell B0; have z0 := kb_frozen B0) | (go_at_call 37; (with_reducible refine (HA2.out _).mono ?_); rintro e w1 ⟨rfl, hb1⟩; have hz1 := hb1.size; have B0 : w1.heap[w.heap.size]? = some _ := kb_below hb1 (by (repeat (with_reducible (first | assumption | (apply kb_new; (focus (simp; done))) | apply kb_alloc | apply kb_drew | apply kb_drewN | apply kb_set | (apply kb_far; (focus (first | (simp; done) | (simp; omega)))))))); have c0 := kb_cell B0; have z0 := kb_frozen B0) | (go_at_call 39; (with_reducible refine (HK1.out _).mono ?_); rintro e w1 ⟨rfl, hb1⟩; have hz1 := hb1.size; have B0 : w1.heap[w.heap.size]? = some _ := kb_below hb1 (by (repeat (with_reducible (first | assumption | (apply kb_new; (focus (simp; done))) | apply kb_alloc | apply kb_drew | apply kb_drewN | apply kb_set | (apply kb_far; (focus (first | (simp; done) | (simp; omega)))))))); have c0 := kb_cell B0; have z0 := kb_frozen B0))
  go_ret
  exact ⟨rfl, by (repeat (with_reducible (first | exact Below.refl _ _ | assumption | refine bl_alloc ?_ _ | refine bl_drew ?_ | refine bl_drewN ?_ _ | (refine bl_set ?_ ?_ _; (focus (first | (simp; done) | (simp; omega) | omega))) | refine bl_then ?_ (by assumption))))⟩

set_option maxRecDepth 100000 in
set_option maxHeartbeats 1000000 in
theorem goes_0_0101 (a now n m p d nu de A NOW N M X Y P D NU DE : Int) (w : World)
    (hA : timN a = A) (hNOW : timN now = NOW) (hN : timN n = N) (hM : timN m = M) (hP : finP p = P) (hD : finD d = D) (hNU : finN nu de = NU) (hDE : finM de = DE)
    (hX : laterN NOW N = X) (hXe : laterE NOW N = 0) (hY : laterN X M = Y) (hYe : laterE X M = 0) (hZ : laterN NOW (N + M) = Y) (hZe : laterE NOW (N + M) = 0)
    (hc : chkT P D NU DE = 0) (k1 : askT A NOW P D NU DE = 0) (k2 : askT A X P D NU DE = 0)
    (hp : expdB A NOW P D NU DE = false) (hq : expdB A X P D NU DE = true) (hr : ahdB A NOW P D NU DE = true) (hs : ahdB A X P D NU DE = false)
    (hl : lookT A NOW P D NU DE = if false then 16 else if true then 17 else 0)
    (n0 : 0 ≤ NOW) (n1 : NOW ≤ 1099511627776) (N0 : 0 ≤ N) (N1 : N ≤ 1099511627776) (M0 : 0 ≤ M) (M1 : M ≤ 1099511627776) (x0 : NOW ≤ X) (x1 : X ≤ 1099511627776)
    (e1 : (X != NOW + N) = false)
:
    Calls Try.prog 11 #[.int .i64 a, .int .i64 now, .int .i64 n, .int .i64 m, .agg #[.int .i64 p, .int .i64 d, .int .i64 nu, .int .i64 de]] w fun e w' => e = .returned (.bool true) ∧ Below w.heap.size w w' := by
  have T1 := fun W => time_t a A hA W
  have T2 := fun W => time_t now NOW hNOW W
  have T3 := fun W => time_t n N hN W
  have T4 := fun W => time_t m M hM W
  have F1 := fun W => fine_t p d nu de P D NU DE hP hD hNU hDE W
  have L1 := fun W => Later_t NOW N X 0 hX hXe W
  have L2 := fun W => Later_t X M Y 0 hY hYe W
  have L3 := fun W => Later_t NOW (N + M) Y 0 hZ hZe W
  have E1 := fun W => Expired_t A NOW P D NU DE false hp k1 W
  have E2 := fun W => Expired_t A X P D NU DE true hq k2 W
  have A1 := fun W => Ahead_t A NOW P D NU DE true hr k1 W
  have A2 := fun W => Ahead_t A X P D NU DE false hs k2 W
  have C1 := fun W => check_t P D NU DE 0 hc W
  have K1 := fun W => look_t A NOW P D NU DE _ hl W
  have HT1 := Lib.hid T1
  have HT2 := Lib.hid T2
  have HT3 := Lib.hid T3
  have HT4 := Lib.hid T4
  have HF1 := Lib.hid F1
  have HL1 := Lib.hid L1
  have HL2 := Lib.hid L2
  have HL3 := Lib.hid L3
  have HE1 := Lib.hid E1
  have HE2 := Lib.hid E2
  have HA1 := Lib.hid A1
  have HA2 := Lib.hid A2
  have HC1 := Lib.hid C1
  have HK1 := Lib.hid K1
  clear T1 T2 T3 T4 F1 L1 L2 L3 E1 E2 A1 A2 C1 K1 hA hNOW hN hM hP hD hNU hDE hX hXe hY hYe hZ hZe hc k1 k2 hp hq hr hs hl
  go_enter Try.func11, Try.ntmps11
  go_wp2_with (first | (go_at_call 10; (with_reducible refine (Known_any _).mono ?_); rintro e w1 ⟨rfl, hb1⟩; have hz1 := hb1.size; have B0 : w1.heap[w.heap.size]? = some _ := kb_below hb1 (by (repeat (with_reducible (first | assumption | (apply kb_new; (focus (simp; done))) | apply kb_alloc | apply kb_drew | apply kb_drewN | apply kb_set | (apply kb_far; (focus (first | (simp; done) | (simp; omega)))))))); have c0 := kb_cell B0; have z0 := kb_frozen B0) | (go_at_call 49; (with_reducible refine (HF1.out _).mono ?_); rintro e w1 ⟨rfl, hb1⟩; have hz1 := hb1.size; have B0 : w1.heap[w.heap.size]? = some _ := kb_below hb1 (by (repeat (with_reducible (first | assumption | (apply kb_new; (focus (simp; done))) | apply kb_alloc | apply kb_drew | apply kb_drewN | apply kb_set | (apply kb_far; (focus (first | (simp; done) | (simp; omega)))))))); have c0 := kb_cell B0; have z0 := kb_frozen B0) | (go_at_call 50; (with_reducible refine (HT1.out _).mono ?_); rintro e w1 ⟨rfl, rfl⟩) | (go_at_call 50; (with_reducible refine (HT2.out _).mono ?_); rintro e w1 ⟨rfl, rfl⟩) | (go_at_call 50; (with_reducible refine (HT3.out _).mono ?_); rintro e w1 ⟨rfl, rfl⟩) | (go_at_call 50; (with_reducible refine (HT4.out _).mono ?_); rintro e w1 ⟨rfl, rfl⟩) | (go_at_call 20; (with_reducible refine (HL1.out _).mono ?_); rintro e w1 ⟨rfl, hb1⟩; have hz1 := hb1.size; have B0 : w1.heap[w.heap.size]? = some _ := kb_below hb1 (by (repeat (with_reducible (first | assumption | (apply kb_new; (focus (simp; done))) | apply kb_alloc | apply kb_drew | apply kb_drewN | apply kb_set | (apply kb_far; (focus (first | (simp; done) | (simp; omega)))))))); have c0 := kb_cell B0; have z0 := kb_frozen B0) | (go_at_call 20; (with_reducible refine (HL2.out _).mono ?_); rintro e w1 ⟨rfl, hb1⟩; have hz1 := hb1.size; have B0 : w1.heap[w.heap.size]? = some _ := kb_below hb1 (by (repeat (with_reducible (first | assumption | (apply kb_new; (focus (simp; done))) | apply kb_alloc | apply kb_drew | apply kb_drewN | apply kb_set | (apply kb_far; (focus (first | (simp; done) | (simp; omega)))))))); have c0 := kb_cell B0; have z0 := kb_frozen B0) | (go_at_call 20; (with_reducible refine (HL3.out _).mono ?_); rintro e w1 ⟨rfl, hb1⟩; have hz1 := hb1.size; have B0 : w1.heap[w.heap.size]? = some _ := kb_below hb1 (by (repeat (with_reducible (first | assumption | (apply kb_new; (focus (simp; done))) | apply kb_alloc | apply kb_drew | apply kb_drewN | apply kb_set | (apply kb_far; (focus (first | (simp; done) | (simp; omega)))))))); have c0 := kb_cell B0; have z0 := kb_frozen B0) | (go_at_call 41; (with_reducible refine (HC1.out _).mono ?_); rintro e w1 ⟨rfl, hb1⟩; have hz1 := hb1.size; have B0 : w1.heap[w.heap.size]? = some _ := kb_below hb1 (by (repeat (with_reducible (first | assumption | (apply kb_new; (focus (simp; done))) | apply kb_alloc | apply kb_drew | apply kb_drewN | apply kb_set | (apply kb_far; (focus (first | (simp; done) | (simp; omega)))))))); have c0 := kb_cell B0; have z0 := kb_frozen B0) | (go_at_call 35; (with_reducible refine (HE1.out _).mono ?_); rintro e w1 ⟨rfl, hb1⟩; have hz1 := hb1.size; have B0 : w1.heap[w.heap.size]? = some _ := kb_below hb1 (by (repeat (with_reducible (first | assumption | (apply kb_new; (focus (simp; done))) | apply kb_alloc | apply kb_drew | apply kb_drewN | apply kb_set | (apply kb_far; (focus (first | (simp; done) | (simp; omega)))))))); have c0 := kb_cell B0; have z0 := kb_frozen B0) | (go_at_call 35; (with_reducible refine (HE2.out _).mono ?_); rintro e w1 ⟨rfl, hb1⟩; have hz1 := hb1.size; have B0 : w1.heap[w.heap.size]? = some _ := kb_below hb1 (by (repeat (with_reducible (first | assumption | (apply kb_new; (focus (simp; done))) | apply kb_alloc | apply kb_drew | apply kb_drewN | apply kb_set | (apply kb_far; (focus (first | (simp; done) | (simp; omega)))))))); have c0 := kb_cell B0; have z0 := kb_frozen B0) | (go_at_call 37; (with_reducible refine (HA1.out _).mono ?_); rintro e w1 ⟨rfl, hb1⟩; have hz1 := hb1.size; have B0 : w1.heap[w.heap.size]? = some _ := kb_below hb1 (by (repeat (with_reducible (first | assumption | (apply kb_new; (focus (simp; done))) | apply kb_alloc | apply kb_drew | apply kb_drewN | apply kb_set | (apply kb_far; (focus (first | (simp; done) | (simp; omega)))))))); have c0 := kb_cell B0; have z0 := kb_frozen B0) | (go_at_call 37; (with_reducible refine (HA2.out _).mono ?_); rintro e w1 ⟨rfl, hb1⟩; have hz1 := hb1.size; have B0 : w1.heap[w.heap.size]? = some _ := kb_below hb1 (by (repeat (with_reducible (first | assumption | (apply kb_new; (focus (simp; done))) | apply kb_alloc | apply kb_drew | apply kb_drewN | apply kb_set | (apply kb_far; (focus (first | (simp; done) | (simp; omega)))))))); have c0 := kb_cell B0; have z0 := kb_frozen B0) | (go_at_call 39; (with_reducible refine (HK1.out _).mono ?_); rintro e w1 ⟨rfl, hb1⟩; have hz1 := hb1.size; have B0 : w1.heap[w.heap.size]? = some _ := kb_below hb1 (by (repeat (with_reducible (first | assumption | (apply kb_new; (focus (simp; done))) | apply kb_alloc | apply kb_drew | apply kb_drewN | apply kb_set | (apply kb_far; (focus (first | (simp; done) | (simp; omega)))))))); have c0 := kb_cell B0; have z0 := kb_frozen B0))
  go_ret
  exact ⟨rfl, by (repeat (with_reducible (first | exact Below.refl _ _ | assumption | refine bl_alloc ?_ _ | refine bl_drew ?_ | refine bl_drewN ?_ _ | (refine bl_set ?_ ?_ _; (focus (first | (simp; done) | (simp; omega) | omega))) | refine bl_then ?_ (by assumption))))⟩

set_option maxRecDepth 100000 in
set_option maxHeartbeats 1000000 in
theorem goes_0_0111 (a now n m p d nu de A NOW N M X Y P D NU DE : Int) (w : World)
    (hA : timN a = A) (hNOW : timN now = NOW) (hN : timN n = N) (hM : timN m = M) (hP : finP p = P) (hD : finD d = D) (hNU : finN nu de = NU) (hDE : finM de = DE)
    (hX : laterN NOW N = X) (hXe : laterE NOW N = 0) (hY : laterN X M = Y) (hYe : laterE X M = 0) (hZ : laterN NOW (N + M) = Y) (hZe : laterE NOW (N + M) = 0)
    (hc : chkT P D NU DE = 0) (k1 : askT A NOW P D NU DE = 0) (k2 : askT A X P D NU DE = 0)
    (hp : expdB A NOW P D NU DE = false) (hq : expdB A X P D NU DE = true) (hr : ahdB A NOW P D NU DE = true) (hs : ahdB A X P D NU DE = true)
    (hl : lookT A NOW P D NU DE = if false then 16 else if true then 17 else 0)
    (n0 : 0 ≤ NOW) (n1 : NOW ≤ 1099511627776) (N0 : 0 ≤ N) (N1 : N ≤ 1099511627776) (M0 : 0 ≤ M) (M1 : M ≤ 1099511627776) (x0 : NOW ≤ X) (x1 : X ≤ 1099511627776)
    (e1 : (X != NOW + N) = false)
:
    Calls Try.prog 11 #[.int .i64 a, .int .i64 now, .int .i64 n, .int .i64 m, .agg #[.int .i64 p, .int .i64 d, .int .i64 nu, .int .i64 de]] w fun e w' => e = .returned (.bool true) ∧ Below w.heap.size w w' := by
  have T1 := fun W => time_t a A hA W
  have T2 := fun W => time_t now NOW hNOW W
  have T3 := fun W => time_t n N hN W
  have T4 := fun W => time_t m M hM W
  have F1 := fun W => fine_t p d nu de P D NU DE hP hD hNU hDE W
  have L1 := fun W => Later_t NOW N X 0 hX hXe W
  have L2 := fun W => Later_t X M Y 0 hY hYe W
  have L3 := fun W => Later_t NOW (N + M) Y 0 hZ hZe W
  have E1 := fun W => Expired_t A NOW P D NU DE false hp k1 W
  have E2 := fun W => Expired_t A X P D NU DE true hq k2 W
  have A1 := fun W => Ahead_t A NOW P D NU DE true hr k1 W
  have A2 := fun W => Ahead_t A X P D NU DE true hs k2 W
  have C1 := fun W => check_t P D NU DE 0 hc W
  have K1 := fun W => look_t A NOW P D NU DE _ hl W
  have HT1 := Lib.hid T1
  have HT2 := Lib.hid T2
  have HT3 := Lib.hid T3
  have HT4 := Lib.hid T4
  have HF1 := Lib.hid F1
  have HL1 := Lib.hid L1
  have HL2 := Lib.hid L2
  have HL3 := Lib.hid L3
  have HE1 := Lib.hid E1
  have HE2 := Lib.hid E2
  have HA1 := Lib.hid A1
  have HA2 := Lib.hid A2
  have HC1 := Lib.hid C1
  have HK1 := Lib.hid K1
  clear T1 T2 T3 T4 F1 L1 L2 L3 E1 E2 A1 A2 C1 K1 hA hNOW hN hM hP hD hNU hDE hX hXe hY hYe hZ hZe hc k1 k2 hp hq hr hs hl
  go_enter Try.func11, Try.ntmps11
  go_wp2_with (first | (go_at_call 10; (with_reducible refine (Known_any _).mono ?_); rintro e w1 ⟨rfl, hb1⟩; have hz1 := hb1.size; have B0 : w1.heap[w.heap.size]? = some _ := kb_below hb1 (by (repeat (with_reducible (first | assumption | (apply kb_new; (focus (simp; done))) | apply kb_alloc | apply kb_drew | apply kb_drewN | apply kb_set | (apply kb_far; (focus (first | (simp; done) | (simp; omega)))))))); have c0 := kb_cell B0; have z0 := kb_frozen B0) | (go_at_call 49; (with_reducible refine (HF1.out _).mono ?_); rintro e w1 ⟨rfl, hb1⟩; have hz1 := hb1.size; have B0 : w1.heap[w.heap.size]? = some _ := kb_below hb1 (by (repeat (with_reducible (first | assumption | (apply kb_new; (focus (simp; done))) | apply kb_alloc | apply kb_drew | apply kb_drewN | apply kb_set | (apply kb_far; (focus (first | (simp; done) | (simp; omega)))))))); have c0 := kb_cell B0; have z0 := kb_frozen B0) | (go_at_call 50; (with_reducible refine (HT1.out _).mono ?_); rintro e w1 ⟨rfl, rfl⟩) | (go_at_call 50; (with_reducible refine (HT2.out _).mono ?_); rintro e w1 ⟨rfl, rfl⟩) | (go_at_call 50; (with_reducible refine (HT3.out _).mono ?_); rintro e w1 ⟨rfl, rfl⟩) | (go_at_call 50; (with_reducible refine (HT4.out _).mono ?_); rintro e w1 ⟨rfl, rfl⟩) | (go_at_call 20; (with_reducible refine (HL1.out _).mono ?_); rintro e w1 ⟨rfl, hb1⟩; have hz1 := hb1.size; have B0 : w1.heap[w.heap.size]? = some _ := kb_below hb1 (by (repeat (with_reducible (first | assumption | (apply kb_new; (focus (simp; done))) | apply kb_alloc | apply kb_drew | apply kb_drewN | apply kb_set | (apply kb_far; (focus (first | (simp; done) | (simp; omega)))))))); have c0 := kb_cell B0; have z0 := kb_frozen B0) | (go_at_call 20; (with_reducible refine (HL2.out _).mono ?_); rintro e w1 ⟨rfl, hb1⟩; have hz1 := hb1.size; have B0 : w1.heap[w.heap.size]? = some _ := kb_below hb1 (by (repeat (with_reducible (first | assumption | (apply kb_new; (focus (simp; done))) | apply kb_alloc | apply kb_drew | apply kb_drewN | apply kb_set | (apply kb_far; (focus (first | (simp; done) | (simp; omega)))))))); have c0 := kb_cell B0; have z0 := kb_frozen B0) | (go_at_call 20; (with_reducible refine (HL3.out _).mono ?_); rintro e w1 ⟨rfl, hb1⟩; have hz1 := hb1.size; have B0 : w1.heap[w.heap.size]? = some _ := kb_below hb1 (by (repeat (with_reducible (first | assumption | (apply kb_new; (focus (simp; done))) | apply kb_alloc | apply kb_drew | apply kb_drewN | apply kb_set | (apply kb_far; (focus (first | (simp; done) | (simp; omega)))))))); have c0 := kb_cell B0; have z0 := kb_frozen B0) | (go_at_call 41; (with_reducible refine (HC1.out _).mono ?_); rintro e w1 ⟨rfl, hb1⟩; have hz1 := hb1.size; have B0 : w1.heap[w.heap.size]? = some _ := kb_below hb1 (by (repeat (with_reducible (first | assumption | (apply kb_new; (focus (simp; done))) | apply kb_alloc | apply kb_drew | apply kb_drewN | apply kb_set | (apply kb_far; (focus (first | (simp; done) | (simp; omega)))))))); have c0 := kb_cell B0; have z0 := kb_frozen B0) | (go_at_call 35; (with_reducible refine (HE1.out _).mono ?_); rintro e w1 ⟨rfl, hb1⟩; have hz1 := hb1.size; have B0 : w1.heap[w.heap.size]? = some _ := kb_below hb1 (by (repeat (with_reducible (first | assumption | (apply kb_new; (focus (simp; done))) | apply kb_alloc | apply kb_drew | apply kb_drewN | apply kb_set | (apply kb_far; (focus (first | (simp; done) | (simp; omega)))))))); have c0 := kb_cell B0; have z0 := kb_frozen B0) | (go_at_call 35; (with_reducible refine (HE2.out _).mono ?_); rintro e w1 ⟨rfl, hb1⟩; have hz1 := hb1.size; have B0 : w1.heap[w.heap.size]? = some _ := kb_below hb1 (by (repeat (with_reducible (first | assumption | (apply kb_new; (focus (simp; done))) | apply kb_alloc | apply kb_drew | apply kb_drewN | apply kb_set | (apply kb_far; (focus (first | (simp; done) | (simp; omega)))))))); have c0 := kb_cell B0; have z0 := kb_frozen B0) | (go_at_call 37; (with_reducible refine (HA1.out _).mono ?_); rintro e w1 ⟨rfl, hb1⟩; have hz1 := hb1.size; have B0 : w1.heap[w.heap.size]? = some _ := kb_below hb1 (by (repeat (with_reducible (first | assumption | (apply kb_new; (focus (simp; done))) | apply kb_alloc | apply kb_drew | apply kb_drewN | apply kb_set | (apply kb_far; (focus (first | (simp; done) | (simp; omega)))))))); have c0 := kb_cell B0; have z0 := kb_frozen B0) | (go_at_call 37; (with_reducible refine (HA2.out _).mono ?_); rintro e w1 ⟨rfl, hb1⟩; have hz1 := hb1.size; have B0 : w1.heap[w.heap.size]? = some _ := kb_below hb1 (by (repeat (with_reducible (first | assumption | (apply kb_new; (focus (simp; done))) | apply kb_alloc | apply kb_drew | apply kb_drewN | apply kb_set | (apply kb_far; (focus (first | (simp; done) | (simp; omega)))))))); have c0 := kb_cell B0; have z0 := kb_frozen B0) | (go_at_call 39; (with_reducible refine (HK1.out _).mono ?_); rintro e w1 ⟨rfl, hb1⟩; have hz1 := hb1.size; have B0 : w1.heap[w.heap.size]? = some _ := kb_below hb1 (by (repeat (with_reducible (first | assumption | (apply kb_new; (focus (simp; done))) | apply kb_alloc | apply kb_drew | apply kb_drewN | apply kb_set | (apply kb_far; (focus (first | (simp; done) | (simp; omega)))))))); have c0 := kb_cell B0; have z0 := kb_frozen B0))
  go_ret
  exact ⟨rfl, by (repeat (with_reducible (first | exact Below.refl _ _ | assumption | refine bl_alloc ?_ _ | refine bl_drew ?_ | refine bl_drewN ?_ _ | (refine bl_set ?_ ?_ _; (focus (first | (simp; done) | (simp; omega) | omega))) | refine bl_then ?_ (by assumption))))⟩

end Go.Proofs.Ytocibljkmgffeaa
