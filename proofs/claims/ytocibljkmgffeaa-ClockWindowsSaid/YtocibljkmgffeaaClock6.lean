/- The clock's laws without the reference: fine, time, inside. -/
import Derived.Test.YtocibljkmgffeaaClock5
import Derived.Test.YtocibljkmgffeaaKit
import Derived.StillTailTactics
namespace Go.Proofs.Ytocibljkmgffeaa
open Go.RowKit Go.Proofs.Ytocibljkmgffeaa.Ck BigFrame
attribute [local go_sem] cell_alloc_some frozen_alloc_some

def finP (p : Int) : Int := 1 + pickN p 1099511627776
def finD (d : Int) : Int := pickN d 1099511627777
def finM (m : Int) : Int := 1 + pickN m 100
def finN (n m : Int) : Int := (finM m + 2) / 3 + pickN n (finM m - (finM m + 2) / 3 + 1)

theorem finM_bd (m : Int) : 1 ≤ finM m ∧ finM m ≤ 100 := by have := @pick_bd m 100 (by omega); unfold finM; omega

set_option maxHeartbeats 400000 in
theorem fine_fn (p d n m : Int) (w : World) :
    Calls Try.prog 49 #[.agg #[.int .i64 p, .int .i64 d, .int .i64 n, .int .i64 m]] w fun e w' => e = .returned (.agg #[.int .i64 (finP p), .int .i64 (finD d), .int .i64 (finN n m), .int .i64 (finM m)]) ∧ Below w.heap.size w w' := by
  have ⟨q1, q2⟩ := @pick_bd m 100 (by omega)
  have ⟨q3, q4⟩ := @pick_bd p 1099511627776 (by omega)
  have ⟨q5, q6⟩ := @pick_bd d 1099511627777 (by omega)
  go_enter Try.func49, Try.ntmps49
  go_wp2_with (go_at_call 34; (with_reducible refine (Pick_any _ _ _ (by omega)).mono ?_); rintro e w1 ⟨rfl, rfl⟩)
  have B0 : ((w.alloc (.cells #[.int .i64 p, .int .i64 d, .int .i64 n, .int .i64 m] 30)).alloc (.cells #[.int .i64 0, .int .i64 0, .int .i64 0, .int .i64 0] 30)).heap[w.heap.size]? = some _ := kb_alloc (kb_new rfl _) _
  have B1 : ((w.alloc (.cells #[.int .i64 p, .int .i64 d, .int .i64 n, .int .i64 m] 30)).alloc (.cells #[.int .i64 0, .int .i64 0, .int .i64 0, .int .i64 0] 30)).heap[w.heap.size + 1]? = some _ := kb_new (by simp) _
  have hb : Below w.heap.size w ((w.alloc (.cells #[.int .i64 p, .int .i64 d, .int .i64 n, .int .i64 m] 30)).alloc (.cells #[.int .i64 0, .int .i64 0, .int .i64 0, .int .i64 0] 30)) := by (repeat (with_reducible (first | exact Below.refl _ _ | assumption | refine bl_alloc ?_ _ | refine bl_drew ?_ | refine bl_drewN ?_ _ | (refine bl_set ?_ ?_ _; (focus (first | (simp; done) | (simp; omega) | omega))) | refine bl_then ?_ (by assumption))))
  generalize ((w.alloc (.cells #[.int .i64 p, .int .i64 d, .int .i64 n, .int .i64 m] 30)).alloc (.cells #[.int .i64 0, .int .i64 0, .int .i64 0, .int .i64 0] 30)) = W at *
  have c0 := kb_cell B0
  have c1 := kb_cell B1
  have z1 := kb_frozen B1
  have K : ∀ (x n : Int) (W : World), n ≤ 4611686018427387904 → Calls Try.prog 34 #[.int .i64 x, .int .i64 n] W fun e w' => e = .returned (.int .i64 (pickN x n)) ∧ w' = W := fun x n W h => (Pick_any x n W h).mono fun _ _ h => ⟨h.1, h.2.symm⟩
  have KH := Lib.hid K
  clear K
  have ⟨q7, q8⟩ := @pick_bd n (1 + pickN m 100 - (1 + pickN m 100 + 2) / 3 + 1) (by omega)
  have s1 : IntKind.i64.wrap (1 + pickN m 100 - (1 + pickN m 100 + 2) / 3) = 1 + pickN m 100 - (1 + pickN m 100 + 2) / 3 := IntWalk.i64_in _ (by omega)
  have s2 : IntKind.i64.wrap (1 + pickN m 100 - (1 + pickN m 100 + 2) / 3 + 1) = 1 + pickN m 100 - (1 + pickN m 100 + 2) / 3 + 1 := IntWalk.i64_in _ (by omega)
  have s3 : IntKind.i64.wrap ((1 + pickN m 100 + 2) / 3 + pickN n (1 + pickN m 100 - (1 + pickN m 100 + 2) / 3 + 1)) = (1 + pickN m 100 + 2) / 3 + pickN n (1 + pickN m 100 - (1 + pickN m 100 + 2) / 3 + 1) := IntWalk.i64_in _ (by omega)
  go_still_tail 18, (by kernel_rfl)
  still_call (KH.out _ _ _ (by omega))
  repeat still_step
  still_call (KH.out _ _ _ (by omega))
  repeat still_step
  still_call (KH.out _ _ _ (by omega))
  repeat still_step
  refine wpStill_nil ?_
  change wpList _ _ _ _ _ W.drew
  go_wp2
  exact bodyPost_ret (v := .agg #[.int .i64 (finP p), .int .i64 (finD d), .int .i64 (finN n m), .int .i64 (finM m)]) (by simp [results, Try.results49, go_sem, c1, finP, finD, finN, finM]) rfl ⟨rfl, by (repeat (with_reducible (first | exact Below.refl _ _ | assumption | refine bl_alloc ?_ _ | refine bl_drew ?_ | refine bl_drewN ?_ _ | (refine bl_set ?_ ?_ _; (focus (first | (simp; done) | (simp; omega) | omega))) | refine bl_then ?_ (by assumption))))⟩
theorem fin_chk (p d n m : Int) : chkT (finP p) (finD d) (finN n m) (finM m) = 0 := by
  have ⟨q1, q2⟩ := @pick_bd m 100 (by omega)
  have ⟨q3, q4⟩ := @pick_bd p 1099511627776 (by omega)
  have ⟨q5, q6⟩ := @pick_bd d 1099511627777 (by omega)
  have hm : finM m = 1 + pickN m 100 := rfl
  have ⟨q7, q8⟩ := @pick_bd n (finM m - (finM m + 2) / 3 + 1) (by omega)
  have hs : saneB (finP p) (finD d) (finN n m) (finM m) = true := by
    simp only [saneB, Bool.and_eq_true, fineB_iff, finP, finD, finN]
    omega
  have h3 : ¬ 3 * finN n m < finM m := by simp only [finN]; omega
  simp [chkT, hs, h3]

theorem fine_t (p d n m P D N M : Int) (h1 : finP p = P) (h2 : finD d = D) (h3 : finN n m = N) (h4 : finM m = M) (w : World) :
    Calls Try.prog 49 #[.agg #[.int .i64 p, .int .i64 d, .int .i64 n, .int .i64 m]] w fun e w' => e = .returned (.agg #[.int .i64 P, .int .i64 D, .int .i64 N, .int .i64 M]) ∧ Below w.heap.size w w' := by
  subst h1 h2 h3 h4
  exact fine_fn p d n m w

def timN (x : Int) : Int := pickN x 1099511627777
theorem timN_bd (x : Int) : 0 ≤ timN x ∧ timN x ≤ 1099511627776 := by have := @pick_bd x 1099511627777 (by omega); unfold timN; omega

set_option maxHeartbeats 400000 in
theorem time_t (x T : Int) (h : timN x = T) (w : World) :
    Calls Try.prog 50 #[.int .i64 x] w fun e w' => e = .returned (.int .i64 T) ∧ w = w' := by
  subst h
  go_enter Try.func50, Try.ntmps50
  go_wp2_with (go_at_call 34; (with_reducible refine (Pick_any _ _ _ (by omega)).mono ?_); rintro e w1 ⟨rfl, rfl⟩)
  go_ret
  exact ⟨rfl, rfl⟩

/-- Is a step in time at a clock? -/
def insB (a b now p d n m : Int) : Bool := decide (askT a now p d n m = 0) && decide (askT b now p d n m = 0) && !expdB a now p d n m && !ahdB b now p d n m

set_option maxHeartbeats 400000 in
theorem inside_t (a b now p d n m : Int) (v : Bool) (h : insB a b now p d n m = v) (w : World) :
    Calls Try.prog 51 #[.int .i64 a, .int .i64 b, .int .i64 now, .agg #[.int .i64 p, .int .i64 d, .int .i64 n, .int .i64 m]] w fun e w' => e = .returned (.bool v) ∧ Below w.heap.size w w' := by
  subst h
  by_cases h1 : askT a now p d n m = 0
  · by_cases h2 : askT b now p d n m = 0
    · cases h3 : expdB a now p d n m <;> cases h4 : ahdB b now p d n m
      all_goals
        have h5 := Lib.hid (show insB a b now p d n m = _ by simp only [insB, h1, h2, h3, h4]; rfl)
        go_enter Try.func51, Try.ntmps51
        go_wp2_with (first | (go_at_call 35; (with_reducible refine (Expired_any _ _ _ _ _ _ _).mono ?_); rintro e w1 ⟨rfl, hb1⟩; have hz1 := hb1.size; have B0 : w1.heap[w.heap.size]? = some _ := kb_below hb1 (by (repeat (with_reducible (first | assumption | (apply kb_new; (focus (simp; done))) | apply kb_alloc | apply kb_drew | apply kb_drewN | apply kb_set | (apply kb_far; (focus (first | (simp; done) | (simp; omega)))))))); have c0 := kb_cell B0) | (go_at_call 37; (with_reducible refine (Ahead_any _ _ _ _ _ _ _).mono ?_); rintro e w1 ⟨rfl, hb1⟩; have hz1 := hb1.size; have B0 : w1.heap[w.heap.size]? = some _ := kb_below hb1 (by (repeat (with_reducible (first | assumption | (apply kb_new; (focus (simp; done))) | apply kb_alloc | apply kb_drew | apply kb_drewN | apply kb_set | (apply kb_far; (focus (first | (simp; done) | (simp; omega)))))))); have c0 := kb_cell B0))
        go_ret
        rw [h5.out]
        exact ⟨rfl, by (repeat (with_reducible (first | exact Below.refl _ _ | assumption | refine bl_alloc ?_ _ | refine bl_drew ?_ | refine bl_drewN ?_ _ | (refine bl_set ?_ ?_ _; (focus (first | (simp; done) | (simp; omega) | omega))) | refine bl_then ?_ (by assumption))))⟩
    · have h5 := Lib.hid (show insB a b now p d n m = false by simp [insB, h2])
      have hb := ne_beq h2
      go_enter Try.func51, Try.ntmps51
      go_wp2_with (first | (go_at_call 35; (with_reducible refine (Expired_any _ _ _ _ _ _ _).mono ?_); rintro e w1 ⟨rfl, hb1⟩; have hz1 := hb1.size; have B0 : w1.heap[w.heap.size]? = some _ := kb_below hb1 (by (repeat (with_reducible (first | assumption | (apply kb_new; (focus (simp; done))) | apply kb_alloc | apply kb_drew | apply kb_drewN | apply kb_set | (apply kb_far; (focus (first | (simp; done) | (simp; omega)))))))); have c0 := kb_cell B0) | (go_at_call 37; (with_reducible refine (Ahead_any _ _ _ _ _ _ _).mono ?_); rintro e w1 ⟨rfl, hb1⟩; have hz1 := hb1.size; have B0 : w1.heap[w.heap.size]? = some _ := kb_below hb1 (by (repeat (with_reducible (first | assumption | (apply kb_new; (focus (simp; done))) | apply kb_alloc | apply kb_drew | apply kb_drewN | apply kb_set | (apply kb_far; (focus (first | (simp; done) | (simp; omega)))))))); have c0 := kb_cell B0))
      go_ret
      rw [h5.out]
      exact ⟨rfl, by (repeat (with_reducible (first | exact Below.refl _ _ | assumption | refine bl_alloc ?_ _ | refine bl_drew ?_ | refine bl_drewN ?_ _ | (refine bl_set ?_ ?_ _; (focus (first | (simp; done) | (simp; omega) | omega))) | refine bl_then ?_ (by assumption))))⟩
  · have h5 := Lib.hid (show insB a b now p d n m = false by simp [insB, h1])
    have hb := ne_beq h1
    go_enter Try.func51, Try.ntmps51
    go_wp2_with (first | (go_at_call 35; (with_reducible refine (Expired_any _ _ _ _ _ _ _).mono ?_); rintro e w1 ⟨rfl, hb1⟩; have hz1 := hb1.size; have B0 : w1.heap[w.heap.size]? = some _ := kb_below hb1 (by (repeat (with_reducible (first | assumption | (apply kb_new; (focus (simp; done))) | apply kb_alloc | apply kb_drew | apply kb_drewN | apply kb_set | (apply kb_far; (focus (first | (simp; done) | (simp; omega)))))))); have c0 := kb_cell B0) | (go_at_call 37; (with_reducible refine (Ahead_any _ _ _ _ _ _ _).mono ?_); rintro e w1 ⟨rfl, hb1⟩; have hz1 := hb1.size; have B0 : w1.heap[w.heap.size]? = some _ := kb_below hb1 (by (repeat (with_reducible (first | assumption | (apply kb_new; (focus (simp; done))) | apply kb_alloc | apply kb_drew | apply kb_drewN | apply kb_set | (apply kb_far; (focus (first | (simp; done) | (simp; omega)))))))); have c0 := kb_cell B0))
    go_ret
    rw [h5.out]
    exact ⟨rfl, by (repeat (with_reducible (first | exact Below.refl _ _ | assumption | refine bl_alloc ?_ _ | refine bl_drew ?_ | refine bl_drewN ?_ _ | (refine bl_set ?_ ?_ _; (focus (first | (simp; done) | (simp; omega) | omega))) | refine bl_then ?_ (by assumption))))⟩

/-! ### Contracts at known values -/
theorem Expired_t (t a p d n m : Int) (v : Bool) (h : expdB t a p d n m = v) (h2 : askT t a p d n m = 0) (w : World) :
    Calls Try.prog 35 #[.int .i64 t, .int .i64 a, .agg #[.int .i64 p, .int .i64 d, .int .i64 n, .int .i64 m]] w fun e w' => e = .returned (.tuple #[.bool v, .int .i64 0]) ∧ Below w.heap.size w w' := by
  have := Expired_any t a p d n m w
  rwa [h, h2] at this
theorem Ahead_t (t a p d n m : Int) (v : Bool) (h : ahdB t a p d n m = v) (h2 : askT t a p d n m = 0) (w : World) :
    Calls Try.prog 37 #[.int .i64 t, .int .i64 a, .agg #[.int .i64 p, .int .i64 d, .int .i64 n, .int .i64 m]] w fun e w' => e = .returned (.tuple #[.bool v, .int .i64 0]) ∧ Below w.heap.size w w' := by
  have := Ahead_any t a p d n m w
  rwa [h, h2] at this
theorem Later_t (a n x e : Int) (h : laterN a n = x) (h2 : laterE a n = e) (w : World) :
    Calls Try.prog 20 #[.int .i64 a, .int .i64 n] w fun z w' => z = .returned (.tuple #[.int .i64 x, .int .i64 e]) ∧ Below w.heap.size w w' := by
  have := Later_any a n w
  rwa [h, h2] at this
theorem Window_t (a b p d n m x y e : Int) (h1 : winF a b p d n m = x) (h2 : winL a b p d n m = y) (h3 : winE a b p d n m = e) (w : World) :
    Calls Try.prog 22 #[.int .i64 a, .int .i64 b, .agg #[.int .i64 p, .int .i64 d, .int .i64 n, .int .i64 m]] w fun z w' => z = .returned (.tuple #[.int .i64 x, .int .i64 y, .int .i64 e]) ∧ Below w.heap.size w w' := by
  have := Window_any a b p d n m w
  rwa [h1, h2, h3] at this

theorem ask_ok {t a p d n m : Int} (hc : chkT p d n m = 0) (t1 : 0 ≤ t) (t2 : t ≤ 1099511627776) (a1 : 0 ≤ a) (a2 : a ≤ 1099511627776) : askT t a p d n m = 0 := by
  have h1 : timeB t = true := fineB_iff.2 ⟨t1, t2⟩
  have h2 : timeB a = true := fineB_iff.2 ⟨a1, a2⟩
  simp [askT, hc, h1, h2]
end Go.Proofs.Ytocibljkmgffeaa
